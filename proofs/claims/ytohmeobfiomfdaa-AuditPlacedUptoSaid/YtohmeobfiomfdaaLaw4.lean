/-
  The statement AuditTopos: what its steps answer.
-/
import Derived.Test.YtohmeobfiomfdaaLaw3
import Derived.Test.YtohmeobfiomfdaaTopo7
import Derived.Test.YtohmeobfiomfdaaFst5
import Derived.Test.YtohmeobfiomfdaaFst7
import Derived.Test.YtohmeobfiomfdaaFst9
namespace Go.Proofs.Ytohmeobfiomfdaa
open Go.RowKit Go.Shelf
set_option maxRecDepth 100000

theorem topErr_ok {n len r : Nat} {es : List Ed} {beh : Nat} (h : topErr n len r es beh = 0) : 1 ≤ n ∧ len = n ∧ n ≤ r ∧ ∀ e, e ∈ es → Valid n e := by
  unfold topErr at h
  by_cases h1 : sitErr (sizeErr n) n len r (n : Int) = 0
  · rw [if_neg (by simp [h1])] at h
    obtain ⟨a1, a2, a3⟩ := sit_zero1 h1
    exact ⟨a1, a2, a3, allValid_mem (overErr_ok h).1⟩
  · rw [if_pos h1] at h; exact absurd h h1

/-- What the doubled forest asks of each vertex. -/
def asks (ρ : Nat → Nat) (n v : Nat) : Nat := wantC (ρ v) (ρ (v + n))
theorem cV_least {n : Nat} {ss : List St} {ρ : Nat → Nat} {f : Fd} {B : Nat → Nat → Prop} (h : Least f B) : ∀ k, Least (cV n ss ρ f k) (fun v r => B v r ∨ (v < k ∧ r = 1 ∧ lab ss v ≠ asks ρ n v))
  | 0 => h.congr (fun v r => ⟨Or.inl, fun h => h.elim id (fun h => absurd h.1 (Nat.not_lt_zero _))⟩)
  | k + 1 => by
    refine ((cV_least h k).noted k 1 (colBad (lab ss k) (ρ k) (ρ (k + n))) (by decide)).congr (fun v r => ?_)
    have hb : colBad (lab ss k) (ρ k) (ρ (k + n)) = true ↔ lab ss k ≠ asks ρ n k := by unfold colBad asks; simp
    constructor
    · rintro ((h | ⟨h1, h2⟩) | ⟨h1, rfl, rfl⟩)
      · exact Or.inl h
      · exact Or.inr ⟨by omega, h2⟩
      · exact Or.inr ⟨by omega, rfl, hb.1 h1⟩
    · rintro (h | ⟨h1, h2, h3⟩)
      · exact Or.inl (Or.inl h)
      · by_cases e : v = k
        · subst e; exact Or.inr ⟨hb.2 h3, rfl, h2⟩
        · exact Or.inl (Or.inr ⟨by omega, h2, h3⟩)

theorem topos_r (n sb so rb cs b1 b2 eb eo r : Nat) (a ea : Option Addr) (cap : Nat) (es : List Ed) (beh : Nat) (ss : List St) (w : World)
    (hn : n ≤ 4294967295) (hs : IsSts w a sb so ss) (hr : r ≤ 5000)
    (hw : Wds w rb (List.replicate r 99)) (hF : Fed w b1 b2 eb eo ea cap es beh) (hA : b1 ≠ rb ∧ b2 ≠ rb ∧ eb ≠ rb ∧ sb ≠ rb) :
    Calls Try.prog 17 #[.int .u32 n, .func (.func 41) #[] #[.pointer (some ⟨b1, 0, none⟩), .pointer (some ⟨b2, 0, none⟩)], .slice a ss.length cs, .slice (some ⟨rb, 0, none⟩) r r] w fun e w' =>
      ∃ (x : Bool) (y z : Nat) (l' : List Nat), e = .returned (.tuple #[.agg #[.bool x, .int .u32 y, .int .i64 z], .int .i64 (topErr n ss.length r es beh)]) ∧
        Hid ((topErr n ss.length r es beh ≠ 0 → x = false ∧ y = 0 ∧ z = 0) ∧ (topErr n ss.length r es beh = 0 → ∃ f, verdC 0 f = #[.bool x, .int .u32 y, .int .i64 z] ∧ Least f (Btop ss es n))) ∧
        Hid (Wds w' rb l' ∧ l'.length = r ∧ (∀ j, n ≤ j → j < r → l'.getD j 0 = 99)) ∧ Chg (fun j => j = rb) w w' := by
  have hlr : (List.replicate r 99).length = r := List.length_replicate
  have h := topos_any n sb so rb cs b1 b2 eb eo a ea cap es beh ss (List.replicate r 99) w hn hs (by rw [hlr]; exact hr) hw hF hA
  rw [hlr] at h
  refine h.mono ?_
  rintro e w' ⟨x, y, z, l', h1, h2, h3, h4, h5, h6, h7⟩
  rw [hlr] at h1 h2 h3 h5
  refine ⟨x, y, z, l', h1, Lib.hid ⟨h2, fun h0 => ⟨_, h3 h0, topF_least (by rw [hlr]; exact (topErr_ok h0).2.2.1)⟩⟩, Lib.hid ⟨h4, h5, fun j hj hjr => ?_⟩, h7⟩
  rw [h6 j hj, List.getD_eq_getElem?_getD, List.getElem?_replicate, if_pos hjr]
  rfl

theorem twoc_r (n sb so rb cs b1 b2 eb eo r : Nat) (a ea : Option Addr) (cap : Nat) (es : List Ed) (beh : Nat) (ss : List St) (l : List Nat) (w : World)
    (hn : n ≤ 4294967295) (hs : IsSts w a sb so ss) (hr : r ≤ 5000) (hlr : l.length = r) (hfar : ∀ j, n ≤ j → j < r → l.getD j 0 = 99)
    (hw : Wds w rb l) (hF : Fed w b1 b2 eb eo ea cap es beh) (hA : b1 ≠ rb ∧ b2 ≠ rb ∧ eb ≠ rb ∧ sb ≠ rb) :
    Calls Try.prog 19 #[.int .u32 n, .func (.func 41) #[] #[.pointer (some ⟨b1, 0, none⟩), .pointer (some ⟨b2, 0, none⟩)], .slice a ss.length cs, .slice (some ⟨rb, 0, none⟩) r r] w fun e w' =>
      ∃ (x : Bool) (y z : Nat) (l' : List Nat), e = .returned (.tuple #[.agg #[.bool x, .int .u32 y, .int .i64 z], .int .i64 (sccErr n ss.length r es beh)]) ∧
        Hid ((sccErr n ss.length r es beh ≠ 0 → x = false ∧ y = 0 ∧ z = 0) ∧ (sccErr n ss.length r es beh = 0 → ∃ ρ, Roots (Dbl es n) ρ (2 * n) ∧ ∃ f, verdC 0 f = #[.bool x, .int .u32 y, .int .i64 z] ∧ Least f (Bword ss (asks ρ n) n))) ∧
        Hid (Wds w' rb l' ∧ l'.length = r ∧ (∀ j, n + n ≤ j → j < r → l'.getD j 0 = 99)) ∧ Chg (fun j => j = rb) w w' := by
  have h := twoc_any n sb so rb cs b1 b2 eb eo a ea cap es beh ss l w hn hs (by rw [hlr]; exact hr) hw hF hA
  rw [hlr] at h
  refine h.mono ?_
  rintro e w' ⟨x, y, z, l', h1, h2, h3, h4, h5, h6, h7⟩
  rw [hlr] at h1 h2 h3 h5
  refine ⟨x, y, z, l', h1, Lib.hid ⟨h2, fun h0 => ?_⟩, Lib.hid ⟨h4, h5, fun j hj hjr => by rw [h6 j hj]; exact hfar j (by omega) hjr⟩, h7⟩
  obtain ⟨ρ, hρ, hv⟩ := h3 h0
  refine ⟨ρ, hρ, _, hv, (cV_least Least.none n).congr (fun v r => ?_)⟩
  exact ⟨fun h => h.elim (fun h => h.elim) id, Or.inr⟩

theorem agree_all (x x' : Bool) (y y' z z' E : Nat) (w : World) (h0 : E = 0 → x = x' ∧ y = y' ∧ z = z') (h1 : E ≠ 0 → x = false ∧ y = 0 ∧ z = 0) :
    Calls Try.prog 14 #[.agg #[.bool x, .int .u32 y, .int .i64 z], .int .i64 E, .agg #[.bool x', .int .u32 y', .int .i64 z'], .int .i64 E] w fun e w' => e = .returned (.bool true) ∧ Below w.heap.size w w' := by
  by_cases hE : E = 0
  · obtain ⟨rfl, rfl, rfl⟩ := h0 hE
    subst hE
    exact agree_ok x y z w
  · obtain ⟨rfl, rfl, rfl⟩ := h1 hE
    exact agree_err x' y' z' E w hE

theorem refTopos_x (n sb so sc ec eb eo : Nat) (a ea : Option Addr) (es : List Ed) (ss : List St) (w : World) (hs : IsSts w a sb so ss) (hE : IsEds w ea eb eo es) (hss : ss.length = n) (hn : n ≤ 5000) (hn1 : 1 ≤ n) (hlen : es.length ≤ 1048576) (hva : ∀ e, e ∈ es → Valid n e) :
    Calls Try.prog 18 #[.int .u32 n, .slice ea es.length ec, .slice a ss.length sc] w fun e w' => ∃ (x : Bool) (y z : Nat), e = .returned (.agg #[.bool x, .int .u32 y, .int .i64 z]) ∧ Hid (∃ f, verdC 0 f = #[.bool x, .int .u32 y, .int .i64 z] ∧ Least f (Btop ss es n)) ∧ Below w.heap.size w w' := by
  rw [hss]
  refine (refTopos_any n sb so sc ec eb eo a ea es ss w hs hE hss hn hn1 hlen hva).mono ?_
  rintro e w' ⟨x, y, z, h1, h2, h3⟩
  exact ⟨x, y, z, h1, Lib.hid h2, h3⟩
theorem refColours_x (n ec eb eo : Nat) (ea : Option Addr) (es : List Ed) (ρ2 : Nat → Nat) (w : World) (hE : IsEds w ea eb eo es) (hn : n ≤ 5000) (hn1 : 1 ≤ n) (hlen : es.length ≤ 1048576) (hva : ∀ e, e ∈ es → Valid n e) (hr : Roots (Dbl es n) ρ2 (2 * n)) :
    Calls Try.prog 21 #[.int .u32 n, .slice ea es.length ec] w fun e w' => ∃ (g : Nat) (T : List Nat), e = .returned (.slice (some ⟨g, 0, none⟩) n n) ∧ w.heap.size ≤ g ∧ Hid (Wds w' g T) ∧ T.length = n ∧ Hid (∀ v, v < n → T.getD v 0 = asks ρ2 n v) ∧ Below w.heap.size w w' := by
  refine (refColours_any n ec eb eo ea es w hE hn hn1 hlen hva).mono ?_
  rintro e w' ⟨g, T, h1, h2, h3, h4, h5, h6⟩
  exact ⟨g, T, h1, h2, Lib.hid h3, h4, Lib.hid (h5 ρ2 hr), h6⟩
theorem refWords_x (n sb so sc tb tc : Nat) (a : Option Addr) (ss : List St) (T : List Nat) (F : Nat → Nat) (w : World) (hs : IsSts w a sb so ss) (hss : ss.length = n) (hn : n ≤ 5000) (hn1 : 1 ≤ n) (hT : Wds w tb T) (hTl : T.length = n) (hF : ∀ v, v < n → T.getD v 0 = F v) :
    Calls Try.prog 20 #[.int .u32 n, .slice a ss.length sc, .int .i64 0, .slice (some ⟨tb, 0, none⟩) n tc] w fun e w' => ∃ (x : Bool) (y z : Nat), e = .returned (.agg #[.bool x, .int .u32 y, .int .i64 z]) ∧ Hid (∃ f, verdC 0 f = #[.bool x, .int .u32 y, .int .i64 z] ∧ Least f (Bword ss F n)) ∧ Below w.heap.size w w' := by
  rw [hss]
  refine (refWords_any n sb so sc tb tc a ss T w hs hss hn hn1 hT (by omega)).mono ?_
  rintro e w' ⟨x, y, z, h1, ⟨f, h2, h3⟩, h4⟩
  refine ⟨x, y, z, h1, Lib.hid ⟨f, h2, h3.congr (fun v r => ?_)⟩, h4⟩
  unfold Bword
  constructor
  · rintro ⟨a1, a2, a3⟩; exact ⟨a1, a2, fun e => a3 (e.trans (hF v a1).symm)⟩
  · rintro ⟨a1, a2, a3⟩; exact ⟨a1, a2, fun e => a3 (e.trans (hF v a1))⟩
theorem spare_n (rb n r : Nat) (l : List Nat) (w : World) (hw : Wds w rb l) (hl : l.length = r) (hr : r ≤ 5000) (hn : n ≤ 4294967295) (h : ∀ j, n ≤ j → j < r → l.getD j 0 = 99) :
    Calls Try.prog 16 #[.slice (some ⟨rb, 0, none⟩) r r, .int .i64 n] w fun e w' => e = .returned (.bool true) ∧ w = w' := by
  subst hl
  exact spare_any rb n l w hw hr (by omega) h

theorem isBlk.put3 {w : World} {b : Nat} {T : TypeId} {x0 x1 x2 : Value} (h : isBlk w b T [x0, x1, x2]) (y0 y1 y2 : Value) :
    isBlk (((w.setCell ⟨b, 0, none⟩ y0).setCell ⟨b, 1, none⟩ y1).setCell ⟨b, 2, none⟩ y2) b T [y0, y1, y2] := ((h.set 0 y0).set 1 y1).set 2 y2
theorem isBlk.off3 {w : World} {b c : Nat} {T : TypeId} {vs : List Value} (h : isBlk w c T vs) (hc : c ≠ b) (y0 y1 y2 : Value) :
    isBlk (((w.setCell ⟨b, 0, none⟩ y0).setCell ⟨b, 1, none⟩ y1).setCell ⟨b, 2, none⟩ y2) c T vs := ((h.other hc).other hc).other hc
theorem kD_of {W X : World} {vb rb : Nat} (h : Chg (Two vb rb) W X) : W.heap.size ≤ X.heap.size ∧ (∀ b o, b ≠ vb → b ≠ rb → b < W.heap.size → X.cell? ⟨b, o, none⟩ = W.cell? ⟨b, o, none⟩) ∧ Hid (Chg (Two vb rb) W X) :=
  ⟨h.size, fun b o hv hb hx => cell_heap (a := ⟨b, o, none⟩) (h.block b hx (fun e => e.elim hv hb)), Lib.hid h⟩
theorem Chg.tail {vb rb : Nat} {W X Y : World} (h : Chg (Two vb rb) W X) (k : Chg (fun j => j = rb) X Y) : Chg (Two vb rb) W Y := h.trans (k.mono (fun _ e => Or.inr e))
theorem Chg.vset {vb rb : Nat} {W X : World} (h : Chg (Two vb rb) W X) {o : Nat} (v : Value) : Chg (Two vb rb) W (X.setCell ⟨vb, o, none⟩ v) := h.set (Or.inl (Or.inl rfl)) v
theorem Chg.oset {wb : Nat} {W X : World} (h : Chg (fun j => j = wb) W X) {o : Nat} (v : Value) : Chg (fun j => j = wb) W (X.setCell ⟨wb, o, none⟩ v) := h.set (Or.inl rfl) v

end Go.Proofs.Ytohmeobfiomfdaa
