/-
  The statement AuditSccs: the walk.
-/
import Derived.Test.YtohmeobfiomfdaaRef4
import Derived.Test.YtohmeobfiomfdaaHelp2
import Derived.Test.YtohmeobfiomfdaaHelp3
namespace Go.Proofs.Ytohmeobfiomfdaa
open Go.RowKit Go.Shelf
set_option maxRecDepth 100000

theorem feedF_any (a : Option Addr) (cap eb eo : Nat) (es : List Ed) (beh : Nat) (w : World) (hE : IsEds w a eb eo es) (hlen : es.length ≤ 1048576) :
    Calls Try.prog 9 #[.slice a es.length cap, .int .i64 beh] w fun e w' => ∃ (b1 b2 : Nat) (a2 : Option Addr) (cap2 g : Nat), e = .returned (.func (.func 41) #[] #[.pointer (some ⟨b1, 0, none⟩), .pointer (some ⟨b2, 0, none⟩)]) ∧
      Fed w' b1 b2 g 0 a2 cap2 es beh ∧ w.heap.size ≤ b1 ∧ w.heap.size ≤ b2 ∧ w.heap.size ≤ g ∧ Below w.heap.size w w' := by
  refine (feed_any a cap eb eo es beh w hE (by omega)).mono ?_
  rintro e w' ⟨b1, b2, a2, cap2, g, rfl, h1, h2, h3, h4, h5, h6, h7⟩
  have hb1 := World.block_lt_of_cell? w' _ h1
  simp only [] at hb1
  by_cases h0 : 0 < es.length
  · exact ⟨b1, b2, a2, cap2, g, rfl, ⟨h1, h2, h3, h3.lt h0, by omega⟩, h4, h5, h6 h0, h7⟩
  · obtain rfl : es = [] := List.length_eq_zero_iff.1 (by omega)
    exact ⟨b1, b2, a2, cap2, b1, rfl, ⟨h1, h2, IsEds.none _ _ _ _, hb1, by simp⟩, h4, h5, h4, h7⟩

theorem sccErr_ok {n len r : Nat} {es : List Ed} {beh : Nat} (h : sccErr n len r es beh = 0) : 1 ≤ n ∧ len = n ∧ n + n ≤ r ∧ ∀ e, e ∈ es → Valid n e := by
  unfold sccErr at h
  by_cases h1 : sitErr (sizeErr n) n len r (2 * (n : Int)) = 0
  · rw [if_neg (by simp [h1])] at h
    obtain ⟨a1, a2, a3⟩ := sit_zero h1
    exact ⟨a1, a2, a3, allValid_mem (overErr_ok h).1⟩
  · rw [if_pos h1] at h; exact absurd h h1

/-- What the statement keeps while it goes on. -/
structure LawW (w0 : World) (pb g rb : Nat) (vs : List Value) (ss : List St) (l : List Nat) (W : World) : Prop where
  p : isBlk W pb 30 vs
  m : IsSts W (some ⟨g, 0, none⟩) g 0 (ss ++ [mark 77, mark 78])
  r : Wds W rb l
  b : Below w0.heap.size w0 W
  z : w0.heap.size ≤ pb ∧ w0.heap.size ≤ g ∧ w0.heap.size ≤ rb
  n : pb ≠ rb ∧ g ≠ rb ∧ g < W.heap.size
theorem LawW.below {w0 W W' : World} {pb g rb : Nat} {vs : List Value} {ss : List St} {l : List Nat} (h : LawW w0 pb g rb vs ss l W) (hb : Below W.heap.size W W') : LawW w0 pb g rb vs ss l W' where
  p := h.p.below hb h.p.lt
  m := h.m.below hb h.m.lt
  r := h.r.keep (hb.block _ h.r.lt) hb.size
  b := h.b.trans (hb.mono h.b.size)
  z := h.z
  n := ⟨h.n.1, h.n.2.1, Nat.lt_of_lt_of_le h.n.2.2 hb.size⟩

theorem IsEds.ch0 {w w' : World} {a : Option Addr} {eb eo : Nat} {es : List Ed} (h : IsEds w a eb eo es) (hc : Chg (fun _ => False) w w') : IsEds w' a eb eo es :=
  h.keep (fun h0 => hc.block _ (h.lt h0) id) hc.size
theorem LawW.ch0 {w0 W W' : World} {pb g rb : Nat} {vs : List Value} {ss : List St} {l : List Nat} (h : LawW w0 pb g rb vs ss l W) (hc : Chg (fun _ => False) W W') : LawW w0 pb g rb vs ss l W' :=
  h.below (hc.below (Nat.le_refl _) (fun _ hj => hj.elim))
theorem Fed.ch0 {w w' : World} {b1 b2 eb eo cap beh : Nat} {a : Option Addr} {es : List Ed} (h : Fed w b1 b2 eb eo a cap es beh) (hc : Chg (fun _ => False) w w') : Fed w' b1 b2 eb eo a cap es beh :=
  h.keep (fun _ hj _ => hc.block _ hj id) hc.size
theorem IsSts.left {w : World} {a : Option Addr} {sb so : Nat} {l m : List St} (h : IsSts w a sb so (l ++ m)) : IsSts w a sb so l where
  ad := fun h0 => h.ad (by rw [List.length_append]; omega)
  lt := fun h0 => h.lt (by rw [List.length_append]; omega)
  c0 := fun j hj => by have := h.c0 j (by rw [List.length_append]; omega); rwa [List.getElem_append_left hj] at this
  c1 := fun j hj => by have := h.c1 j (by rw [List.length_append]; omega); rwa [List.getElem_append_left hj] at this
  c2 := fun j hj => by have := h.c2 j (by rw [List.length_append]; omega); rwa [List.getElem_append_left hj] at this
  c3 := fun j hj => by have := h.c3 j (by rw [List.length_append]; omega); rwa [List.getElem_append_left hj] at this
  c4 := fun j hj => by have := h.c4 j (by rw [List.length_append]; omega); rwa [List.getElem_append_left hj] at this
  c5 := fun j hj => by have := h.c5 j (by rw [List.length_append]; omega); rwa [List.getElem_append_left hj] at this
  c6 := fun j hj => by have := h.c6 j (by rw [List.length_append]; omega); rwa [List.getElem_append_left hj] at this
  c7 := fun j hj => by have := h.c7 j (by rw [List.length_append]; omega); rwa [List.getElem_append_left hj] at this
theorem kC_of {W X : World} {rb : Nat} (h : Chg (fun j => j = rb) W X) : W.heap.size ≤ X.heap.size ∧ (∀ b o, b ≠ rb → b < W.heap.size → X.cell? ⟨b, o, none⟩ = W.cell? ⟨b, o, none⟩) ∧ Hid (Chg (fun j => j = rb) W X) :=
  ⟨h.size, fun b o hb hx => cell_heap (a := ⟨b, o, none⟩) (h.block b hx hb), Lib.hid h⟩
theorem Chg.setNew {R : Nat → Prop} {a b : World} (h : Chg R a b) {p : Addr} (hp : a.heap.size ≤ p.block) (v : Value) : Chg R a (b.setCell p v) := h.set (Or.inr hp) v
theorem isBlk.cc {W X : World} {b rb : Nat} {T : TypeId} {vs : List Value} (h : isBlk W b T vs) (hc : Chg (fun j => j = rb) W X) (hb : ¬ b = rb) : isBlk X b T vs := (hc.block _ h.lt hb).trans h
theorem isBlk.set3 {w : World} {b : Nat} {T : TypeId} (h : isBlk w b T [.bool false, .int .u32 0, .int .i64 0]) (y0 y1 y2 : Value) :
    isBlk (((w.setCell ⟨b, 0, none⟩ y0).setCell ⟨b, 1, none⟩ y1).setCell ⟨b, 2, none⟩ y2) b T [y0, y1, y2] := ((h.set 0 y0).set 1 y1).set 2 y2
theorem LawW.fin {w0 W W' : World} {pb g rb : Nat} {vs : List Value} {ss : List St} {l l' : List Nat} (h : LawW w0 pb g rb vs ss l W) (hc : Chg (fun j => j = rb) W W') (hw : Wds W' rb l') : LawW w0 pb g rb vs ss l' W' where
  p := h.p.cc hc h.n.1
  m := h.m.keep (fun _ => hc.block _ h.n.2.2 h.n.2.1) hc.size
  r := hw
  b := h.b.trans (hc.below (h.b.size) (fun j hj => by rw [hj]; exact h.z.2.2))
  z := h.z
  n := ⟨h.n.1, h.n.2.1, Nat.lt_of_lt_of_le h.n.2.2 hc.size⟩
theorem chg_cell {W X : World} {rb : Nat} (h : Chg (fun j => j = rb) W X) : (∀ b o, ¬ b = rb → b < W.heap.size → X.cell? ⟨b, o, none⟩ = W.cell? ⟨b, o, none⟩) ∧ (∀ b o, ¬ b = rb → b < W.heap.size → X.frozen? ⟨b, o, none⟩ = W.frozen? ⟨b, o, none⟩) :=
  ⟨fun b o hb hx => cell_heap (a := ⟨b, o, none⟩) (h.block b hx hb), fun b o hb hx => frozen_heap (a := ⟨b, o, none⟩) (h.block b hx hb)⟩
theorem refSccs_x (n sb so sc ec eb eo : Nat) (a ea : Option Addr) (es : List Ed) (ss : List St) (w : World) (hs : IsSts w a sb so ss) (hE : IsEds w ea eb eo es) (hss : ss.length = n) (hn : n ≤ 5000) (hn1 : 1 ≤ n) (hlen : es.length ≤ 1048576) (hva : ∀ e, e ∈ es → Valid n e) :
    Calls Try.prog 13 #[.int .u32 n, .slice ea es.length ec, .slice a ss.length sc] w fun e w' => ∃ (x : Bool) (y z : Nat), e = .returned (.agg #[.bool x, .int .u32 y, .int .i64 z]) ∧ Hid (∃ f, verdC 0 f = #[.bool x, .int .u32 y, .int .i64 z] ∧ Least f (Bscc ss es n)) ∧ Below w.heap.size w w' := by
  rw [hss]
  refine (refSccs_any n sb so sc ec eb eo a ea es ss w hs hE hss hn hn1 hlen hva).mono ?_
  rintro e w' ⟨x, y, z, h1, h2, h3⟩
  exact ⟨x, y, z, h1, Lib.hid h2, h3⟩
theorem verd_eq {x x' : Bool} {y y' z z' : Nat} {B : Nat → Nat → Prop} (h1 : ∃ f, verdC 0 f = #[.bool x, .int .u32 y, .int .i64 z] ∧ Least f B) (h2 : ∃ f, verdC 0 f = #[.bool x', .int .u32 y', .int .i64 z'] ∧ Least f B) : x = x' ∧ y = y' ∧ z = z' := by
  obtain ⟨f, a1, a2⟩ := h1
  obtain ⟨f', b1, b2⟩ := h2
  have h := a2.unique b2 (fun _ _ => Iff.rfl)
  rw [a1, b1] at h
  simp only [Array.mk.injEq, List.cons.injEq, Value.bool.injEq, Value.int.injEq, true_and, and_true] at h
  exact ⟨h.1, by omega, by omega⟩
theorem LawW.set3 {w0 W : World} {pb g rb wb : Nat} {vs : List Value} {ss : List St} {l : List Nat} (h : LawW w0 pb g rb vs ss l W) (hz : w0.heap.size ≤ wb) (hn : wb ≠ pb ∧ wb ≠ g ∧ wb ≠ rb) (y0 y1 y2 : Value) :
    LawW w0 pb g rb vs ss l (((W.setCell ⟨wb, 0, none⟩ y0).setCell ⟨wb, 1, none⟩ y1).setCell ⟨wb, 2, none⟩ y2) where
  p := ((h.p.other hn.1.symm).other hn.1.symm).other hn.1.symm
  m := h.m.keep (fun _ => by rw [Below.heap_setCell _ _ _ _ hn.2.1.symm, Below.heap_setCell _ _ _ _ hn.2.1.symm, Below.heap_setCell _ _ _ _ hn.2.1.symm]) (by simp)
  r := ((h.r.other hn.2.2.symm).other hn.2.2.symm).other hn.2.2.symm
  b := Bset hz (Bset hz (Bset hz h.b))
  z := h.z
  n := ⟨h.n.1, h.n.2.1, by simpa using h.n.2.2⟩
theorem spare_r (rb n r : Nat) (l : List Nat) (w : World) (hw : Wds w rb l) (hl : l.length = r) (hr : r ≤ 5000) (hn : n ≤ 4294967295) (h : ∀ j, n + n ≤ j → j < r → l.getD j 0 = 99) :
    Calls Try.prog 16 #[.slice (some ⟨rb, 0, none⟩) r r, .int .i64 (2 * (n : Int))] w fun e w' => e = .returned (.bool true) ∧ w = w' := by
  subst hl
  rw [show (2 * (n : Int)) = ((n + n : Nat) : Int) by omega]
  exact spare_any rb (n + n) l w hw hr (by omega) h
theorem agree_err0 (E : Nat) (w : World) (hE : E ≠ 0) :
    Calls Try.prog 14 #[.agg #[.bool false, .int .u32 0, .int .i64 0], .int .i64 E, .agg #[.bool false, .int .u32 0, .int .i64 0], .int .i64 E] w fun e w' => e = .returned (.bool true) ∧ Below w.heap.size w w' := agree_err false 0 0 E w hE
theorem sized_s (n : Nat) (w : World) : Calls Try.prog 12 #[.int .u32 n] w fun e w' => e = .returned (.int .i64 (sizeErr n)) ∧ w = w' := sized_any n w
theorem agree_okE (x : Bool) (y z E : Nat) (w : World) (hE : E = 0) :
    Calls Try.prog 14 #[.agg #[.bool x, .int .u32 y, .int .i64 z], .int .i64 E, .agg #[.bool x, .int .u32 y, .int .i64 z], .int .i64 E] w fun e w' => e = .returned (.bool true) ∧ Below w.heap.size w w' := by
  subst hE
  exact agree_ok x y z w
theorem sccs_r (n sb so rb cs b1 b2 eb eo r : Nat) (a ea : Option Addr) (cap : Nat) (es : List Ed) (beh : Nat) (ss : List St) (w : World)
    (hn : n ≤ 4294967295) (hs : IsSts w a sb so ss) (hr : r ≤ 5000)
    (hw : Wds w rb (List.replicate r 99)) (hF : Fed w b1 b2 eb eo ea cap es beh) (hA : b1 ≠ rb ∧ b2 ≠ rb ∧ eb ≠ rb ∧ sb ≠ rb) :
    Calls Try.prog 8 #[.int .u32 n, .func (.func 41) #[] #[.pointer (some ⟨b1, 0, none⟩), .pointer (some ⟨b2, 0, none⟩)], .slice a ss.length cs, .slice (some ⟨rb, 0, none⟩) r r] w fun e w' =>
      ∃ (x : Bool) (y z : Nat) (l' : List Nat), e = .returned (.tuple #[.agg #[.bool x, .int .u32 y, .int .i64 z], .int .i64 (sccErr n ss.length r es beh)]) ∧
        Hid ((sccErr n ss.length r es beh ≠ 0 → x = false ∧ y = 0 ∧ z = 0) ∧ (sccErr n ss.length r es beh = 0 → ∃ f, verdC 0 f = #[.bool x, .int .u32 y, .int .i64 z] ∧ Least f (Bscc ss es n))) ∧
        Hid (Wds w' rb l' ∧ l'.length = r ∧ (∀ j, n + n ≤ j → j < r → l'.getD j 0 = 99)) ∧ Chg (fun j => j = rb) w w' := by
  have hlr : (List.replicate r 99).length = r := List.length_replicate
  have h := sccs_any n sb so rb cs b1 b2 eb eo a ea cap es beh ss (List.replicate r 99) w hn hs (by rw [hlr]; exact hr) hw hF hA
  rw [hlr] at h
  refine h.mono ?_
  rintro e w' ⟨x, y, z, l', h1, h2, h3, h4, h5, h6, h7⟩
  rw [hlr] at h1 h2 h3 h5
  refine ⟨x, y, z, l', h1, Lib.hid ⟨h2, h3⟩, Lib.hid ⟨h4, h5, fun j hj hjr => ?_⟩, h7⟩
  rw [h6 j hj, List.getD_eq_getElem?_getD, List.getElem?_replicate, if_pos hjr]
  rfl

set_option maxHeartbeats 8000000 in
theorem auditSccs_any (n sc eb eo sb so ec : Nat) (sa ea : Option Addr) (beh room : Int) (x5 x6 x7 x8 x9 x10 x11 x12 x13 : Value) (ss : List St) (es : List Ed) (w : World) (hn : n ≤ 4294967295) (hs : IsSts w sa sb so ss) (hE : IsEds w ea eb eo es) (hsl : ss.length ≤ 1048576) (hel : es.length ≤ 1048576) :
    Calls Try.prog 3 #[.agg #[.int .u32 n, .slice sa ss.length sc, .slice ea es.length ec, .int .i64 beh, .int .i64 room, x5, x6, x7, x8, x9, x10, x11, x12, x13]] w fun e w' => e = .returned (.bool true) ∧ Below w.heap.size w w' := by
  obtain ⟨r, hr⟩ : ∃ r, clip room 5000 = r := ⟨_, rfl⟩
  have hr5 : r ≤ 5000 := by rw [← hr]; unfold clip; omega
  have HR := Lib.hid hr
  clear hr
  have hB0 : Below w.heap.size w (w.alloc (.cells #[.int .u32 n, .slice sa ss.length sc, .slice ea es.length ec, .int .i64 beh, .int .i64 room, x5, x6, x7, x8, x9, x10, x11, x12, x13] 30)) := (by repeat (first | with_reducible exact Below.refl _ _ | with_reducible assumption | with_reducible refine below_drewN ?_ _ | with_reducible refine Below.drew ?_ | ((with_reducible refine Bset ?_ ?_); focus (first | omega | (simp; done) | (simp; omega))) | ((with_reducible refine Ball ?_ ?_); focus (first | omega | (simp; done) | (simp; omega)))))
  have hs0 := hs.below hB0 hs.lt
  have hE0 := hE.below hB0 hE.lt
  have hp0 := isBlk.new w 30 [.int .u32 n, .slice sa ss.length sc, .slice ea es.length ec, .int .i64 beh, .int .i64 room, x5, x6, x7, x8, x9, x10, x11, x12, x13]
  clear hB0
  go_enter Try.func3, Try.ntmps3
  go_upto_region 3 with (first | (go_at_call 6; ((with_reducible refine (states_any sa sb so sc ss ss.length _ hs0 hsl hsl).mono ?_); rintro e w1 ⟨g, gc, rfl, hgc, hm1, hgz, hb1⟩; rw [padS_all] at hm1; have hp1 := hp0.below hb1 hp0.lt; have hE1 := hE0.below hb1 hE0.lt; have hs1 := hs0.below hb1 hs0.lt; have hpl := hp1.lt; have c0 : w1.cell? ⟨w.heap.size, 0, none⟩ = some (.int .u32 n) := hp1.cell 0; have c1 : w1.cell? ⟨w.heap.size, 1, none⟩ = some (.slice sa ss.length sc) := hp1.cell 1; have c2 : w1.cell? ⟨w.heap.size, 2, none⟩ = some (.slice ea es.length ec) := hp1.cell 2; have c3 : w1.cell? ⟨w.heap.size, 3, none⟩ = some (.int .i64 beh) := hp1.cell 3; have c4 : w1.cell? ⟨w.heap.size, 4, none⟩ = some (.int .i64 room) := hp1.cell 4; have c5 : w1.cell? ⟨w.heap.size, 5, none⟩ = some (x5) := hp1.cell 5; have c6 : w1.cell? ⟨w.heap.size, 6, none⟩ = some (x6) := hp1.cell 6; have c7 : w1.cell? ⟨w.heap.size, 7, none⟩ = some (x7) := hp1.cell 7; have c8 : w1.cell? ⟨w.heap.size, 8, none⟩ = some (x8) := hp1.cell 8; have c9 : w1.cell? ⟨w.heap.size, 9, none⟩ = some (x9) := hp1.cell 9; have c10 : w1.cell? ⟨w.heap.size, 10, none⟩ = some (x10) := hp1.cell 10; have c11 : w1.cell? ⟨w.heap.size, 11, none⟩ = some (x11) := hp1.cell 11; have c12 : w1.cell? ⟨w.heap.size, 12, none⟩ = some (x12) := hp1.cell 12; have c13 : w1.cell? ⟨w.heap.size, 13, none⟩ = some (x13) := hp1.cell 13)) | (go_at_call 7; ((with_reducible refine (words_any _ _ _ _ _ _ _ _ _ _ _ _ _ _ _ _ _ _ _).mono ?_); rintro e w2 ⟨rb, rfl, hw2, hrz, hb2⟩; rw [HR.out] at hw2; rw [HR.out])))
  have HW : Hid (LawW w w.heap.size g rb [.int .u32 n, .slice sa ss.length sc, .slice ea es.length ec, .int .i64 beh, .int .i64 room, x5, x6, x7, x8, x9, x10, x11, x12, x13] ss (List.replicate r 99) w2) := Lib.hid ⟨hp1.below hb2 hp1.lt, hm1.below hb2 hm1.lt, hw2, Below.trans (Below.trans (Ball (Nat.le_refl _) (Below.refl _ _)) (hb1.mono (by simp))) (hb2.mono (by have := hb1.size; simp only [World.size_alloc] at this; omega)), ⟨Nat.le_refl _, by simp only [World.size_alloc] at hgz; omega, by have := hb1.size; simp only [World.size_alloc] at this; omega⟩, ⟨by omega, by have := hm1.lt (by simp); omega, by have := hm1.lt (by simp); have := hb2.size; omega⟩⟩
  have hE2 := hE1.below hb2 hE1.lt
  have hs2 := hs1.below hb2 hs1.lt
  have HE2 := Lib.hid (And.intro hE2 hs2)
  clear hE2 hs2 hp1 hm1 hgz hrz hb1 hw2 hp0 hs0 hE0 hE1 hs1 hpl c0 c1 c2 c3 c4 c5 c6 c7 c8 c9 c10 c11 c12 c13
  obtain ⟨pb, hpb⟩ : ∃ pb, w.heap.size = pb := ⟨_, rfl⟩
  rw [hpb] at HW ⊢
  have hpz : w.heap.size ≤ pb := by omega
  clear hpb hb2
  have hp2 := HW.out.p
  have c0 : w2.cell? ⟨pb, 0, none⟩ = some (.int .u32 n) := hp2.cell 0
  have c1 : w2.cell? ⟨pb, 1, none⟩ = some (.slice sa ss.length sc) := hp2.cell 1
  have c2 : w2.cell? ⟨pb, 2, none⟩ = some (.slice ea es.length ec) := hp2.cell 2
  have c3 : w2.cell? ⟨pb, 3, none⟩ = some (.int .i64 beh) := hp2.cell 3
  have c4 : w2.cell? ⟨pb, 4, none⟩ = some (.int .i64 room) := hp2.cell 4
  have c5 : w2.cell? ⟨pb, 5, none⟩ = some (x5) := hp2.cell 5
  have c6 : w2.cell? ⟨pb, 6, none⟩ = some (x6) := hp2.cell 6
  have c7 : w2.cell? ⟨pb, 7, none⟩ = some (x7) := hp2.cell 7
  have c8 : w2.cell? ⟨pb, 8, none⟩ = some (x8) := hp2.cell 8
  have c9 : w2.cell? ⟨pb, 9, none⟩ = some (x9) := hp2.cell 9
  have c10 : w2.cell? ⟨pb, 10, none⟩ = some (x10) := hp2.cell 10
  have c11 : w2.cell? ⟨pb, 11, none⟩ = some (x11) := hp2.cell 11
  have c12 : w2.cell? ⟨pb, 12, none⟩ = some (x12) := hp2.cell 12
  have c13 : w2.cell? ⟨pb, 13, none⟩ = some (x13) := hp2.cell 13
  have hpl := hp2.lt
  have hprb := HW.out.n.1
  go_cut [5, 6] (fun v5 v6 wx => ∃ (vb : Nat) (x : Bool) (y z : Nat) (l' : List Nat), v5 = .pointer (some ⟨vb, 0, none⟩) ∧ v6 = .int .i64 (sccErr n ss.length r es (clip beh 200)) ∧ isBlk wx vb 35 [.bool x, .int .u32 y, .int .i64 z] ∧
    Hid ((sccErr n ss.length r es (clip beh 200) ≠ 0 → x = false ∧ y = 0 ∧ z = 0) ∧ (sccErr n ss.length r es (clip beh 200) = 0 → ∃ f, verdC 0 f = #[.bool x, .int .u32 y, .int .i64 z] ∧ Least f (Bscc ss es n))) ∧
    Hid (LawW w pb g rb [.int .u32 n, .slice sa ss.length sc, .slice ea es.length ec, .int .i64 beh, .int .i64 room, x5, x6, x7, x8, x9, x10, x11, x12, x13] ss l' wx ∧ l'.length = r ∧ (∀ j, n + n ≤ j → j < r → l'.getD j 0 = 99)) ∧ Hid (Chg (fun j => j = rb) w2 wx))
  case first =>
    go_region_held3 (fun wz => w2.heap.size ≤ wz.heap.size ∧ (∀ b o, b ≠ rb → b < w2.heap.size → wz.cell? ⟨b, o, none⟩ = w2.cell? ⟨b, o, none⟩) ∧ Hid (Chg (fun j => j = rb) w2 wz))
      (first | exact kC_of (by repeat (first | ((with_reducible refine Chg.setNew ?_ ?_ _); (rotate_left; focus (first | exact Nat.le_refl _ | assumption | omega | (simp only []; omega) | (simp; done) | (simp; omega)))) | with_reducible exact Chg.refl _ _ | with_reducible refine Chg.dr ?_ | with_reducible refine Chg.all ?_ _ | with_reducible refine Chg.trans ?_ (Chg.of_below hba) | with_reducible refine Chg.trans ?_ (Chg.of_below hbb) | with_reducible refine Chg.trans ?_ HC.out)))
      (first | (go_at_call 10; (with_reducible refine Calls.mono (behind_any _ _ _ _ _ _ _ _ _ _ _ _ _ _ _ _ _ _ _) ?_); rintro e wa ⟨rfl, hba⟩; obtain ⟨hca, hfa⟩ := bcell hba; have hza := hba.size; (try simp only [dsz] at hza); (try simp only [World.size_alloc] at hza); (try (have hxa : w2.heap.size < wa.heap.size := by omega)); (try (have hya : ¬ w2.heap.size = wa.heap.size := by omega))) | (go_at_call 9; (with_reducible refine Calls.mono (feedF_any ea ec eb eo es (clip beh 200) _ ?_ hel) ?_); (focus (exact HE2.out.1.ch0 (by repeat (first | ((with_reducible refine Chg.setNew ?_ ?_ _); (rotate_left; focus (first | exact Nat.le_refl _ | assumption | omega | (simp only []; omega) | (simp; done) | (simp; omega)))) | with_reducible exact Chg.refl _ _ | with_reducible refine Chg.dr ?_ | with_reducible refine Chg.all ?_ _ | with_reducible refine Chg.trans ?_ (Chg.of_below hba) | with_reducible refine Chg.trans ?_ (Chg.of_below hbb))))); rintro e wb ⟨b1, b2, a2, cap2, fg, rfl, hF, z1, z2, z3, hbb⟩; have HF := Lib.hid hF; obtain ⟨hcb, hfb⟩ := bcell hbb; have hzb := hbb.size; (try simp only [dsz] at hzb z1 z2 z3); (try simp only [World.size_alloc] at hzb z1 z2 z3); (try (have hxb : w2.heap.size < wb.heap.size := by omega)); (try (have hyb : wa.heap.size < wb.heap.size := by omega)); clear hF) | (go_at_call 8; (with_reducible refine Calls.mono (sccs_r n g 0 rb gc b1 b2 fg 0 r _ a2 cap2 es (clip beh 200) ss _ hn ?_ hr5 ?_ ?_ ?_) ?_); (focus (exact (HW.out.ch0 (by repeat (first | ((with_reducible refine Chg.setNew ?_ ?_ _); (rotate_left; focus (first | exact Nat.le_refl _ | assumption | omega | (simp only []; omega) | (simp; done) | (simp; omega)))) | with_reducible exact Chg.refl _ _ | with_reducible refine Chg.dr ?_ | with_reducible refine Chg.all ?_ _ | with_reducible refine Chg.trans ?_ (Chg.of_below hba) | with_reducible refine Chg.trans ?_ (Chg.of_below hbb)))).m.left)); (focus (exact (HW.out.ch0 (by repeat (first | ((with_reducible refine Chg.setNew ?_ ?_ _); (rotate_left; focus (first | exact Nat.le_refl _ | assumption | omega | (simp only []; omega) | (simp; done) | (simp; omega)))) | with_reducible exact Chg.refl _ _ | with_reducible refine Chg.dr ?_ | with_reducible refine Chg.all ?_ _ | with_reducible refine Chg.trans ?_ (Chg.of_below hba) | with_reducible refine Chg.trans ?_ (Chg.of_below hbb)))).r)); (focus (exact HF.out.ch0 (by repeat (first | ((with_reducible refine Chg.setNew ?_ ?_ _); (rotate_left; focus (first | exact Nat.le_refl _ | assumption | omega | (simp only []; omega) | (simp; done) | (simp; omega)))) | with_reducible exact Chg.refl _ _ | with_reducible refine Chg.dr ?_ | with_reducible refine Chg.all ?_ _ | with_reducible refine Chg.trans ?_ (Chg.of_below hba) | with_reducible refine Chg.trans ?_ (Chg.of_below hbb))))); (focus (exact ⟨by have := HW.out.r.lt; omega, by have := HW.out.r.lt; omega, by have := HW.out.r.lt; omega, HW.out.n.2.1⟩)); rintro e wc ⟨x, y, z, l', rfl, HX, HL, hcc⟩; obtain ⟨hcw, hfw⟩ := chg_cell hcc; have hq1 := HW.out.r.lt; (try (have hq2 : ¬ w2.heap.size = rb := by omega)); (try (have hq3 : ¬ wa.heap.size = rb := by omega)); (try (have hq4 : ¬ wb.heap.size = rb := by omega)); have HC := Lib.hid hcc; clear hcc))
    all_goals
      go_wp2_with fail
      go_meet
      refine ⟨_, x, y, z, l', rfl, rfl, ?_, HX, ?_, ?_⟩
      · repeat (first | with_reducible refine isBlk.set3 ?_ _ _ _ | ((with_reducible refine isBlk.new' ?_); (focus (first | rfl | (simp; done)))) | with_reducible refine isBlk.old ?_ _ | with_reducible refine isBlk.drew ?_ | ((with_reducible refine isBlk.cc ?_ HC.out ?_); (rotate_left; focus (first | exact Nat.le_refl _ | assumption | omega | (simp only []; omega) | (simp; done) | (simp; omega)))) | ((with_reducible refine isBlk.below ?_ hba ?_); (rotate_left; focus (first | exact Nat.le_refl _ | assumption | omega | (simp only []; omega) | (simp; done) | (simp; omega)))) | ((with_reducible refine isBlk.below ?_ hbb ?_); (rotate_left; focus (first | exact Nat.le_refl _ | assumption | omega | (simp only []; omega) | (simp; done) | (simp; omega)))))
      · exact Lib.hid ⟨HW.out.fin (by repeat (first | ((with_reducible refine Chg.setNew ?_ ?_ _); (rotate_left; focus (first | exact Nat.le_refl _ | assumption | omega | (simp only []; omega) | (simp; done) | (simp; omega)))) | with_reducible exact Chg.refl _ _ | with_reducible refine Chg.dr ?_ | with_reducible refine Chg.all ?_ _ | with_reducible refine Chg.trans ?_ (Chg.of_below hba) | with_reducible refine Chg.trans ?_ (Chg.of_below hbb) | with_reducible refine Chg.trans ?_ HC.out)) (by repeat (first | exact HL.out.1 | ((with_reducible refine Wds.other ?_ ?_); (rotate_left; focus (first | exact Nat.le_refl _ | assumption | omega | (simp only []; omega) | (simp; done) | (simp; omega)))) | with_reducible refine Wds.all ?_ _ | with_reducible refine Wds.drew ?_)), HL.out.2⟩
      · exact Lib.hid (by repeat (first | ((with_reducible refine Chg.setNew ?_ ?_ _); (rotate_left; focus (first | exact Nat.le_refl _ | assumption | omega | (simp only []; omega) | (simp; done) | (simp; omega)))) | with_reducible exact Chg.refl _ _ | with_reducible refine Chg.dr ?_ | with_reducible refine Chg.all ?_ _ | with_reducible refine Chg.trans ?_ (Chg.of_below hba) | with_reducible refine Chg.trans ?_ (Chg.of_below hbb) | with_reducible refine Chg.trans ?_ HC.out))
  case rest =>
    obtain ⟨vb, x, y, z, l', rfl, rfl, hvb, HX, HL, HC⟩ := hcut
    obtain ⟨w3, rfl⟩ : ∃ w3 : World, w3 = wc := ⟨_, rfl⟩
    clear c0 c1 c2 c3 c4 c5 c6 c7 c8 c9 c10 c11 c12 c13 hpl hprb hp2 HW HE2
    have hp3 := HL.out.1.p
    have c0 : w3.cell? ⟨pb, 0, none⟩ = some (.int .u32 n) := hp3.cell 0
    have c1 : w3.cell? ⟨pb, 1, none⟩ = some (.slice sa ss.length sc) := hp3.cell 1
    have c2 : w3.cell? ⟨pb, 2, none⟩ = some (.slice ea es.length ec) := hp3.cell 2
    have c3 : w3.cell? ⟨pb, 3, none⟩ = some (.int .i64 beh) := hp3.cell 3
    have c4 : w3.cell? ⟨pb, 4, none⟩ = some (.int .i64 room) := hp3.cell 4
    have c5 : w3.cell? ⟨pb, 5, none⟩ = some (x5) := hp3.cell 5
    have c6 : w3.cell? ⟨pb, 6, none⟩ = some (x6) := hp3.cell 6
    have c7 : w3.cell? ⟨pb, 7, none⟩ = some (x7) := hp3.cell 7
    have c8 : w3.cell? ⟨pb, 8, none⟩ = some (x8) := hp3.cell 8
    have c9 : w3.cell? ⟨pb, 9, none⟩ = some (x9) := hp3.cell 9
    have c10 : w3.cell? ⟨pb, 10, none⟩ = some (x10) := hp3.cell 10
    have c11 : w3.cell? ⟨pb, 11, none⟩ = some (x11) := hp3.cell 11
    have c12 : w3.cell? ⟨pb, 12, none⟩ = some (x12) := hp3.cell 12
    have c13 : w3.cell? ⟨pb, 13, none⟩ = some (x13) := hp3.cell 13
    have hpl := hp3.lt
    have hvl := hvb.lt
    have hE3 := hE.below HL.out.1.b hE.lt
    have hs3 := hs.below HL.out.1.b hs.lt
    have hE3d : IsEds w3.drew ea eb eo es := ⟨hE3.ad, hE3.lt, hE3.c0, hE3.c1, hE3.c2⟩
    obtain ⟨E, hEE⟩ : ∃ E, sccErr n ss.length r es (clip beh 200) = E := ⟨_, rfl⟩
    rw [hEE] at HX ⊢
    have HEE := Lib.hid hEE
    have hask : askErr (sizeErr n) n ss.length (clip room 5000 : Nat) (2 * (n : Int)) es (clip beh 200) = E := by rw [HR.out, ← hEE]; rfl
    have HAS := Lib.hid hask
    have hw1 : IntKind.i64.wrap (n : Int) = (n : Int) := IntWalk.i64_in _ (by omega)
    have hw2 : IntKind.i64.wrap (2 * (n : Int)) = 2 * (n : Int) := IntWalk.i64_in _ (by omega)
    clear hEE hask hp3 HC
    go_upto_region 4 with fail
    go_cut [7] (fun v7 wx => v7 = .int .i64 E ∧ Below w3.heap.size w3 wx)
    case first =>
      go_region_held3 (fun wz => ∀ b o, b < w3.heap.size → wz.cell? ⟨b, o, none⟩ = w3.cell? ⟨b, o, none⟩)
        (first | (intro b o hb; rfl) | (intro b o hb; rw [hb4.cell (p := ⟨b, o, none⟩) hb]; rfl))
        (first | (go_at_call 12; (with_reducible refine Calls.mono (sized_s n _) ?_); rintro e wa ⟨rfl, rfl⟩) | (go_at_call 11; (with_reducible refine Calls.mono (asked_any n _ _ ec eb eo _ ea beh room _ _ _ _ _ _ _ _ _ _ _ es _ hE3d hel hn) ?_); rintro e w4 ⟨rfl, hb4⟩; rw [HAS.out]))
      all_goals
        go_wp2_with fail
        go_meet
        exact ⟨rfl, (Below.drew (Below.refl _ _)).trans hb4⟩
    case rest =>
      obtain ⟨rfl, hb4⟩ := hcut
      obtain ⟨w4, rfl⟩ : ∃ w4 : World, w4 = wc := ⟨_, rfl⟩
      have hL4 := HL.out.1.below hb4
      have hE4 := hE.below hL4.b hE.lt
      have hs4 := hs.below hL4.b hs.lt
      have hvb4 := hvb.below hb4 hvl
      have HL4 := Lib.hid hL4
      have hp4 := hL4.p
      have hb5 : Below w4.heap.size w4 (w4.alloc (.cells #[.bool false, .int .u32 0, .int .i64 0] 35)) := (by repeat (first | with_reducible exact Below.refl _ _ | with_reducible assumption | with_reducible refine below_drewN ?_ _ | with_reducible refine Below.drew ?_ | ((with_reducible refine Bset ?_ ?_); focus (first | omega | (simp; done) | (simp; omega))) | ((with_reducible refine Ball ?_ ?_); focus (first | omega | (simp; done) | (simp; omega)))))
      have hE5 := hE4.below hb5 hE4.lt
      have hs5 := hs4.below hb5 hs4.lt
      have hp5 := hp4.below hb5 hp4.lt
      have hvl4 := hvb4.lt
      have hvb5 := hvb4.below hb5 hvb4.lt
      have HL5 := Lib.hid (hL4.below hb5)
      have hk5 := isBlk.new w4 35 [.bool false, .int .u32 0, .int .i64 0]
      clear c0 c1 c2 c3 c4 c5 c6 c7 c8 c9 c10 c11 c12 c13 hE3 hs3 hE3d hpl hvl hvb hb4 hL4 hE4 hs4 hvb4 hp4 hb5 HAS
      go_upto_region 6 with fail
      obtain ⟨w5, hw5⟩ : ∃ w5, w4.alloc (.cells #[.bool false, .int .u32 0, .int .i64 0] 35) = w5 := ⟨_, rfl⟩
      obtain ⟨wb, hwb⟩ : ∃ wb, wb = w4.heap.size := ⟨_, rfl⟩
      rw [← hwb] at hk5
      rw [hw5] at hE5 hs5 hp5 hvb5 HL5 hk5
      rw [hw5, ← hwb]
      have hwz : w.heap.size ≤ wb := by rw [hwb]; exact HL4.out.b.size
      have hwg : wb ≠ g := by have := HL4.out.n.2.2; omega
      have hwv : wb ≠ rb ∧ wb ≠ pb ∧ wb ≠ vb := by
        have := HL4.out.r.lt
        have := HL4.out.p.lt
        omega
      clear hw5 hwb HL4 hvl4
      have c0 : w5.cell? ⟨pb, 0, none⟩ = some (.int .u32 n) := hp5.cell 0
      have c1 : w5.cell? ⟨pb, 1, none⟩ = some (.slice sa ss.length sc) := hp5.cell 1
      have c2 : w5.cell? ⟨pb, 2, none⟩ = some (.slice ea es.length ec) := hp5.cell 2
      have c3 : w5.cell? ⟨pb, 3, none⟩ = some (.int .i64 beh) := hp5.cell 3
      have c4 : w5.cell? ⟨pb, 4, none⟩ = some (.int .i64 room) := hp5.cell 4
      have c5 : w5.cell? ⟨pb, 5, none⟩ = some (x5) := hp5.cell 5
      have c6 : w5.cell? ⟨pb, 6, none⟩ = some (x6) := hp5.cell 6
      have c7 : w5.cell? ⟨pb, 7, none⟩ = some (x7) := hp5.cell 7
      have c8 : w5.cell? ⟨pb, 8, none⟩ = some (x8) := hp5.cell 8
      have c9 : w5.cell? ⟨pb, 9, none⟩ = some (x9) := hp5.cell 9
      have c10 : w5.cell? ⟨pb, 10, none⟩ = some (x10) := hp5.cell 10
      have c11 : w5.cell? ⟨pb, 11, none⟩ = some (x11) := hp5.cell 11
      have c12 : w5.cell? ⟨pb, 12, none⟩ = some (x12) := hp5.cell 12
      have c13 : w5.cell? ⟨pb, 13, none⟩ = some (x13) := hp5.cell 13
      by_cases hE0 : E = 0
      · have hE0' : ((E : Int) == 0) = true := by rw [beq_iff_eq]; omega
        have H0 := Lib.hid hE0
        clear hE0
        obtain ⟨hn1, hsn, hnr, hva⟩ := sccErr_ok (HEE.out.trans H0.out)
        have HVA := Lib.hid hva
        have HSN := Lib.hid hsn
        have k0 : w5.cell? ⟨wb, 0, none⟩ = some (.bool false) := hk5.cell 0
        have k1 : w5.cell? ⟨wb, 1, none⟩ = some (.int .u32 0) := hk5.cell 1
        have k2 : w5.cell? ⟨wb, 2, none⟩ = some (.int .i64 0) := hk5.cell 2
        clear hva hsn
        go_wp2_with (first | (go_at_call 13; ((with_reducible refine (refSccs_x n sb so sc ec eb eo sa ea es ss _ hs5 hE5 HSN.out (by omega) hn1 hel HVA.out).mono ?_); rintro e w6 ⟨x', y', z', rfl, HF, hb6⟩; have hk6 := hk5.below hb6 hk5.lt; have hvb6 := hvb5.below hb6 hvb5.lt; have HL6 := Lib.hid (HL5.out.below hb6); have hs6 := hs5.below hb6 hs5.lt; have hp6 := hp5.below hb6 hp5.lt; have c0 : w6.cell? ⟨pb, 0, none⟩ = some (.int .u32 n) := hp6.cell 0; have c1 : w6.cell? ⟨pb, 1, none⟩ = some (.slice sa ss.length sc) := hp6.cell 1; have c2 : w6.cell? ⟨pb, 2, none⟩ = some (.slice ea es.length ec) := hp6.cell 2; have c3 : w6.cell? ⟨pb, 3, none⟩ = some (.int .i64 beh) := hp6.cell 3; have c4 : w6.cell? ⟨pb, 4, none⟩ = some (.int .i64 room) := hp6.cell 4; have c5 : w6.cell? ⟨pb, 5, none⟩ = some (x5) := hp6.cell 5; have c6 : w6.cell? ⟨pb, 6, none⟩ = some (x6) := hp6.cell 6; have c7 : w6.cell? ⟨pb, 7, none⟩ = some (x7) := hp6.cell 7; have c8 : w6.cell? ⟨pb, 8, none⟩ = some (x8) := hp6.cell 8; have c9 : w6.cell? ⟨pb, 9, none⟩ = some (x9) := hp6.cell 9; have c10 : w6.cell? ⟨pb, 10, none⟩ = some (x10) := hp6.cell 10; have c11 : w6.cell? ⟨pb, 11, none⟩ = some (x11) := hp6.cell 11; have c12 : w6.cell? ⟨pb, 12, none⟩ = some (x12) := hp6.cell 12; have c13 : w6.cell? ⟨pb, 13, none⟩ = some (x13) := hp6.cell 13; have hwl := hk6.lt; have hvl := hvb6.lt; have hpl := hp6.lt; have g0 : w6.cell? ⟨wb, 0, none⟩ = some (.bool false) := hk6.cell 0; have g1 : w6.cell? ⟨wb, 1, none⟩ = some (.int .u32 0) := hk6.cell 1; have g2 : w6.cell? ⟨wb, 2, none⟩ = some (.int .i64 0) := hk6.cell 2; have f0 := hk6.frozen 0; have f1 := hk6.frozen 1; have f2 := hk6.frozen 2; have v0 : w6.cell? ⟨vb, 0, none⟩ = some (.bool x) := hvb6.cell 0; have v1 : w6.cell? ⟨vb, 1, none⟩ = some (.int .u32 y) := hvb6.cell 1; have v2 : w6.cell? ⟨vb, 2, none⟩ = some (.int .i64 z) := hvb6.cell 2;  have hwv' := hwv.2.2; obtain ⟨rfl, rfl, rfl⟩ := verd_eq (HX.out.2 H0.out) HF.out; have HL6x := HL6.out.set3 hwz ⟨hwv.2.1, hwg, hwv.1⟩ (.bool x) (.int .u32 y) (.int .i64 z))) | (go_at_call 14; ((with_reducible refine (agree_okE x y z E _ H0.out).mono ?_); rintro e w7 ⟨rfl, hb7⟩; have HL7 := Lib.hid (HL6x.below hb7); have hs7 := hs.below HL7.out.b hs.lt; have d0 : w7.cell? ⟨pb, 0, none⟩ = some (.int .u32 n) := HL7.out.p.cell 0; have d1 : w7.cell? ⟨pb, 1, none⟩ = some (.slice sa ss.length sc) := HL7.out.p.cell 1)) | (go_at_call 15; ((with_reducible refine (kept_any g sb so sc gc sa ss _ HL7.out.m hs7 hsl hgc).mono ?_); rintro e w8 ⟨rfl, hb8⟩; have HL8 := Lib.hid (HL7.out.below hb8); have q0 : w8.cell? ⟨pb, 0, none⟩ = some (.int .u32 n) := HL8.out.p.cell 0)) | (go_at_call 16; ((with_reducible refine (spare_r rb n r l' _ HL8.out.r HL.out.2.1 hr5 hn HL.out.2.2).mono ?_); rintro e w9 ⟨rfl, rfl⟩)))
        go_ret
        exact ⟨rfl, HL8.out.b⟩
      · have hE0' : ((E : Int) == 0) = false := by rw [beq_eq_false_iff_ne]; omega
        have H0 := Lib.hid hE0
        clear hE0
        obtain ⟨hx1, hx2, hx3⟩ := HX.out.1 H0.out
        subst hx1
        subst hx2
        subst hx3
        have k0 : w5.cell? ⟨wb, 0, none⟩ = some (.bool false) := hk5.cell 0
        have k1 : w5.cell? ⟨wb, 1, none⟩ = some (.int .u32 0) := hk5.cell 1
        have k2 : w5.cell? ⟨wb, 2, none⟩ = some (.int .i64 0) := hk5.cell 2
        have v0 : w5.cell? ⟨vb, 0, none⟩ = some (.bool false) := hvb5.cell 0
        have v1 : w5.cell? ⟨vb, 1, none⟩ = some (.int .u32 0) := hvb5.cell 1
        have v2 : w5.cell? ⟨vb, 2, none⟩ = some (.int .i64 0) := hvb5.cell 2
        have HL6x := HL5.out
        go_wp2_with (first | (go_at_call 14; ((with_reducible refine (agree_err0 E _ H0.out).mono ?_); rintro e w7 ⟨rfl, hb7⟩; have HL7 := Lib.hid (HL6x.below hb7); have hs7 := hs.below HL7.out.b hs.lt; have d0 : w7.cell? ⟨pb, 0, none⟩ = some (.int .u32 n) := HL7.out.p.cell 0; have d1 : w7.cell? ⟨pb, 1, none⟩ = some (.slice sa ss.length sc) := HL7.out.p.cell 1)) | (go_at_call 15; ((with_reducible refine (kept_any g sb so sc gc sa ss _ HL7.out.m hs7 hsl hgc).mono ?_); rintro e w8 ⟨rfl, hb8⟩; have HL8 := Lib.hid (HL7.out.below hb8); have q0 : w8.cell? ⟨pb, 0, none⟩ = some (.int .u32 n) := HL8.out.p.cell 0)) | (go_at_call 16; ((with_reducible refine (spare_r rb n r l' _ HL8.out.r HL.out.2.1 hr5 hn HL.out.2.2).mono ?_); rintro e w9 ⟨rfl, rfl⟩)))
        go_ret
        exact ⟨rfl, HL8.out.b⟩

end Go.Proofs.Ytohmeobfiomfdaa
