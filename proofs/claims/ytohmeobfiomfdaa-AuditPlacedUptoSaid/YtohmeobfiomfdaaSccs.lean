/-
  An audit of strong components: the walk.
-/
import Derived.Test.YtohmeobfiomfdaaScc4
import Derived.Test.YtohmeobfiomfdaaSit2
import Derived.IntWalk
namespace Go.Proofs.Ytohmeobfiomfdaa
open Go.RowKit Go.Shelf
set_option maxRecDepth 100000

theorem dsz (w : World) : w.drew.heap.size = w.heap.size := rfl
theorem sit_zero {n len room : Nat} (h : sitErr (sizeErr n) n len (room : Int) (2 * (n : Int)) = 0) : 1 ≤ n ∧ len = n ∧ n + n ≤ room := by
  unfold sitErr sizeErr at h
  by_cases h1 : n < 1 ∨ 2147483647 < n
  · rw [if_pos h1] at h; simp at h
  · rw [if_neg h1, if_neg (by simp)] at h
    by_cases h2 : len = n
    · rw [if_neg (by simp [h2])] at h
      by_cases h3 : (room : Int) < 2 * (n : Int)
      · rw [if_pos h3] at h; cases h
      · exact ⟨by omega, h2, by omega⟩
    · rw [if_pos h2] at h; cases h
theorem sit_good (n len cap : Nat) (room need : Int) (f : Fn) (fx fy : Array Value) (a : Option Addr) (w : World) (hn : n ≤ 4294967295) (h : sitErr (sizeErr n) n len room need = 0) :
    Calls Try.prog 29 #[.int .u32 n, .int .i64 0, .func f fx fy, .slice a len cap, .int .i64 room, .int .i64 need, .int .i64 (sizeErr n)] w fun e w' =>
      e = .returned (.tuple #[.pointer (some ⟨w.heap.size, 0, none⟩), .int .i64 0]) ∧ w' = w.alloc (.cells #[.int .u32 n, .int .i64 0, .func f fx fy, .slice a len cap, .bool false, .int .u32 0, .int .i64 0] 75) := by
  refine (sit_any n (sizeErr n) len cap 0 room need f fx fy a w hn).mono ?_
  rintro e w' (⟨h1, _⟩ | ⟨_, h2⟩)
  · exact absurd h h1
  · exact h2
theorem sit_bad (n len cap er : Nat) (room need : Int) (f : Fn) (fx fy : Array Value) (a : Option Addr) (w : World) (hn : n ≤ 4294967295) (h : sitErr (sizeErr n) n len room need = er) (her : er ≠ 0) :
    Calls Try.prog 29 #[.int .u32 n, .int .i64 0, .func f fx fy, .slice a len cap, .int .i64 room, .int .i64 need, .int .i64 (sizeErr n)] w fun e w' =>
      e = .returned (.tuple #[.pointer none, .int .i64 er]) ∧ w = w' := by
  subst h
  refine (sit_any n (sizeErr n) len cap 0 room need f fx fy a w hn).mono ?_
  rintro e w' (⟨_, h2⟩ | ⟨h1, _⟩)
  · exact h2
  · exact absurd h1 her

theorem kS_call {W X Y : World} (h1 : W.heap.size ≤ X.heap.size) (h2 : ∀ b o, b < W.heap.size → X.cell? ⟨b, o, none⟩ = W.cell? ⟨b, o, none⟩) (h3 : Hid (Below W.heap.size W X)) (hb : Below X.heap.size X Y) :
    W.heap.size ≤ Y.heap.size ∧ (∀ b o, b < W.heap.size → Y.cell? ⟨b, o, none⟩ = W.cell? ⟨b, o, none⟩) ∧ Hid (Below W.heap.size W Y) :=
  ⟨Nat.le_trans h1 hb.size, fun b o hx => by rw [hb.cell (p := ⟨b, o, none⟩) (Nat.lt_of_lt_of_le hx h1)]; exact h2 b o hx, Lib.hid (h3.out.trans (hb.mono h1))⟩
theorem kS_alloc {W X : World} (h1 : W.heap.size ≤ X.heap.size) (h2 : ∀ b o, b < W.heap.size → X.cell? ⟨b, o, none⟩ = W.cell? ⟨b, o, none⟩) (h3 : Hid (Below W.heap.size W X)) (o : Obj) :
    W.heap.size ≤ (X.alloc o).heap.size ∧ (∀ b i, b < W.heap.size → (X.alloc o).cell? ⟨b, i, none⟩ = W.cell? ⟨b, i, none⟩) ∧ Hid (Below W.heap.size W (X.alloc o)) :=
  kS_call h1 h2 h3 ((Below.refl _ _).alloc (Nat.le_refl _) o)
theorem kS_set {W X : World} {p : Addr} (hp : W.heap.size ≤ p.block) (h1 : W.heap.size ≤ X.heap.size) (h2 : ∀ b o, b < W.heap.size → X.cell? ⟨b, o, none⟩ = W.cell? ⟨b, o, none⟩) (h3 : Hid (Below W.heap.size W X)) (v : Value) :
    W.heap.size ≤ (X.setCell p v).heap.size ∧ (∀ b i, b < W.heap.size → (X.setCell p v).cell? ⟨b, i, none⟩ = W.cell? ⟨b, i, none⟩) ∧ Hid (Below W.heap.size W (X.setCell p v)) :=
  ⟨by simpa using h1, fun b i hx => by rw [World.cell?_setCell_far _ _ _ _ (by simp only []; omega)]; exact h2 b i hx, Lib.hid (h3.out.setCell hp v)⟩
theorem kS_refl (W : World) : W.heap.size ≤ W.drew.heap.size ∧ (∀ b i, b < W.heap.size → W.drew.cell? ⟨b, i, none⟩ = W.cell? ⟨b, i, none⟩) ∧ Hid (Below W.heap.size W W.drew) :=
  ⟨Nat.le_refl _, fun _ _ _ => rfl, Lib.hid (Below.drew (Below.refl _ _))⟩

theorem kS_first (W : World) (o : Obj) : W.heap.size ≤ (W.alloc o).drew.heap.size ∧ (∀ b i, b < W.heap.size → (W.alloc o).drew.cell? ⟨b, i, none⟩ = W.cell? ⟨b, i, none⟩) ∧ Hid (Below W.heap.size W (W.alloc o).drew) :=
  by
  have h := kS_alloc (W := W) (X := W.drew) (Nat.le_refl _) (fun _ _ _ => rfl) (Lib.hid (Below.drew (Below.refl _ _))) o
  exact h

theorem isBlk.new' {w : World} {b : Nat} {T : TypeId} {vs : List Value} (h : b = w.heap.size) : isBlk (w.alloc (.cells vs.toArray T)) b T vs := by
  subst h; exact isBlk.new w T vs
theorem isBlk.set1 {w : World} {b : Nat} {T : TypeId} {u : Value} (h : isBlk w b T [u]) (v : Value) : isBlk (w.setCell ⟨b, 0, none⟩ v) b T [v] := h.set 0 v

theorem kS_of {W X : World} (h : Below W.heap.size W X) : W.heap.size ≤ X.heap.size ∧ (∀ b i, b < W.heap.size → X.cell? ⟨b, i, none⟩ = W.cell? ⟨b, i, none⟩) ∧ Hid (Below W.heap.size W X) :=
  ⟨h.size, fun b i hx => h.cell (p := ⟨b, i, none⟩) hx, Lib.hid h⟩

def sccErr (n states : Nat) (room : Nat) (es : List Ed) (beh : Nat) : Nat := if sitErr (sizeErr n) n states room (2 * n : Int) ≠ 0 then sitErr (sizeErr n) n states room (2 * n : Int) else overErr n es beh

/-- The rules of an audit of strong components that are broken. -/
def Bscc (ss : List St) (es : List Ed) (n : Nat) (v r : Nat) : Prop :=
  v < n ∧ ((r = 1 ∧ badLabel ss v (lab ss v) = true) ∨ (r = 2 ∧ ¬ (Fwd ss es n v ∧ Bwd ss es n v)) ∨
    (r = 3 ∧ (∀ u, u < n → badLabel ss u (lab ss u) = false ∧ Fwd ss es n u ∧ Bwd ss es n u) ∧ InKnot ss es (lab ss v)))

theorem SInv.init (ss : List St) (es : List Ed) (n : Nat) (l : List Nat) (hl : n + n ≤ l.length) : SInv ss es n (initL ss n l n) := by
  obtain ⟨a1, a2, _⟩ := initL_facts ss n l hl n (Nat.le_refl _)
  have hr : ∀ v, rooted v (lab ss v) = 1 ↔ lab ss v = v := fun v => by unfold rooted; split <;> simp_all
  have hr2 : ∀ v, rooted v (lab ss v) ≤ 1 := fun v => by unfold rooted; split <;> omega
  refine ⟨by rw [a1]; exact hl, fun j hj => ?_, fun v hv h => ?_, fun v hv h => ?_, fun v hv h => ?_, fun v hv h => ?_⟩
  · by_cases h : j < n
    · rw [(a2 j h).1]; exact hr2 j
    · obtain ⟨v, rfl⟩ : ∃ v, j = n + v := ⟨j - n, by omega⟩
      rw [(a2 v (by omega)).2]; exact hr2 v
  · rw [(a2 v hv).1, hr] at h; exact Fwd.root v hv h
  · rw [(a2 v hv).2, hr] at h; exact Bwd.root v hv h
  · rw [(a2 v hv).1, hr]; exact h
  · rw [(a2 v hv).2, hr]; exact h

structure SRel (n : Nat) (es : List Ed) (beh : Nat) (ss : List St) (l : List Nat) (gk : Nat) (ag : Bool) (l' : List Nat) : Prop where
  len : l'.length = l.length
  far : ∀ j, n + n ≤ j → l'.getD j 0 = l.getD j 0
  inv : SInv ss es n l'
  cl : ag = false → overErr n es beh = 0 ∧ ∀ e, e ∈ es → ¬ (lab ss e.src = lab ss e.dst ∧ (l'.getD e.dst 0 < l'.getD e.src 0 ∨ l'.getD (n + e.src) 0 < l'.getD (n + e.dst) 0))
  z : zeros l' (n + n) + (if ag then 1 else 0) ≤ gk

def SccEnd (n : Nat) (ss : List St) (es : List Ed) (beh : Nat) (l : List Nat) (rb : Nat) (w : World) (e : Ending) (w' : World) : Prop :=
  ∃ (x : Bool) (y z : Nat) (l' : List Nat), e = .returned (.tuple #[.agg #[.bool x, .int .u32 y, .int .i64 z], .int .i64 (sccErr n ss.length l.length es beh)]) ∧
    (sccErr n ss.length l.length es beh ≠ 0 → x = false ∧ y = 0 ∧ z = 0) ∧
    (sccErr n ss.length l.length es beh = 0 → ∃ f, verdC 0 f = #[.bool x, .int .u32 y, .int .i64 z] ∧ Least f (Bscc ss es n)) ∧
    Wds w' rb l' ∧ l'.length = l.length ∧ (∀ j, n + n ≤ j → l'.getD j 0 = l.getD j 0) ∧ Chg (fun j => j = rb) w w'

theorem SccEnd.mk {n : Nat} {ss : List St} {es : List Ed} {beh : Nat} {l l' : List Nat} {rb vb : Nat} {w w1 w2 w' : World} {e : Ending} (er : Nat) (x : Bool) (y z : Nat)
    (ho : sccErr n ss.length l.length es beh = er) (he : e = .returned (.tuple #[.agg #[.bool x, .int .u32 y, .int .i64 z], .int .i64 er]))
    (h0 : er ≠ 0 → x = false ∧ y = 0 ∧ z = 0) (hL : er = 0 → ∃ f, verdC 0 f = #[.bool x, .int .u32 y, .int .i64 z] ∧ Least f (Bscc ss es n)) (hw : Wds w1 rb l') (h1 : l'.length = l.length) (h2 : ∀ j, n + n ≤ j → l'.getD j 0 = l.getD j 0)
    (hc : Chg (fun j => j = rb) w w1) (hb : Below w1.heap.size w1 w2) (hvz : w.heap.size ≤ vb) (hvr : vb ≠ rb) (h3 : Chg (fun j => j = vb) w2 w') : SccEnd n ss es beh l rb w e w' := by
  subst ho
  have hrl := hw.lt
  refine ⟨x, y, z, l', he, h0, hL, ?_, h1, h2, ?_⟩
  · exact (hw.keep (w' := w2) (hb.block _ hrl) hb.size).keep (h3.block _ (Nat.lt_of_lt_of_le hrl hb.size) hvr.symm) h3.size
  · exact (hc.trans (Chg.of_below hb)).then h3 (fun j hj => Or.inr (by rw [hj]; exact hvz))

theorem scc_found {ss : List St} {es : List Ed} {n : Nat} {l' : List Nat} (hle : ∀ j, j < n + n → l'.getD j 0 ≤ 1) (hd : (∀ v, v < n → (l'.getD v 0 = 1 ↔ Fwd ss es n v)) ∧ (∀ v, v < n → (l'.getD (n + v) 0 = 1 ↔ Bwd ss es n v))) :
    Least (notedK (notedK ⟨0, 0⟩ 1 (fun v => badLabel ss v (lab ss v)) n) 2 (fun v => short l' n v) n) (fun v r => v < n ∧ ((r = 1 ∧ badLabel ss v (lab ss v) = true) ∨ (r = 2 ∧ ¬ (Fwd ss es n v ∧ Bwd ss es n v)))) := by
  refine ((Least.none.notedK 1 (fun v => badLabel ss v (lab ss v)) (by decide) n).notedK 2 (fun v => short l' n v) (by decide) n).congr (fun v r => ?_)
  have hs : v < n → (short l' n v = true ↔ ¬ (Fwd ss es n v ∧ Bwd ss es n v)) := fun hv => by
    have h1 := hle v (by omega)
    have h2 := hle (n + v) (by omega)
    unfold short
    rw [decide_eq_true_iff, ← hd.1 v hv, ← hd.2 v hv]
    omega
  constructor
  · rintro ((h | ⟨h1, h2, h3⟩) | ⟨h1, h2, h3⟩)
    · exact absurd h id
    · exact ⟨h2, Or.inl ⟨h3, h1⟩⟩
    · exact ⟨h2, Or.inr ⟨h3, (hs h2).1 h1⟩⟩
  · rintro ⟨h1, ⟨h2, h3⟩ | ⟨h2, h3⟩⟩
    · exact Or.inl (Or.inr ⟨h3, h1, h2⟩)
    · exact Or.inr ⟨(hs h1).2 h3, h1, h2⟩

/-- Something is wrong ahead of the ring. -/
theorem scc_early {ss : List St} {es : List Ed} {n : Nat} {f : Fd} (h : Least f (fun v r => v < n ∧ ((r = 1 ∧ badLabel ss v (lab ss v) = true) ∨ (r = 2 ∧ ¬ (Fwd ss es n v ∧ Bwd ss es n v))))) (hr : f.r ≠ 0) : Least f (Bscc ss es n) := by
  have hx : ∃ u, u < n ∧ (badLabel ss u (lab ss u) = true ∨ ¬ (Fwd ss es n u ∧ Bwd ss es n u)) := by
    rcases h with ⟨h1, _⟩ | ⟨_, ⟨h2, h3⟩, _⟩
    · exact absurd h1 hr
    · exact ⟨f.v, h2, h3.elim (fun h => Or.inl h.2) (fun h => Or.inr h.2)⟩
  refine h.congr (fun v r => ⟨fun ⟨h1, h2⟩ => ⟨h1, h2.elim Or.inl (fun h => Or.inr (Or.inl h))⟩, fun ⟨h1, h2⟩ => ⟨h1, ?_⟩⟩)
  rcases h2 with h2 | h2 | ⟨_, h3, _⟩
  · exact Or.inl h2
  · exact Or.inr h2
  · obtain ⟨u, hu, hx⟩ := hx
    obtain ⟨g1, g2⟩ := h3 u hu
    rcases hx with hx | hx
    · rw [hx] at g1; cases g1
    · exact absurd g2 hx
theorem scc_late {ss : List St} {es : List Ed} {n : Nat} {f : Fd} (h : Least f (fun v r => v < n ∧ ((r = 1 ∧ badLabel ss v (lab ss v) = true) ∨ (r = 2 ∧ ¬ (Fwd ss es n v ∧ Bwd ss es n v))))) (hr : f.r = 0) :
    (∀ v, v < n → lab ss v < n ∧ lab ss (lab ss v) = lab ss v) ∧ ∀ p : Nat → Bool, (∀ v, v < n → (p v = true ↔ InKnot ss es (lab ss v))) → Least (notedK f 3 p n) (Bscc ss es n) := by
  have h0 : ∀ v r, ¬ (v < n ∧ ((r = 1 ∧ badLabel ss v (lab ss v) = true) ∨ (r = 2 ∧ ¬ (Fwd ss es n v ∧ Bwd ss es n v)))) := by
    rcases h with ⟨_, h2⟩ | ⟨h1, _⟩
    · exact h2
    · exact absurd hr h1
  have hall : ∀ u, u < n → badLabel ss u (lab ss u) = false ∧ Fwd ss es n u ∧ Bwd ss es n u := fun u hu => by
    refine ⟨?_, ?_⟩
    · cases hb : badLabel ss u (lab ss u)
      · rfl
      · exact absurd ⟨hu, Or.inl ⟨rfl, hb⟩⟩ (h0 u 1)
    · exact Classical.byContradiction fun hc => h0 u 2 ⟨hu, Or.inr ⟨rfl, hc⟩⟩
  refine ⟨fun v hv => ?_, fun p hp => ?_⟩
  · have := (hall v hv).1
    unfold badLabel at this
    rw [Bool.or_eq_false_iff, decide_eq_false_iff_not, Bool.not_eq_false', beq_iff_eq] at this
    exact ⟨by omega, this.2⟩
  · refine (Least.notedK h 3 p (by decide) n).congr (fun v r => ?_)
    constructor
    · rintro (h1 | ⟨h1, h2, h3⟩)
      · exact absurd h1 (h0 v r)
      · exact ⟨h2, Or.inr (Or.inr ⟨h3, hall, (hp v h2).1 h1⟩)⟩
    · rintro ⟨h1, h2 | h2 | ⟨h2, _, h3⟩⟩
      · exact absurd ⟨h1, Or.inl h2⟩ (h0 v r)
      · exact absurd ⟨h1, Or.inr h2⟩ (h0 v r)
      · exact Or.inr ⟨(hp v h1).2 h3, h1, h2⟩


theorem ring_ok (db sb so rb n cs ct cb b1 b2 eb eo : Nat) (a : Option Addr) (cap : Nat) (es : List Ed) (beh : Nat) (ss : List St) (f : Fd) (l : List Nat) (w : World)
    (hd : isBlk w db 75 ((⟨n, feedFn b1 b2, .slice (some ⟨sb, so, none⟩) n cs⟩ : Dk).cells f)) (hs : IsSts w (some ⟨sb, so, none⟩) sb so ss) (hss : ss.length = n) (hn1 : 1 ≤ n) (hnl : n + n ≤ l.length) (hl : l.length ≤ 5000) (hlab : ∀ v, v < n → lab ss v < n ∧ lab ss (lab ss v) = lab ss v)
    (hw : Wds w rb l) (hF : Fed w b1 b2 eb eo a cap es beh) (hA : Apart b1 b2 eb sb db rb) (hov : overErr n es beh = 0) :
    Calls Try.prog 39 #[.pointer (some ⟨db, 0, none⟩), .slice (some ⟨rb, 0, none⟩) n ct, .slice (some ⟨rb, n, none⟩) n cb] w.drew fun e w' => ∃ (x : Bool) (y z : Nat) (f' : Fd) (l' : List Nat), Hid (verdC 0 f' = #[.bool x, .int .u32 y, .int .i64 z]) ∧ e = .returned (.tuple #[.agg #[.bool x, .int .u32 y, .int .i64 z], .int .i64 0]) ∧
    Hid (∃ p : Nat → Bool, (∀ v, v < n → (p v = true ↔ InKnot ss es (lab ss v))) ∧ f' = notedK f 3 p n) ∧ Hid (Wds w' rb l' ∧ l'.length = l.length ∧ (∀ j, n + n ≤ j → l'.getD j 0 = l.getD j 0)) ∧ Hid (Chg (Two db rb) w w') := by
  refine (ring_any db sb so rb n cs ct cb b1 b2 eb eo a cap es beh ss f l w.drew hd.drew ⟨hs.ad, hs.lt, hs.c0, hs.c1, hs.c2, hs.c3, hs.c4, hs.c5, hs.c6, hs.c7⟩ hss hn1 hnl hl hlab ⟨hw.lt, hw.c, hw.f⟩ ⟨hF.c1, hF.c2, ⟨hF.e.ad, hF.e.lt, hF.e.c0, hF.e.c1, hF.e.c2⟩, hF.lt, hF.r⟩ hA).mono ?_
  rintro e w' ⟨x, y, z, f', l', h1, rfl, h3, h4, h5, h6, h7⟩
  rw [hov] at h1 h3
  exact ⟨x, y, z, f', l', Lib.hid h1, by rw [hov]; rfl, Lib.hid (h3 rfl), Lib.hid ⟨h4, h5, h6⟩, Lib.hid ⟨h7.os, h7.tape, h7.output, h7.size, h7.block⟩⟩

theorem passL_far {ss : List St} {n : Nat} : ∀ {p : List Ed} {l : List Nat} {g : Bool}, n + n ≤ l.length → (∀ e, e ∈ p → Valid n e) → ∀ j, n + n ≤ j → (passL ss n p l g).1.getD j 0 = l.getD j 0
  | [], _, _, _, _, _, _ => rfl
  | e :: p, l, g, hl, hp, j, hj => by
    have hv := hp e (by simp)
    refine (passL_far (p := p) (by rw [stepL_len]; exact hl) (fun e he => hp e (by simp [he])) j hj).trans ?_
    rw [stepL_get hv hl, if_neg]
    obtain ⟨v1, v2⟩ := hv
    rintro ⟨_, h | h⟩ <;> omega

set_option maxHeartbeats 8000000 in
theorem sccs_any (n sb so rb cs b1 b2 eb eo : Nat) (a ea : Option Addr) (cap : Nat) (es : List Ed) (beh : Nat) (ss : List St) (l : List Nat) (w : World)
    (hn : n ≤ 4294967295) (hs : IsSts w a sb so ss) (hl : l.length ≤ 5000)
    (hw : Wds w rb l) (hF : Fed w b1 b2 eb eo ea cap es beh) (hA : b1 ≠ rb ∧ b2 ≠ rb ∧ eb ≠ rb ∧ sb ≠ rb) :
    Calls Try.prog 8 #[.int .u32 n, feedFn b1 b2, .slice a ss.length cs, .slice (some ⟨rb, 0, none⟩) l.length l.length] w (SccEnd n ss es beh l rb w) := by
  unfold feedFn
  obtain ⟨er, her⟩ : ∃ er, sitErr (sizeErr n) n ss.length (l.length : Int) (2 * (n : Int)) = er := ⟨_, rfl⟩
  have HER := Lib.hid her
  clear her
  have hw1 : IntKind.i64.wrap (n : Int) = (n : Int) := IntWalk.i64_in _ (by omega)
  have hw2 : IntKind.i64.wrap (2 * (n : Int)) = 2 * (n : Int) := IntWalk.i64_in _ (by omega)
  by_cases he : er = 0
  · have HE := Lib.hid he
    clear he
    obtain ⟨hn1, hss, hnl⟩ := sit_zero (HER.out.trans HE.out)
    have had := hs.ad (by omega)
    subst had
    have hsbl := hs.lt (by omega)
    rw [hss] at HER ⊢
    have HSS := Lib.hid hss
    clear hss
    have hrl := hw.lt
    have h1l := World.block_lt_of_cell? _ _ hF.c1
    have h2l := World.block_lt_of_cell? _ _ hF.c2
    have hel := hF.lt
    simp only [] at h1l h2l
    go_enter Try.func8, Try.ntmps8
    go_upto_region 1 with fail
    obtain ⟨W1, hW1⟩ : ∃ W1, ((w.alloc (.cells #[.slice (some ⟨sb, so, none⟩) n cs] 23)).alloc (.cells #[.bool false, .int .u32 0, .int .i64 0] 35)) = W1 := ⟨_, rfl⟩
    have hB1 : Below w.heap.size w W1 := by rw [← hW1]; exact (by repeat (first | with_reducible exact Below.refl _ _ | with_reducible assumption | with_reducible refine below_drewN ?_ _ | with_reducible refine Below.drew ?_ | ((with_reducible refine Bset ?_ ?_); focus (first | omega | (simp; done) | (simp; omega))) | ((with_reducible refine Ball ?_ ?_); focus (first | omega | (simp; done) | (simp; omega)))))
    have k1 : isBlk W1 w.heap.size 23 [.slice (some ⟨sb, so, none⟩) n cs] := by rw [← hW1]; exact (isBlk.new w 23 [.slice (some ⟨sb, so, none⟩) n cs]).old _
    have k2 : isBlk W1 (w.heap.size + 1) 35 [.bool false, .int .u32 0, .int .i64 0] := by rw [← hW1]; have := isBlk.new (w.alloc (.cells #[.slice (some ⟨sb, so, none⟩) n cs] 23)) 35 [.bool false, .int .u32 0, .int .i64 0]; rw [World.size_alloc] at this; exact this
    have hz1 : W1.heap.size = w.heap.size + 2 := by rw [← hW1]; simp
    rw [hW1]
    clear hW1
    obtain ⟨sx, hsx⟩ : ∃ sx, sx = w.heap.size := ⟨_, rfl⟩
    obtain ⟨vb, hvb⟩ : ∃ vb, vb = w.heap.size + 1 := ⟨_, rfl⟩
    rw [← hvb] at k2 ⊢
    rw [← hsx] at k1 ⊢
    have hsv : w.heap.size ≤ sx ∧ w.heap.size ≤ vb ∧ sx < W1.heap.size ∧ vb < W1.heap.size ∧ sx ≠ vb := ⟨by omega, by omega, by omega, by omega, by omega⟩
    clear hsx hvb hz1
    have k1c : W1.cell? ⟨sx, 0, none⟩ = some (.slice (some ⟨sb, so, none⟩) n cs) := k1.cell 0
    have k1l := k1.lt
    have k2l := k2.lt
    go_cut [10, 11] (fun v10 v11 wx => ∃ xb db, v10 = .pointer (some ⟨xb, 0, none⟩) ∧ v11 = .int .i64 0 ∧ isBlk wx xb 58 [.pointer (some ⟨db, 0, none⟩)] ∧ isBlk wx db 75 [.int .u32 n, .int .i64 0, .func (.func 41) #[] #[.pointer (some ⟨b1, 0, none⟩), .pointer (some ⟨b2, 0, none⟩)], .slice (some ⟨sb, so, none⟩) n cs, .bool false, .int .u32 0, .int .i64 0] ∧ W1.heap.size ≤ xb ∧ W1.heap.size ≤ db ∧ xb ≠ db ∧ Below W1.heap.size W1 wx)
    case first =>
      go_region_held3 (fun wz => W1.heap.size ≤ wz.heap.size ∧ (∀ b o, b < W1.heap.size → wz.cell? ⟨b, o, none⟩ = W1.cell? ⟨b, o, none⟩) ∧ Hid (Below W1.heap.size W1 wz))
        (first | exact kS_refl _ | exact kS_of (by repeat (first | with_reducible exact Below.refl _ _ | with_reducible refine Below.drew ?_ | ((with_reducible refine Bset ?_ ?_); focus (first | exact Nat.le_refl _ | exact hb2.size | omega | (simp; done) | (simp; omega))) | ((with_reducible refine Ball ?_ ?_); focus (first | exact Nat.le_refl _ | exact hb2.size | omega | (simp; done) | (simp; omega))) | ((with_reducible refine Below.trans ?_ (hb2.mono ?_)); rotate_left; focus (first | exact Nat.le_refl _ | (simp; done) | (simp; omega))))))
        (first | (go_at_call 31; (with_reducible refine Calls.mono (scc_any n _) ?_); rintro e w2 ⟨⟨p, rfl⟩, hb2⟩; obtain ⟨hc2, hf2⟩ := bcell hb2; have hz2 := hb2.size; (try simp only [World.size_alloc, dsz] at hz2); (try (have hx2 : W1.heap.size < w2.heap.size := by omega)); (try (have hx3 : ¬ W1.heap.size = w2.heap.size := by omega))) | (go_at_call 30; (with_reducible refine Calls.mono (made_any _ _ _) ?_); rintro e w3 ⟨rfl, rfl⟩) | (go_at_call 29; (with_reducible refine Calls.mono (sit_good n n cs _ _ _ _ _ _ _ hn (HER.out.trans HE.out)) ?_); rintro e w4 ⟨rfl, rfl⟩))
      all_goals
        go_wp2_with fail
        go_meet
        refine ⟨_, ?_, rfl, rfl, ?_, ?_, ?_, ?_, ?_, ?_⟩
        rotate_left
        · repeat (first | with_reducible refine isBlk.set1 (u := .pointer none) ?_ _ | ((with_reducible refine isBlk.new' ?_); focus (first | rfl | (simp; done))) | with_reducible refine isBlk.old ?_ _ | ((with_reducible refine isBlk.other ?_ ?_); rotate_left; focus (first | omega | (simp; done) | (simp; omega))) | with_reducible refine isBlk.drew ?_ | ((with_reducible refine isBlk.below ?_ hb2 ?_); rotate_left; focus (first | (simp; done) | omega)))
        · repeat (first | with_reducible refine isBlk.set1 (u := .pointer none) ?_ _ | ((with_reducible refine isBlk.new' ?_); focus (first | rfl | (simp; done))) | with_reducible refine isBlk.old ?_ _ | ((with_reducible refine isBlk.other ?_ ?_); rotate_left; focus (first | omega | (simp; done) | (simp; omega))) | with_reducible refine isBlk.drew ?_ | ((with_reducible refine isBlk.below ?_ hb2 ?_); rotate_left; focus (first | (simp; done) | omega)))
        · first | exact Nat.le_refl _ | omega
        · first | exact Nat.le_refl _ | omega
        · first | omega | (simp; done)
        · repeat (first | with_reducible exact Below.refl _ _ | with_reducible refine Below.drew ?_ | ((with_reducible refine Bset ?_ ?_); focus (first | exact Nat.le_refl _ | exact hb2.size | omega | (simp; done) | (simp; omega))) | ((with_reducible refine Ball ?_ ?_); focus (first | exact Nat.le_refl _ | exact hb2.size | omega | (simp; done) | (simp; omega))) | ((with_reducible refine Below.trans ?_ (hb2.mono ?_)); rotate_left; focus (first | exact Nat.le_refl _ | (simp; done) | (simp; omega))))
    case rest =>
      obtain ⟨xb, db, rfl, rfl, hx, hdk, hxz, hdz, hxd, hb⟩ := hcut
      have hk1 := k1.below hb k1l
      have hk2 := k2.below hb k2l
      have hxl := hx.lt
      have hdl := hdk.lt
      have hz1 := hB1.size
      have hz2 := hb.size
      have c10 : wc.cell? ⟨xb, 0, none⟩ = some (.pointer (some ⟨db, 0, none⟩)) := hx.cell 0
      have i1 : (0 : Int) ≤ n := Int.natCast_nonneg _
      have i2 : (n : Int) ≤ l.length := by omega
      have i3 : (2 : Int) * n ≤ l.length := by omega
      have i4 : (n : Int) ≤ 2 * n := by omega
      have i5 : IntKind.u32.wrap (2 * (n : Int)) = 2 * (n : Int) := by rw [IntKind.wrap_u32]; omega
      have i6 : (2 * (n : Int)).toNat - n = n := by omega
      have i7 : ¬ l.length = n := by omega
      go_upto_region 4 with fail
      obtain ⟨wb, rfl⟩ : ∃ wb : World, wb = wc := ⟨_, rfl⟩
      go_cut [12, 13] (fun v12 v13 wx => ∃ tb bb, v12 = .pointer (some ⟨tb, 0, none⟩) ∧ v13 = .pointer (some ⟨bb, 0, none⟩) ∧ isBlk wx tb 32 [.slice (some ⟨rb, 0, none⟩) n l.length] ∧ isBlk wx bb 32 [.slice (some ⟨rb, n, none⟩) n (l.length - n)] ∧ wb.heap.size ≤ tb ∧ wb.heap.size ≤ bb ∧ tb ≠ bb ∧ Below wb.heap.size wb wx)
      case first =>
        go_region_held3 (fun _ => True) (trivial) (fail)
        all_goals
          go_wp2_with fail
          go_meet
          refine ⟨_, _, rfl, rfl, ?_, ?_, ?_, ?_, ?_, ?_⟩
          · repeat (first | with_reducible refine isBlk.set1 (u := .pointer none) ?_ _ | ((with_reducible refine isBlk.new' ?_); focus (first | rfl | (simp; done))) | with_reducible refine isBlk.old ?_ _ | ((with_reducible refine isBlk.other ?_ ?_); rotate_left; focus (first | omega | (simp; done) | (simp; omega))) | with_reducible refine isBlk.drew ?_ | ((with_reducible refine isBlk.below ?_ hb2 ?_); rotate_left; focus (first | (simp; done) | omega)))
          · repeat (first | with_reducible refine isBlk.set1 (u := .pointer none) ?_ _ | ((with_reducible refine isBlk.new' ?_); focus (first | rfl | (simp; done))) | with_reducible refine isBlk.old ?_ _ | ((with_reducible refine isBlk.other ?_ ?_); rotate_left; focus (first | omega | (simp; done) | (simp; omega))) | with_reducible refine isBlk.drew ?_ | ((with_reducible refine isBlk.below ?_ hb2 ?_); rotate_left; focus (first | (simp; done) | omega)))
          · first | exact Nat.le_refl _ | omega
          · first | exact Nat.le_refl _ | omega
          · first | omega | (simp; done)
          · repeat (first | with_reducible exact Below.refl _ _ | with_reducible refine Below.drew ?_ | ((with_reducible refine Ball ?_ ?_); focus (first | exact Nat.le_refl _ | omega | (simp; done) | (simp; omega))))
      case rest =>
        obtain ⟨tb, bb, rfl, rfl, ht, hbk, htz, hbz, htb, hb2⟩ := hcut
        have hzc := hb2.size
        have HW : Hid (SccW vb xb sx tb bb db sb so rb n cs l.length (l.length - n) b1 b2 eb eo ea cap es beh ss w ⟨0, 0⟩ l wc) := Lib.hid (by
          have hB : Below w.heap.size w wc := (hB1.trans (hb.mono hz1)).trans (hb2.mono (Nat.le_trans hz1 hz2))
          refine ⟨hdk.below hb2 hdl, ⟨(hx.below hb2 hxl).cell 0, (hk1.below hb2 hk1.lt).cell 0, ht.cell 0, hbk.cell 0, hs.below hB (fun _ => hsbl), ⟨by omega, by omega⟩, ⟨by omega, by omega⟩, ⟨by omega, by omega⟩, ⟨by omega, by omega⟩, fun _ => ⟨by omega, hA.2.2.2⟩, by omega⟩, hw.keep (hB.block _ hrl) hB.size, hk2.below hb2 hk2.lt, hF.keep (fun j hj _ => hB.block _ hj) hB.size, Chg.of_below hB, ⟨by omega, by omega⟩, ⟨by omega, by omega⟩, ⟨⟨by omega, hA.1⟩, ⟨by omega, hA.2.1⟩, ⟨by omega, hA.2.2.1⟩, ⟨by omega, hA.2.2.2⟩, by omega⟩⟩)
        have hvs : ∀ j, j = b1 ∨ j = b2 ∨ j = eb ∨ j = sb → j < vb := by rintro j (rfl | rfl | rfl | rfl) <;> omega
        have hmx : xb < wc.heap.size ∧ sx < wc.heap.size ∧ tb < wc.heap.size ∧ bb < wc.heap.size ∧ db < wc.heap.size ∧ rb < wc.heap.size ∧ vb < wc.heap.size := by
          have := ht.lt
          have := hbk.lt
          omega
        have e10 := HW.out.e.p
        have hvx8 : vb ≠ xb := by omega
        clear c10 hx hdk hk1 hk2 ht hbk k1 k2 k1c hB1 hb hb2 hs hF hw hxz hdz htz hbz hz1 hz2 hzc hxl hdl hsbl htb hxd hrl h1l h2l hel k1l k2l
        go_upto_block 0 with (go_at_call 32; ((with_reducible refine (each33 xb sx tb bb db sb so rb n cs l.length (l.length - n) b1 b2 ss l _ ⟨0, 0⟩ HW.out.d HW.out.e HW.out.wd HSS.out hnl hl).mono ?_); rintro e w5 ⟨⟨x, rfl⟩, hd5, hw5, hc5⟩))
        have hz5 := hc5.size
        have HW6 : Hid (SccW vb xb sx tb bb db sb so rb n cs l.length (l.length - n) b1 b2 eb eo ea cap es beh ss w (notedK ⟨0, 0⟩ 1 (fun v => badLabel ss v (lab ss v)) n) (initL ss n l n) (w5.alloc (.cells #[.bool true] 4))) := Lib.hid (by
          have h5 := HW.out.go (W' := w5) (hc5.mono (fun j hj => hj.elim Or.inl (fun h => Or.inr (Or.inl h)))) (by
            rintro j (rfl | rfl | rfl | rfl)
            · exact hc5.block _ hmx.1 (fun h => h.elim HW.out.e.np.1 HW.out.e.np.2)
            · exact hc5.block _ hmx.2.1 (fun h => h.elim HW.out.e.nq.1 HW.out.e.nq.2)
            · exact hc5.block _ hmx.2.2.1 (fun h => h.elim HW.out.e.nt.1 HW.out.e.nt.2)
            · exact hc5.block _ hmx.2.2.2.1 (fun h => h.elim HW.out.e.nb.1 HW.out.e.nb.2)) hvs hd5 hw5
          exact h5.go (Chg.of_below ((Below.refl _ _).alloc (Nat.le_refl _) _)) (fun j hj => Below.heap_alloc _ _ _ (by rcases hj with rfl | rfl | rfl | rfl <;> omega)) hvs (h5.d.old _) (h5.wd.all _))
        have ha6 : isBlk (w5.alloc (.cells #[.bool true] 4)) w5.heap.size 4 [.bool true] := isBlk.new w5 4 [.bool true]
        have hsi := SInv.init ss es n l hnl
        obtain ⟨il1, _, il3⟩ := initL_facts ss n l hnl n (Nat.le_refl _)
        have hrel6 : SRel n es beh ss l (zeros (initL ss n l n) (n + n) + 1) true (initL ss n l n) := ⟨il1, il3, hsi, (fun h => by cases h), by simp⟩
        obtain ⟨M, hM⟩ : ∃ M, M = w5.heap.size := ⟨_, rfl⟩
        have hmx5 : xb < M ∧ sx < M ∧ tb < M ∧ bb < M ∧ db < M ∧ rb < M ∧ vb < M := by omega
        have HQ := Lib.hid (And.intro ha6 (And.intro HW6 hrel6))
        obtain ⟨W6, hW6⟩ : ∃ W6, w5.alloc (.cells #[.bool true] 4) = W6 := ⟨_, rfl⟩
        rw [hW6, ← hM] at HQ
        rw [hW6, ← hM]
        clear hW6 hM hrel6 il1 il3 hsi ha6 HW6 hz5 hd5 hw5 hc5 hmx HW e10
        generalize initL ss n l n = l0 at *
        go_wp2_with fail
        go_loopg [14, 15] (zeros l0 (n + n) + 1) (fun gk v14 _ wr => ∃ (ab : Nat) (ag : Bool) (l' : List Nat), v14 = .pointer (some ⟨ab, 0, none⟩) ∧ M ≤ ab ∧ isBlk wr ab 4 [.bool ag] ∧ Hid (SccW vb xb sx tb bb db sb so rb n cs l.length (l.length - n) b1 b2 eb eo ea cap es beh ss w (notedK ⟨0, 0⟩ 1 (fun v => badLabel ss v (lab ss v)) n) l' wr) ∧ SRel n es beh ss l gk ag l')
        case atStart => exact ⟨M, true, _, rfl, Nat.le_refl _, HQ.out.1, HQ.out.2.1, HQ.out.2.2⟩
        case round =>
          clear HQ
          obtain ⟨ab, ag, l', rfl, hab, hba, HW, hSR⟩ := hrel
          have c10 := HW.out.e.p
          have hsc : Hid (sccErr n ss.length l.length es beh = overErr n es beh) := Lib.hid (by unfold sccErr; rw [HSS.out, if_neg (by rw [HER.out, HE.out]; simp)])
          have a0 := hba.cell 0
          have aF := hba.frozen 0
          have hal := hba.lt
          have hll : n + n ≤ l'.length := by rw [hSR.len]; exact hnl
          have hll2 : l'.length ≤ 5000 := by rw [hSR.len]; exact hl
          cases ag
          · obtain ⟨hov, hnc⟩ := hSR.cl rfl
            have hdone := hSR.inv.done (allValid_mem (overErr_ok hov).1) hnc
            have hfd := scc_found hSR.inv.le hdone
            have HO := Lib.hid (hsc.out.trans hov)
            have HOV := Lib.hid hov
            have hle := hSR.inv.le
            have HLF := Lib.hid (And.intro hSR.len hSR.far)
            clear hSR hov hnc hdone
            go_upto_region 15 with (go_at_call 32; ((with_reducible refine (each38 xb sx tb bb db sb so rb n cs l.length (l.length - n) b1 b2 ss l' _ _ HW.out.d HW.out.e HW.out.wd HSS.out hll hll2 hle).mono ?_); rintro e w7 ⟨⟨x, rfl⟩, hd7, hc7⟩))
            have HX : Hid (SccW vb xb sx tb bb db sb so rb n cs l.length (l.length - n) b1 b2 eb eo ea cap es beh ss w (notedK (notedK ⟨0, 0⟩ 1 (fun v => badLabel ss v (lab ss v)) n) 2 (fun v => short l' n v) n) l' w7) := Lib.hid (HW.out.go (hc7.mono (fun j h => Or.inl h)) (by
              rintro j (rfl | rfl | rfl | rfl)
              · exact hc7.block _ (HW.out.e.lt _ (Or.inl rfl)) HW.out.e.np.1
              · exact hc7.block _ (HW.out.e.lt _ (Or.inr (Or.inl rfl))) HW.out.e.nq.1
              · exact hc7.block _ (HW.out.e.lt _ (Or.inr (Or.inr (Or.inl rfl)))) HW.out.e.nt.1
              · exact hc7.block _ (HW.out.e.lt _ (Or.inr (Or.inr (Or.inr (Or.inl rfl))))) HW.out.e.nb.1) hvs hd7 (HW.out.wd.keep (hc7.block _ HW.out.wd.lt (fun e => HW.out.e.nd e.symm)) hc7.size))
            clear hd7 hc7 HW hba a0 aF hal
            generalize notedK (notedK ⟨0, 0⟩ 1 (fun v => badLabel ss v (lab ss v)) n) 2 (fun v => short l' n v) n = F at *
            have c11 := HX.out.e.p
            have d6 : w7.cell? ⟨db, 6, none⟩ = some (.int .i64 F.r) := HX.out.d.cell 6
            have HV : Hid (isBlk w7 vb 35 [.bool false, .int .u32 0, .int .i64 0]) := Lib.hid HX.out.v
            by_cases hfr : F.r = 0
            · have hfr' : ((F.r : Int) != 0) = false := by rw [bne_eq_false_iff_eq]; omega
              obtain ⟨hlab, hlate⟩ := scc_late hfd hfr
              have HLT := Lib.hid hlate
              clear hfd hfr hlate c10
              have HLB := Lib.hid hlab
              clear hlab
              go_upto_region 17 with fail
              have hv7 : (∀ i, i < 3 → (w7.cell? ⟨vb, i, none⟩).isSome = true) ∧ (∀ i, i < 3 → w7.frozen? ⟨vb, i, none⟩ = false) := ⟨fun i hi => by rw [HV.out.cell i]; rcases i with _ | _ | _ | i <;> first | rfl | omega, fun i _ => HV.out.frozen i⟩
              have HV7 := Lib.hid hv7
              clear hv7 d6 hfr'
              go_region_held3 (fun wz => wz.cell? ⟨xb, 0, none⟩ = some (.pointer (some ⟨db, 0, none⟩)) ∧ True)
                (first | exact ⟨c11, trivial⟩ | exact ⟨hx8, trivial⟩ | (refine ⟨?_, trivial⟩; (repeat rw [World.cell?_setCell_far _ _ _ _ (by first | omega | (simp only []; omega))]); exact hx8))
                (((with_reducible refine Calls.mono (ring_ok db sb so rb n cs l.length (l.length - n) b1 b2 eb eo ea cap es beh ss F l' w7 HX.out.d HX.out.e.s HSS.out hn1 hll hll2 HLB.out HX.out.wd HX.out.fe HX.out.ap HOV.out) ?_); rintro e w8 ⟨x, y, z, f', l8, hvx, rfl, hp8, hw8, hc8⟩; have hx8 : w8.cell? ⟨xb, 0, none⟩ = some (.pointer (some ⟨db, 0, none⟩)) := (cell_heap (a := ⟨xb, 0, none⟩) (hc8.out.block _ (World.block_lt_of_cell? _ _ c11) (fun h => h.elim HX.out.e.np.1 HX.out.e.np.2))).trans c11; have hv8 : isBlk w8 vb 35 [.bool false, .int .u32 0, .int .i64 0] := (hc8.out.block _ HV.out.lt (fun h => h.elim HX.out.nv.1 HX.out.nv.2)).trans HV.out; have hc20 : w8.cell? ⟨vb, 0, none⟩ = _ := hv8.cell 0; have hc21 : w8.cell? ⟨vb, 1, none⟩ = _ := hv8.cell 1; have hc22 : w8.cell? ⟨vb, 2, none⟩ = _ := hv8.cell 2; have hf20 := hv8.frozen 0; have hf21 := hv8.frozen 1; have hf22 := hv8.frozen 2))
              go_wp2_with fail
              have hv2 := hv8
              clear hc20 hc21 hc22
              obtain ⟨hk9, hg9⟩ := set3 hv2 (.bool x) (.int .u32 y) (.int .i64 z)
              have r0 := hk9.cell 0
              have r1 := hk9.cell 1
              have r2 := hk9.cell 2
              refine bodyPost_ret (v := .tuple #[.agg #[.bool x, .int .u32 y, .int .i64 z], .int .i64 0]) (by simp (maxDischargeDepth := 8) [results, Try.results8, go_sem, r0, r1, r2]) rfl ?_
              obtain ⟨p, hp, hpf⟩ := hp8.out
              exact SccEnd.mk 0 x y z HO.out rfl (fun h => absurd rfl h) (fun _ => ⟨f', hvx.out, by rw [hpf]; exact HLT.out p hp⟩) hw8.out.1 (hw8.out.2.1.trans HLF.out.1) (fun j hj => (hw8.out.2.2 j hj).trans (HLF.out.2 j hj)) (HX.out.c.then hc8.out (fun j hj => hj.elim (fun e => Or.inr (by rw [e]; exact HX.out.nd.1)) Or.inl)) (Below.refl _ _) HX.out.nd.2 HX.out.nv.2 hg9
            · have hfr' : ((F.r : Int) != 0) = true := by rw [bne_iff_ne]; omega
              have HFE := Lib.hid (scc_early hfd hfr)
              clear hfd hfr c10
              go_wp2_with (go_at_call 37; ((with_reducible refine (verdict_x0 db _ _ _ HX.out.d).mono ?_); rintro e w2 ⟨x, y, z, hvx, rfl, hb2⟩; have hv2 := HV.out.below hb2 HV.out.lt; have hc20 : w2.cell? ⟨vb, 0, none⟩ = _ := hv2.cell 0; have hc21 : w2.cell? ⟨vb, 1, none⟩ = _ := hv2.cell 1; have hc22 : w2.cell? ⟨vb, 2, none⟩ = _ := hv2.cell 2; have hf20 := hv2.frozen 0; have hf21 := hv2.frozen 1; have hf22 := hv2.frozen 2))
              obtain ⟨hk9, hg9⟩ := set3 hv2 (.bool x) (.int .u32 y) (.int .i64 z)
              have r0 := hk9.cell 0
              have r1 := hk9.cell 1
              have r2 := hk9.cell 2
              refine bodyPost_ret (v := .tuple #[.agg #[.bool x, .int .u32 y, .int .i64 z], .int .i64 0]) (by simp (maxDischargeDepth := 8) [results, Try.results8, go_sem, r0, r1, r2]) rfl ?_
              refine SccEnd.mk 0 x y z HO.out rfl (fun h => absurd rfl h) (fun _ => ⟨F, hvx.out, HFE.out⟩) HX.out.wd HLF.out.1 HLF.out.2 HX.out.c hb2 HX.out.nd.2 HX.out.nv.2 hg9
          · have hcz : Chg (fun j => j = db ∨ j = rb ∨ vb < j) wr (wr.setCell ⟨ab, 0, none⟩ (.bool false)) := (Chg.refl _ wr).set (p := ⟨ab, 0, none⟩) (Or.inl (Or.inr (Or.inr (by simp only []; omega)))) _
            have HW9 := Lib.hid (HW.out.go hcz (fun j hj => Below.heap_setCell _ _ _ _ (by simp only []; rcases hj with rfl | rfl | rfl | rfl <;> omega)) hvs (HW.out.d.other (p := ⟨ab, 0, none⟩) (v := .bool false) (by simp only []; omega)) (HW.out.wd.other (p := ⟨ab, 0, none⟩) (v := .bool false) (by simp only []; omega)))
            have hba9 : isBlk (wr.setCell ⟨ab, 0, none⟩ (.bool false)) ab 4 [.bool false] := hba.set 0 (.bool false)
            have hsz9 : M ≤ (wr.setCell ⟨ab, 0, none⟩ (.bool false)).heap.size := by simp; omega
            have HSR := Lib.hid hSR
            have hpassI := fun p hp => SInv.pass (n := n) (es := es) p l' false hSR.inv hp
            have HPI := Lib.hid hpassI
            clear hcz hpassI hSR
            go_upto_region 9 with fail
            obtain ⟨W9, hW9⟩ : ∃ W9, wr.setCell ⟨ab, 0, none⟩ (.bool false) = W9 := ⟨_, rfl⟩
            rw [hW9] at HW9 hba9 hsz9 ⊢
            clear hW9 HW hba a0 aF hal c10
            have c10 := HW9.out.e.p
            obtain ⟨er, her⟩ : ∃ er, overErr n es beh = er := ⟨_, rfl⟩
            have HER2 := Lib.hid her
            have HBA := Lib.hid hba9
            have hb1' : ab ≠ db ∧ ab ≠ rb ∧ ab ≠ xb ∧ ab ≠ sx ∧ ab ≠ tb ∧ ab ≠ bb ∧ ab ≠ sb := by have := hvs sb (Or.inr (Or.inr (Or.inr rfl))); omega
            have hb2' : ab ≠ b1 ∧ ab ≠ b2 ∧ ab ≠ eb := by have h1 := hvs b1 (Or.inl rfl); have h2 := hvs b2 (Or.inr (Or.inl rfl)); have h3 := hvs eb (Or.inr (Or.inr (Or.inl rfl))); omega
            have HBB := Lib.hid (And.intro hb1' hb2')
            clear hba9 hb1' hb2' her
            by_cases hez : er = 0
            · have hez' : ((er : Int) != 0) = false := by rw [bne_eq_false_iff_eq]; omega
              have HEZ := Lib.hid hez
              clear hez
              go_wp2_with (go_at_call 35; ((with_reducible refine (over36 xb sx tb bb ab db sb so rb n cs l.length (l.length - n) b1 b2 eb eo ea cap es beh ss _ l' false _ HW9.out.d HW9.out.e HSS.out hll hll2 HW9.out.wd HW9.out.fe HW9.out.ap HBA.out HBB.out.1 HBB.out.2).mono ?_); rintro e w10 ⟨p, rfl, hp, hd10, hw10, ha10, hpv, hc10⟩; rw [HER2.out]; have a10 := ha10.cell 0; have HH := Lib.hid (And.intro hp (And.intro hd10 (And.intro hw10 (And.intro ha10 (And.intro hpv hc10))))); clear hp hd10 hw10 ha10 hpv hc10))
              have hov := HER2.out.trans HEZ.out
              obtain ⟨hp, hd10, hw10, ha10, hpv, hc10⟩ := HH.out
              have hpe := hp (overErr_ok hov).1
              rw [hpe] at hw10 ha10 hpv
              obtain ⟨i1', i2', i3', i4', i5'⟩ := HPI.out es (fun e he => ⟨he, hpv e he⟩)
              have hz10 := hc10.size
              have HW10 := HW9.out.go (hc10.mono (fun j hj => hj.elim (fun h => Or.inr (Or.inl h)) (fun h => Or.inr (Or.inr (by omega))))) (fun j hj => hc10.block _ (by rcases hj with rfl | rfl | rfl | rfl <;> omega) (by
                have hb := HBB.out.1
                rintro (e | e)
                · rcases hj with rfl | rfl | rfl | rfl
                  · exact HW9.out.e.np.2 e
                  · exact HW9.out.e.nq.2 e
                  · exact HW9.out.e.nt.2 e
                  · exact HW9.out.e.nb.2 e
                · omega)) hvs hd10 hw10
              have HW11 := HW10.go (W' := w10.alloc (.cells #[.bool (passL ss n es l' false).2] 4)) (Chg.of_below ((Below.refl _ _).alloc (Nat.le_refl _) _)) (fun j hj => Below.heap_alloc _ _ _ (by rcases hj with rfl | rfl | rfl | rfl <;> omega)) hvs (HW10.d.old _) (HW10.wd.all _)
              have hq := HSR.out
              have hz := hq.z
              simp only [if_true] at hz
              have hnew : SRel n es beh ss l (gk - 1) (passL ss n es l' false).2 (passL ss n es l' false).1 := by
                refine ⟨(passL_len ss n es l' false).trans hq.len, fun j hj => (i2' j hj).trans (hq.far j hj), i1', fun h => ⟨hov, ?_⟩, ?_⟩
                · have := i5' h
                  rw [this.1]; exact this.2
                · cases hb : (passL ss n es l' false).2
                  · have := zeros_mono i3'; simp only [Bool.false_eq_true, if_false]; omega
                  · have := (i4' hb).resolve_left (by decide); simp only [if_true]; omega
              have HN := Lib.hid (And.intro HW11 hnew)
              have hgq : 0 < gk := by omega
              rw [hpe] at a10
              clear hnew hz i1' i2' i3' i4' i5' hq hov hd10 hw10 ha10 hpv hc10 HW10 HW11 hp
              go_roundg (gk - 1)
              case measure => omega
              case rel => exact ⟨_, _, (passL ss n p l' false).1, rfl, by omega, isBlk.new w10 4 [_], by rw [hpe]; exact Lib.hid HN.out.1, by rw [hpe]; exact HN.out.2⟩
            · have hez' : ((er : Int) != 0) = true := by rw [bne_iff_ne]; omega
              have HEZ := Lib.hid hez
              clear hez
              go_wp2_with (first | (go_at_call 35; ((with_reducible refine (over36 xb sx tb bb ab db sb so rb n cs l.length (l.length - n) b1 b2 eb eo ea cap es beh ss _ l' false _ HW9.out.d HW9.out.e HSS.out hll hll2 HW9.out.wd HW9.out.fe HW9.out.ap HBA.out HBB.out.1 HBB.out.2).mono ?_); rintro e w10 ⟨p, rfl, hp, hd10, hw10, ha10, hpv, hc10⟩; rw [HER2.out]; have c12 : w10.cell? ⟨xb, 0, none⟩ = some (.pointer (some ⟨db, 0, none⟩)) := (cell_heap (a := ⟨xb, 0, none⟩) (hc10.block _ (World.block_lt_of_cell? _ _ c10) (fun h => h.elim HW9.out.e.np.2 (fun e => HBB.out.1.2.2.1 e.symm)))).trans c10; have HV : Hid (isBlk w10 vb 35 [.bool false, .int .u32 0, .int .i64 0]) := Lib.hid ((hc10.block _ HW9.out.v.lt (fun h => h.elim HW9.out.nv.2 (fun e => by omega))).trans HW9.out.v); have HH := Lib.hid (And.intro hd10 (And.intro hw10 (And.intro hpv hc10))); clear hp hd10 hw10 ha10 hpv hc10)) | (go_at_call 37; ((with_reducible refine (verdict_x db _ _ er _ HH.out.1).mono ?_); rintro e w2 ⟨x, y, z, hvx, rfl, hb2⟩; have hv2 := HV.out.below hb2 HV.out.lt; have hc20 : w2.cell? ⟨vb, 0, none⟩ = _ := hv2.cell 0; have hc21 : w2.cell? ⟨vb, 1, none⟩ = _ := hv2.cell 1; have hc22 : w2.cell? ⟨vb, 2, none⟩ = _ := hv2.cell 2; have hf20 := hv2.frozen 0; have hf21 := hv2.frozen 1; have hf22 := hv2.frozen 2)))
              obtain ⟨hk9, hg9⟩ := set3 hv2 (.bool x) (.int .u32 y) (.int .i64 z)
              have r0 := hk9.cell 0
              have r1 := hk9.cell 1
              have r2 := hk9.cell 2
              refine bodyPost_ret (v := .tuple #[.agg #[.bool x, .int .u32 y, .int .i64 z], .int .i64 er]) (by simp (maxDischargeDepth := 8) [results, Try.results8, go_sem, r0, r1, r2]) rfl ?_
              have hxyz : x = false ∧ y = 0 ∧ z = 0 := by
                have h1 := hvx.out
                unfold verdC at h1
                rw [if_pos HEZ.out] at h1
                simp only [Array.mk.injEq, List.cons.injEq, Value.bool.injEq, Value.int.injEq, true_and, and_true] at h1
                exact ⟨h1.1.symm, by omega, by omega⟩
              refine SccEnd.mk er x y z (hsc.out.trans HER2.out) rfl (fun _ => hxyz) (fun h => absurd h HEZ.out) HH.out.2.1 ((passL_len _ _ _ _ _).trans HSR.out.len) (fun j hj => (passL_far hll HH.out.2.2.1 j hj).trans (HSR.out.far j hj)) (HW9.out.c.then HH.out.2.2.2 (fun j hj => hj.elim Or.inl (fun e => Or.inr (by have := HW9.out.nd.2; omega)))) hb2 HW9.out.nd.2 HW9.out.nv.2 hg9
  · have HE := Lib.hid he
    have he' : ((er : Int) != 0) = true := by rw [bne_iff_ne]; omega
    clear he
    go_enter Try.func8, Try.ntmps8
    go_upto_region 1 with fail
    obtain ⟨W1, hW1⟩ : ∃ W1, ((w.alloc (.cells #[.slice a ss.length cs] 23)).alloc (.cells #[.bool false, .int .u32 0, .int .i64 0] 35)) = W1 := ⟨_, rfl⟩
    have hB1 : Below w.heap.size w W1 := by rw [← hW1]; exact (by repeat (first | with_reducible exact Below.refl _ _ | with_reducible assumption | with_reducible refine below_drewN ?_ _ | with_reducible refine Below.drew ?_ | ((with_reducible refine Bset ?_ ?_); focus (first | omega | (simp; done) | (simp; omega))) | ((with_reducible refine Ball ?_ ?_); focus (first | omega | (simp; done) | (simp; omega)))))
    have k1 : W1.cell? ⟨w.heap.size, 0, none⟩ = some (.slice a ss.length cs) := by rw [← hW1]; exact ((isBlk.new w 23 [.slice a ss.length cs]).old _).cell 0
    have k2 : isBlk W1 (w.heap.size + 1) 35 [.bool false, .int .u32 0, .int .i64 0] := by rw [← hW1]; have := isBlk.new (w.alloc (.cells #[.slice a ss.length cs] 23)) 35 [.bool false, .int .u32 0, .int .i64 0]; rw [World.size_alloc] at this; exact this
    have hz1 : W1.heap.size = w.heap.size + 2 := by rw [← hW1]; simp
    rw [hW1]
    clear hW1
    have k1l : w.heap.size < W1.heap.size := by omega
    obtain ⟨sx, hsx⟩ : ∃ sx, sx = w.heap.size := ⟨_, rfl⟩
    obtain ⟨vb, hvb⟩ : ∃ vb, vb = w.heap.size + 1 := ⟨_, rfl⟩
    rw [← hvb] at k2 ⊢
    rw [← hsx] at k1 k1l ⊢
    have hvz0 : w.heap.size ≤ vb := by omega
    clear hsx hvb
    have k2l := k2.lt
    clear hz1
    go_cut [10, 11] (fun _ v11 wx => v11 = .int .i64 er ∧ Below W1.heap.size W1 wx)
    case first =>
      go_region_held3 (fun wz => W1.heap.size ≤ wz.heap.size ∧ (∀ b o, b < W1.heap.size → wz.cell? ⟨b, o, none⟩ = W1.cell? ⟨b, o, none⟩) ∧ Hid (Below W1.heap.size W1 wz))
        (first | exact kS_refl _ | exact kS_of (by repeat (first | with_reducible exact Below.refl _ _ | with_reducible refine Below.drew ?_ | ((with_reducible refine Bset ?_ ?_); focus (first | exact Nat.le_refl _ | exact hb2.size | omega | (simp; done) | (simp; omega))) | ((with_reducible refine Ball ?_ ?_); focus (first | exact Nat.le_refl _ | exact hb2.size | omega | (simp; done) | (simp; omega))) | ((with_reducible refine Below.trans ?_ (hb2.mono ?_)); rotate_left; focus (first | exact Nat.le_refl _ | (simp; done) | (simp; omega))))))
        (first | (go_at_call 31; (with_reducible refine Calls.mono (scc_any n _) ?_); rintro e w2 ⟨⟨p, rfl⟩, hb2⟩; obtain ⟨hc2, hf2⟩ := bcell hb2; have hz2 := hb2.size; (try simp only [World.size_alloc, dsz] at hz2); (try (have hx2 : W1.heap.size < w2.heap.size := by omega)); (try (have hx3 : ¬ W1.heap.size = w2.heap.size := by omega))) | (go_at_call 30; (with_reducible refine Calls.mono (made_any _ _ _) ?_); rintro e w3 ⟨rfl, rfl⟩) | (go_at_call 29; (with_reducible refine Calls.mono (sit_bad n ss.length cs er _ _ _ _ _ _ _ hn HER.out HE.out) ?_); rintro e w4 ⟨rfl, rfl⟩))
      all_goals
        go_wp2_with fail
        go_meet
        refine ⟨rfl, ?_⟩
        repeat (first | with_reducible exact Below.refl _ _ | with_reducible refine Below.drew ?_ | ((with_reducible refine Bset ?_ ?_); focus (first | exact Nat.le_refl _ | exact hb2.size | omega | (simp; done) | (simp; omega))) | ((with_reducible refine Ball ?_ ?_); focus (first | exact Nat.le_refl _ | exact hb2.size | omega | (simp; done) | (simp; omega))) | ((with_reducible refine Below.trans ?_ (hb2.mono ?_)); rotate_left; focus (first | exact Nat.le_refl _ | (simp; done) | (simp; omega))))
    case rest =>
      obtain ⟨rfl, hb⟩ := hcut
      have hk2 := k2.below hb k2l
      have r0 : wc.cell? ⟨vb, 0, none⟩ = some (.bool false) := hk2.cell 0
      have r1 : wc.cell? ⟨vb, 1, none⟩ = some (.int .u32 0) := hk2.cell 1
      have r2 : wc.cell? ⟨vb, 2, none⟩ = some (.int .i64 0) := hk2.cell 2
      have f0 := hk2.frozen 0
      have f1 := hk2.frozen 1
      have f2 := hk2.frozen 2
      have hvz' : w.heap.size ≤ vb := hvz0
      have hB2 := hB1.trans (hb.mono hB1.size)
      clear k1 k1l hB1
      go_wp2
      obtain ⟨hk9, hg9⟩ := set3 hk2 (.bool false) (.int .u32 0) (.int .i64 0)
      have r0' := hk9.cell 0
      have r1' := hk9.cell 1
      have r2' := hk9.cell 2
      refine bodyPost_ret (v := .tuple #[.agg #[.bool false, .int .u32 0, .int .i64 0], .int .i64 er]) (by simp (maxDischargeDepth := 8) [results, Try.results8, go_sem, r0', r1', r2']) rfl ?_
      exact SccEnd.mk er false 0 0 (by unfold sccErr; rw [HER.out, if_pos HE.out]) rfl (fun _ => ⟨rfl, rfl, rfl⟩) (fun h => absurd h HE.out) (hw.keep (hB2.block _ hw.lt) hB2.size) rfl (fun _ _ => rfl) (Chg.of_below hB2) (Below.refl _ _) hvz' (by have := hw.lt; omega) hg9

end Go.Proofs.Ytohmeobfiomfdaa
