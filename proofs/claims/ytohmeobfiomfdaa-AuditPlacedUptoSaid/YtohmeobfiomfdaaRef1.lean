/-
  The document's list of faults: begin, note, verdict.
-/
import Derived.Test.YtohmeobfiomfdaaHelp
namespace Go.Proofs.Ytohmeobfiomfdaa
open Go.RowKit Go.Shelf
set_option maxRecDepth 100000

def i64L (l : List Nat) : List Value := l.map fun x : Nat => .int .i64 (x : Int)
def u64L (l : List Nat) : List Value := l.map fun x : Nat => .int .u64 (x : Int)
def boolL (l : List Bool) : List Value := l.map fun x => .bool x
theorem i64L_get (l : List Nat) (j : Nat) (h : j < l.length) : (i64L l)[j]? = some (.int .i64 ((l.getD j 0 : Nat) : Int)) := by
  unfold i64L; rw [List.getElem?_map, List.getD_eq_getElem?_getD, List.getElem?_eq_getElem h]; rfl
theorem u64L_get (l : List Nat) (j : Nat) (h : j < l.length) : (u64L l)[j]? = some (.int .u64 ((l.getD j 0 : Nat) : Int)) := by
  unfold u64L; rw [List.getElem?_map, List.getD_eq_getElem?_getD, List.getElem?_eq_getElem h]; rfl
theorem boolL_get (l : List Bool) (j : Nat) (h : j < l.length) : (boolL l)[j]? = some (.bool (l.getD j false)) := by
  unfold boolL; rw [List.getElem?_map, List.getD_eq_getElem?_getD, List.getElem?_eq_getElem h]; rfl
theorem i64L_set (l : List Nat) (i x : Nat) : (i64L l).set i (.int .i64 (x : Int)) = i64L (l.set i x) := by unfold i64L; rw [List.map_set]
theorem u64L_set (l : List Nat) (i x : Nat) : (u64L l).set i (.int .u64 (x : Int)) = u64L (l.set i x) := by unfold u64L; rw [List.map_set]
theorem boolL_set (l : List Bool) (i : Nat) (x : Bool) : (boolL l).set i (.bool x) = boolL (l.set i x) := by unfold boolL; rw [List.map_set]

/-- A fault noted: of each vertex the least rule. -/
def noteL (l : List Nat) (v r : Nat) (b : Bool) : List Nat := if b = true ∧ (l.getD v 0 = 0 ∨ r < l.getD v 0) then l.set v r else l
theorem noteL_len (l : List Nat) (v r : Nat) (b : Bool) : (noteL l v r b).length = l.length := by unfold noteL; split <;> simp

/-- The faults of a document: a row of rules. -/
abbrev FaultV (g n : Nat) : Value := .agg #[.slice (some ⟨g, 0, none⟩) n n]

set_option maxHeartbeats 1000000 in
theorem note_any (g n v r : Nat) (b : Bool) (l : List Nat) (w : World) (h : isBlk w g 3 (i64L l)) (hl : l.length = n) (hv : v < n) :
    Calls Try.prog 44 #[FaultV g n, .int .i64 v, .int .i64 r, .bool b] w fun e w' => (∃ x, e = .returned x) ∧ isBlk w' g 3 (i64L (noteL l v r b)) ∧ Chg (fun j => j = g) w w' := by
  unfold FaultV
  have hgl := h.lt
  have c : w.cell? ⟨g, v, none⟩ = some (.int .i64 ((l.getD v 0 : Nat) : Int)) := by rw [h.cell v]; exact i64L_get l v (by omega)
  have f := h.frozen v
  have hne : ¬ g = w.heap.size := by omega
  have h1 := h.old (.cells #[.slice (some ⟨g, 0, none⟩) n n] 82)
  have h2 := (h.set v (.int .i64 (r : Int))).old (.cells #[.slice (some ⟨g, 0, none⟩) n n] 82)
  rw [i64L_set] at h2
  have hc1 := (Chg.refl (fun j => j = g) w).all (.cells #[.slice (some ⟨g, 0, none⟩) n n] 82)
  have hc2 := ((Chg.refl (fun j => j = g) w).set (p := ⟨g, v, none⟩) (Or.inl rfl) (.int .i64 (r : Int))).all (.cells #[.slice (some ⟨g, 0, none⟩) n n] 82)
  have hno : noteL l v r b = l → (isBlk (w.alloc (.cells #[.slice (some ⟨g, 0, none⟩) n n] 82)) g 3 (i64L (noteL l v r b)) ∧ Chg (fun j => j = g) w (w.alloc (.cells #[.slice (some ⟨g, 0, none⟩) n n] 82))) := fun e => by rw [e]; exact ⟨h1, hc1⟩
  have hyes : noteL l v r b = l.set v r → (isBlk ((w.setCell ⟨g, v, none⟩ (.int .i64 (r : Int))).alloc (.cells #[.slice (some ⟨g, 0, none⟩) n n] 82)) g 3 (i64L (noteL l v r b)) ∧ Chg (fun j => j = g) w ((w.setCell ⟨g, v, none⟩ (.int .i64 (r : Int))).alloc (.cells #[.slice (some ⟨g, 0, none⟩) n n] 82))) := fun e => by rw [e]; exact ⟨h2, hc2⟩
  have hd : noteL l v r b = if b = true ∧ (l.getD v 0 = 0 ∨ r < l.getD v 0) then l.set v r else l := rfl
  have i1 : (v : Int) < n := by omega
  have i2 : (0 : Int) ≤ v := Int.natCast_nonneg _
  have HN := Lib.hid hno
  have HY := Lib.hid hyes
  have HD := Lib.hid hd
  clear hno hyes hd h h1 h2 hc1 hc2
  generalize l.getD v 0 = x at *
  cases b
  · have HF := Lib.hid (HN.out (HD.out.trans (if_neg (by simp))))
    clear HN HY HD
    go_enter Try.func44, Try.ntmps44
    go_wp2
    go_end0
    exact ⟨⟨_, rfl⟩, HF.out⟩
  · by_cases h1 : x = 0
    · have h1' : ((x : Int) == 0) = true := by rw [beq_iff_eq]; omega
      have HF := Lib.hid (HY.out (HD.out.trans (if_pos ⟨rfl, Or.inl h1⟩)))
      clear HN HY HD h1
      go_enter Try.func44, Try.ntmps44
      go_wp2
      go_end0
      exact ⟨⟨_, rfl⟩, HF.out⟩
    · have h1' : ((x : Int) == 0) = false := by rw [beq_eq_false_iff_ne]; omega
      by_cases h2 : r < x
      · have h2' : (r : Int) < x := by omega
        have HF := Lib.hid (HY.out (HD.out.trans (if_pos ⟨rfl, Or.inr h2⟩)))
        clear HN HY HD h1 h2
        go_enter Try.func44, Try.ntmps44
        go_wp2
        go_end0
        exact ⟨⟨_, rfl⟩, HF.out⟩
      · have h2' : ¬ (r : Int) < x := by omega
        have HF := Lib.hid (HN.out (HD.out.trans (if_neg (fun h => h.2.elim h1 h2))))
        clear HN HY HD h1 h2
        go_enter Try.func44, Try.ntmps44
        go_wp2
        go_end0
        exact ⟨⟨_, rfl⟩, HF.out⟩

theorem Try.info3 : (Try.prog.info? 3).map (fun i => (i.zero, i.size, i.bytes)) = some (some (.int .i64 0), 1, 8) := by kernel_rfl
theorem madeCells_one (v : Value) (n : Nat) : madeCells #[v] n = (List.replicate n v).toArray := by
  apply Array.ext'
  apply List.ext_getElem
  · simp [madeCells]
  · intro k h1 h2
    simp [madeCells, Nat.mod_one]
theorem isBlk.rep (w : World) (n : Nat) (T : TypeId) (v : Value) : isBlk (w.alloc (.cells (Array.replicate n v) T)) w.heap.size T (List.replicate n v) := by
  have := isBlk.new w T (List.replicate n v)
  rw [List.toArray_replicate] at this
  exact this
theorem begin_any (n : Nat) (w : World) (hn : n ≤ 1048576) :
    Calls Try.prog 43 #[.int .u32 n] w fun e w' => ∃ g, e = .returned (FaultV g n) ∧ isBlk w' g 3 (i64L (List.replicate n 0)) ∧ w.heap.size ≤ g ∧ Below w.heap.size w w' := by
  obtain ⟨i0, hi, hz0, hz1, hz2⟩ := info_parts Try.info3
  have hmk : ∀ w, (Instr.makeSlice 80 (.int .u32 n) (.int .u32 n)).run Try.prog w = .ok (.slice (some ⟨w.heap.size, 0, none⟩) n n) (w.alloc (.cells (madeCells #[.int .i64 0] (n * 1)) 3)) := by
    intro w
    have := run_make w 80 3 i0 (.int .i64 0) Try.underlying80 hi hz0 .u32 .u32 n n (by omega) (by omega) (by rw [hz2]; omega) (by omega)
    rw [hz1] at this
    simp only [Int.toNat_natCast, Value.cells] at this
    exact this
  simp only [Nat.mul_one, madeCells_one] at hmk
  have hi64 : i64L (List.replicate n 0) = List.replicate n (.int .i64 0) := by simp [i64L]
  rw [hi64]
  clear hi64
  go_enter Try.func43, Try.ntmps43
  go_wp2
  unfold FaultV
  have hk := isBlk.rep (w.alloc (.cells #[.slice (some ⟨w.heap.size + 1, 0, none⟩) n n] 82)) n 3 (.int .i64 0)
  have k0 : ((w.alloc (.cells #[.slice (some ⟨w.heap.size + 1, 0, none⟩) n n] 82)).alloc (.cells (Array.replicate n (.int .i64 0)) 3)).cell? ⟨w.heap.size, 0, none⟩ = some (.slice (some ⟨w.heap.size + 1, 0, none⟩) n n) := ((isBlk.new w 82 [.slice (some ⟨w.heap.size + 1, 0, none⟩) n n]).old (.cells (Array.replicate n (.int .i64 0)) 3)).cell 0
  rw [World.size_alloc] at hk
  refine bodyPost_ret (v := .agg #[.slice (some ⟨w.heap.size + 1, 0, none⟩) n n]) (by simp (maxDischargeDepth := 8) [results, Try.results43, go_sem, k0]) rfl ?_
  exact ⟨w.heap.size + 1, rfl, hk, by omega, (by repeat (first | with_reducible exact Below.refl _ _ | with_reducible assumption | with_reducible refine below_drewN ?_ _ | with_reducible refine Below.drew ?_ | ((with_reducible refine Bset ?_ ?_); focus (first | omega | (simp; done) | (simp; omega))) | ((with_reducible refine Ball ?_ ?_); focus (first | omega | (simp; done) | (simp; omega)))))⟩

/-- The verdict that a row of rules tells. -/
def AtV (l : List Nat) (k : Nat) : Prop := ∀ j, j < k → l.getD j 0 = 0

set_option maxHeartbeats 1000000 in
theorem verdictR_any (g n : Nat) (l : List Nat) (w : World) (h : isBlk w g 3 (i64L l)) (hl : l.length = n) (hn : n ≤ 1048576) :
    Calls Try.prog 46 #[FaultV g n] w fun e w' => ∃ (x : Bool) (y z : Nat), e = .returned (.agg #[.bool x, .int .u32 y, .int .i64 z]) ∧ ((x = true ∧ y = 0 ∧ z = 0 ∧ AtV l n) ∨ (x = false ∧ y < n ∧ AtV l y ∧ z = l.getD y 0 ∧ z ≠ 0)) ∧ Below w.heap.size w w' := by
  unfold FaultV
  have hgl := h.lt
  go_enter Try.func46, Try.ntmps46
  go_wp2
  obtain ⟨W1, hW1⟩ : ∃ W1, ((w.alloc (.cells #[.slice (some ⟨g, 0, none⟩) n n] 82)).alloc (.cells #[.bool false, .int .u32 0, .int .i64 0] 35)) = W1 := ⟨_, rfl⟩
  have k1 : isBlk W1 w.heap.size 82 [.slice (some ⟨g, 0, none⟩) n n] := by rw [← hW1]; exact (isBlk.new w 82 [_]).old _
  have k2 : isBlk W1 (w.heap.size + 1) 35 [.bool false, .int .u32 0, .int .i64 0] := by rw [← hW1]; have := isBlk.new (w.alloc (.cells #[.slice (some ⟨g, 0, none⟩) n n] 82)) 35 [.bool false, .int .u32 0, .int .i64 0]; rw [World.size_alloc] at this; exact this
  have k3 : isBlk W1 g 3 (i64L l) := by rw [← hW1]; exact (h.old _).old _
  have hB : Below w.heap.size w W1 := by rw [← hW1]; exact (by repeat (first | with_reducible exact Below.refl _ _ | with_reducible assumption | with_reducible refine below_drewN ?_ _ | with_reducible refine Below.drew ?_ | ((with_reducible refine Bset ?_ ?_); focus (first | omega | (simp; done) | (simp; omega))) | ((with_reducible refine Ball ?_ ?_); focus (first | omega | (simp; done) | (simp; omega)))))
  rw [hW1]
  clear hW1 h
  obtain ⟨pb, hpb⟩ : ∃ pb, pb = w.heap.size := ⟨_, rfl⟩
  obtain ⟨vb, hvb⟩ : ∃ vb, vb = w.heap.size + 1 := ⟨_, rfl⟩
  rw [← hvb] at k2 ⊢
  rw [← hpb] at k1 ⊢
  have hvz : w.heap.size ≤ vb := by omega
  have hvn : vb ≠ pb ∧ vb ≠ g := by omega
  have c1 : W1.cell? ⟨pb, 0, none⟩ = some (.slice (some ⟨g, 0, none⟩) n n) := k1.cell 0
  have c2 : W1.cell? ⟨vb, 0, none⟩ = some (.bool false) := k2.cell 0
  have c3 : W1.cell? ⟨vb, 1, none⟩ = some (.int .u32 0) := k2.cell 1
  have c4 : W1.cell? ⟨vb, 2, none⟩ = some (.int .i64 0) := k2.cell 2
  have f2 := k2.frozen 0
  have f3 := k2.frozen 1
  have f4 := k2.frozen 2
  clear hpb hvb
  go_loopg [3] n (fun gk i wr => ∃ k : Nat, k + gk = n ∧ i = .int .i64 k ∧ AtV l k ∧ W1 = wr)
  case atStart => exact ⟨0, by omega, rfl, fun j hj => absurd hj (Nat.not_lt_zero j), rfl⟩
  case round =>
    obtain ⟨k, hk, rfl, hat, rfl⟩ := hrel
    have HAT := Lib.hid hat
    clear hat
    by_cases hlt : k < n
    · have i1 : (k : Int) < n := by omega
      have i2 : (0 : Int) ≤ k := Int.natCast_nonneg _
      have hkw : IntKind.u32.wrap (k : Int) = (k : Int) := by rw [IntKind.wrap_u32]; omega
      have c5 : W1.cell? ⟨g, k, none⟩ = some (.int .i64 ((l.getD k 0 : Nat) : Int)) := by rw [k3.cell k]; exact i64L_get l k (by omega)
      have hgk : 0 < gk := by omega
      obtain ⟨x, hx⟩ : ∃ x, l.getD k 0 = x := ⟨_, rfl⟩
      rw [hx] at c5
      have HX := Lib.hid hx
      clear hx
      by_cases h1 : x = 0
      · have h1' : ((x : Int) != 0) = false := by rw [bne_eq_false_iff_eq]; omega
        have H1 := Lib.hid h1
        clear h1
        go_wp2
        go_roundg (gk - 1)
        case measure => omega
        case rel => exact ⟨k + 1, by omega, by go_num, fun j hj => by
          by_cases e : j = k
          · rw [e, HX.out, H1.out]
          · exact HAT.out j (by omega), rfl⟩
      · have h1' : ((x : Int) != 0) = true := by rw [bne_iff_ne]; omega
        have H1 := Lib.hid h1
        clear h1
        go_wp2
        obtain ⟨hk9, hg9⟩ := set3 k2 (.bool false) (.int .u32 k) (.int .i64 x)
        have r0 := hk9.cell 0
        have r1 := hk9.cell 1
        have r2 := hk9.cell 2
        refine bodyPost_ret (v := .agg #[.bool false, .int .u32 k, .int .i64 x]) (by simp (maxDischargeDepth := 8) [results, Try.results46, go_sem, r0, r1, r2]) rfl ?_
        exact ⟨false, k, x, rfl, Or.inr ⟨rfl, hlt, HAT.out, HX.out.symm, H1.out⟩, Bset hvz (Bset hvz (Bset hvz hB))⟩
    · obtain rfl : n = k := by omega
      go_wp2
      obtain ⟨hk9, hg9⟩ := set3 k2 (.bool true) (.int .u32 0) (.int .i64 0)
      have r0 := hk9.cell 0
      have r1 := hk9.cell 1
      have r2 := hk9.cell 2
      refine bodyPost_ret (v := .agg #[.bool true, .int .u32 0, .int .i64 0]) (by simp (maxDischargeDepth := 8) [results, Try.results46, go_sem, r0, r1, r2]) rfl ?_
      exact ⟨true, 0, 0, rfl, Or.inl ⟨rfl, rfl, rfl, HAT.out⟩, Bset hvz (Bset hvz (Bset hvz hB))⟩

/-- A row of rules tells what is broken at the vertices. -/
def Tells (l : List Nat) (n : Nat) (B : Nat → Nat → Prop) : Prop :=
  l.length = n ∧ (∀ v r, B v r → v < n ∧ r ≠ 0) ∧ ∀ v, v < n → (l.getD v 0 = 0 ∧ ∀ r, ¬ B v r) ∨ (B v (l.getD v 0) ∧ ∀ r, B v r → l.getD v 0 ≤ r)
theorem Tells.none (n : Nat) : Tells (List.replicate n 0) n (fun _ _ => False) :=
  ⟨by simp, fun _ _ h => h.elim, fun v hv => Or.inl ⟨by rw [List.getD_eq_getElem?_getD, List.getElem?_replicate]; simp [hv], fun _ h => h⟩⟩
theorem Tells.congr {l : List Nat} {n : Nat} {B B' : Nat → Nat → Prop} (h : Tells l n B) (e : ∀ v r, B v r ↔ B' v r) : Tells l n B' :=
  ⟨h.1, fun v r hb => h.2.1 v r ((e v r).2 hb), fun v hv => (h.2.2 v hv).imp (fun ⟨a, b⟩ => ⟨a, fun r hb => b r ((e v r).2 hb)⟩) (fun ⟨a, b⟩ => ⟨(e _ _).1 a, fun r hb => b r ((e v r).2 hb)⟩)⟩
theorem Tells.note {l : List Nat} {n : Nat} {B : Nat → Nat → Prop} (h : Tells l n B) (v r : Nat) (b : Bool) (hv : v < n) (hr : r ≠ 0) : Tells (noteL l v r b) n (fun x y => B x y ∨ (b = true ∧ x = v ∧ y = r)) := by
  obtain ⟨h1, h2, h3⟩ := h
  refine ⟨(noteL_len l v r b).trans h1, ?_, ?_⟩
  · rintro x y (hb | ⟨_, rfl, rfl⟩)
    · exact h2 x y hb
    · exact ⟨hv, hr⟩
  · intro x hx
    unfold noteL
    split
    · rename_i hc
      obtain ⟨hb, hc⟩ := hc
      rw [getD_set]
      by_cases e : v = x
      · subst e
        rw [if_pos ⟨rfl, by omega⟩]
        refine Or.inr ⟨Or.inr ⟨hb, rfl, rfl⟩, ?_⟩
        rintro y (hy | ⟨_, _, rfl⟩)
        · rcases h3 v hx with ⟨_, h4⟩ | ⟨h4, h5⟩
          · exact absurd hy (h4 y)
          · have := h5 y hy
            have := (h2 v _ h4).2
            omega
        · exact Nat.le_refl _
      · rw [if_neg (fun h => e h.1)]
        rcases h3 x hx with ⟨h4, h5⟩ | ⟨h4, h5⟩
        · exact Or.inl ⟨h4, fun y hy => hy.elim (h5 y) (fun h => e h.2.1.symm)⟩
        · exact Or.inr ⟨Or.inl h4, fun y hy => hy.elim (h5 y) (fun h => absurd h.2.1.symm e)⟩
    · rename_i hc
      rcases h3 x hx with ⟨h4, h5⟩ | ⟨h4, h5⟩
      · refine Or.inl ⟨h4, ?_⟩
        rintro y (hy | ⟨hb, rfl, rfl⟩)
        · exact h5 y hy
        · exact hc ⟨hb, Or.inl h4⟩
      · refine Or.inr ⟨Or.inl h4, ?_⟩
        rintro y (hy | ⟨hb, rfl, rfl⟩)
        · exact h5 y hy
        · have := (h2 x _ h4).2
          have : ¬ (l.getD x 0 = 0 ∨ y < l.getD x 0) := fun h => hc ⟨hb, h⟩
          omega
/-- The first vertex of the row is the least. -/
theorem Tells.least {l : List Nat} {n : Nat} {B : Nat → Nat → Prop} (h : Tells l n B) {x : Bool} {y z : Nat} (hv : (x = true ∧ y = 0 ∧ z = 0 ∧ AtV l n) ∨ (x = false ∧ y < n ∧ AtV l y ∧ z = l.getD y 0 ∧ z ≠ 0)) :
    verdC 0 ⟨y, z⟩ = #[.bool x, .int .u32 y, .int .i64 z] ∧ Least ⟨y, z⟩ B ∧ (x = true ↔ z = 0) := by
  obtain ⟨h1, h2, h3⟩ := h
  rcases hv with ⟨rfl, rfl, rfl, hat⟩ | ⟨rfl, hy, hat, rfl, hz⟩
  · refine ⟨by unfold verdC; rfl, Or.inl ⟨rfl, fun v r hb => ?_⟩, by simp⟩
    obtain ⟨hv, hr⟩ := h2 v r hb
    rcases h3 v hv with ⟨_, h4⟩ | ⟨h4, _⟩
    · exact h4 r hb
    · exact (h2 v _ h4).2 (hat v hv)
  · refine ⟨by unfold verdC; rw [if_neg (by simp), if_neg hz], Or.inr ⟨hz, ?_, ?_⟩, ⟨fun h => (by cases h), fun h => absurd h hz⟩⟩
    · rcases h3 y hy with ⟨h4, _⟩ | ⟨h4, _⟩
      · exact absurd h4 hz
      · exact h4
    · intro v r hb
      obtain ⟨hv, hr⟩ := h2 v r hb
      rcases h3 v hv with ⟨_, h4⟩ | ⟨h4, h5⟩
      · exact absurd hb (h4 r)
      · by_cases e : v < y
        · exact absurd (hat v e) ((h2 v _ h4).2)
        · by_cases e2 : v = y
          · subst e2; exact Or.inr ⟨rfl, h5 r hb⟩
          · exact Or.inl (by simp only []; omega)

end Go.Proofs.Ytohmeobfiomfdaa
