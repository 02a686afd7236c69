/-
  degrees: how many edges leave and enter each vertex.
-/
import Derived.Test.YtjmggfpomnnegaaState
namespace Go.Proofs.Ytjmggfpomnnegaa
open Go.RowKit
set_option maxRecDepth 100000

structure Dg where
  o : Nat
  i : Nat

def Dg.cells (d : Dg) : List Value := [.int .u64 d.o, .int .u64 d.i]
def dgCells (l : List Dg) : List Value := l.flatMap Dg.cells
def Dg.zero : Dg := ⟨0, 0⟩
def dgAt (l : List Dg) (j : Nat) : Dg := l[j]?.getD Dg.zero
def outUp (l : List Dg) (j : Nat) : List Dg := l.set j ⟨(dgAt l j).o + 1, (dgAt l j).i⟩
def inUp (l : List Dg) (j : Nat) : List Dg := l.set j ⟨(dgAt l j).o, (dgAt l j).i + 1⟩
def stepDeg (l : List Dg) (e : Ed) : List Dg := inUp (outUp l e.src) e.dst
def degs (n : Nat) (es : List Ed) : List Dg := es.foldl stepDeg (List.replicate n Dg.zero)

theorem dgCells_len (l : List Dg) : (dgCells l).length = l.length * 2 := by
  induction l with
  | nil => rfl
  | cons e l ih => simp [dgCells, Dg.cells] at ih ⊢; omega

theorem dgCells_get (l : List Dg) : ∀ (j : Nat) (_ : j < l.length), (dgCells l)[j * 2]? = some (.int .u64 (dgAt l j).o) ∧ (dgCells l)[j * 2 + 1]? = some (.int .u64 (dgAt l j).i) := by
  induction l with
  | nil => intro j hj; simp at hj
  | cons e l ih =>
    intro j hj
    cases j with
    | zero => simp [dgCells, Dg.cells, dgAt]
    | succ j =>
      have := ih j (by simpa using hj)
      have e2 : (j + 1) * 2 = j * 2 + 2 := by omega
      simp only [dgCells, List.flatMap_cons, Dg.cells, dgAt] at this ⊢
      rw [e2]
      simpa using this

theorem dgCells_set (l : List Dg) : ∀ (j : Nat) (_ : j < l.length) (d : Dg), ((dgCells l).set (j * 2) (.int .u64 d.o)).set (j * 2 + 1) (.int .u64 d.i) = dgCells (l.set j d) := by
  induction l with
  | nil => intro j hj; simp at hj
  | cons e l ih =>
    intro j hj d
    cases j with
    | zero => simp [dgCells, Dg.cells]
    | succ j =>
      have := ih j (by simpa using hj) d
      have e2 : (j + 1) * 2 = j * 2 + 2 := by omega
      simp only [dgCells, List.flatMap_cons, Dg.cells, List.set_cons_succ] at this ⊢
      rw [e2]
      simpa using this

theorem set_same_get {l : List Value} {j : Nat} {v : Value} (h : l[j]? = some v) : l.set j v = l := by
  apply List.ext_getElem?
  intro k
  rw [List.getElem?_set]
  split
  · rename_i hk; subst hk; rw [h]; split; rfl; rename_i hn; rw [List.getElem?_eq_none (by omega)] at h; cases h
  · rfl

theorem dgCells_out (l : List Dg) (j : Nat) (h : j < l.length) : (dgCells l).set (j * 2) (.int .u64 ((dgAt l j).o + 1 : Nat)) = dgCells (outUp l j) := by
  unfold outUp
  rw [← dgCells_set l j h]
  refine (set_same_get ?_).symm
  rw [List.getElem?_set_ne (by omega)]
  exact (dgCells_get l j h).2

theorem dgCells_in (l : List Dg) (j : Nat) (h : j < l.length) : (dgCells l).set (j * 2 + 1) (.int .u64 ((dgAt l j).i + 1 : Nat)) = dgCells (inUp l j) := by
  unfold inUp
  rw [← dgCells_set l j h]
  congr 1
  exact (set_same_get (dgCells_get l j h).1).symm

theorem outUp_len (l : List Dg) (j : Nat) : (outUp l j).length = l.length := by simp [outUp]
theorem inUp_len (l : List Dg) (j : Nat) : (inUp l j).length = l.length := by simp [inUp]
theorem dgAt_out_i (l : List Dg) (j k : Nat) : (dgAt (outUp l j) k).i = (dgAt l k).i := by
  unfold outUp dgAt
  rw [List.getElem?_set]
  split
  · rename_i h; subst h
    split
    · rfl
    · rename_i hn; rw [List.getElem?_eq_none (by omega)]
  · rfl

theorem stepDeg_len (l : List Dg) (e : Ed) : (stepDeg l e).length = l.length := by unfold stepDeg; rw [inUp_len, outUp_len]
theorem degs_len (n : Nat) (es : List Ed) : (degs n es).length = n := by
  unfold degs
  have : ∀ (es : List Ed) (l : List Dg), (es.foldl stepDeg l).length = l.length := by
    intro es
    induction es with
    | nil => intro l; rfl
    | cons e es ih => intro l; rw [List.foldl_cons, ih, stepDeg_len]
  rw [this]; simp

theorem degs_take (n : Nat) (es : List Ed) (k : Nat) (h : k < es.length) : degs n (es.take (k + 1)) = stepDeg (degs n (es.take k)) es[k] := by
  unfold degs
  rw [List.take_succ_eq_append_getElem h, List.foldl_append]
  rfl

theorem stepDeg_le (l : List Dg) (e : Ed) (j : Nat) : (dgAt (stepDeg l e) j).o ≤ (dgAt l j).o + 1 ∧ (dgAt (stepDeg l e) j).i ≤ (dgAt l j).i + 1 := by
  have ho : ∀ (l : List Dg) (j k : Nat), (dgAt (outUp l j) k).o ≤ (dgAt l k).o + 1 := by
    intro l j k
    unfold outUp dgAt
    rw [List.getElem?_set]
    split
    · rename_i h; subst h
      split
      · simp
      · simp [Dg.zero]
    · omega
  have hi : ∀ (l : List Dg) (j k : Nat), (dgAt (inUp l j) k).o = (dgAt l k).o ∧ (dgAt (inUp l j) k).i ≤ (dgAt l k).i + 1 := by
    intro l j k
    unfold inUp dgAt
    rw [List.getElem?_set]
    split
    · rename_i h; subst h
      split
      · simp
      · rename_i hn; rw [List.getElem?_eq_none (by omega)]; simp [Dg.zero]
    · simp
  unfold stepDeg
  refine ⟨?_, ?_⟩
  · rw [(hi _ _ _).1]; exact ho _ _ _
  · have := (hi (outUp l e.src) e.dst j).2
    rw [dgAt_out_i] at this
    exact this

theorem degs_le (n : Nat) (es : List Ed) (j : Nat) : (dgAt (degs n es) j).o ≤ es.length ∧ (dgAt (degs n es) j).i ≤ es.length := by
  have : ∀ (k : Nat), k ≤ es.length → (dgAt (degs n (es.take k)) j).o ≤ k ∧ (dgAt (degs n (es.take k)) j).i ≤ k := by
    intro k
    induction k with
    | zero =>
      intro _
      simp only [List.take_zero, degs, List.foldl_nil, dgAt]
      rw [List.getElem?_replicate]
      split <;> simp [Dg.zero]
    | succ k ih =>
      intro hk
      have h1 := ih (by omega)
      rw [degs_take n es k (by omega)]
      have h2 := stepDeg_le (degs n (es.take k)) es[k] j
      omega
  have h := this es.length (Nat.le_refl _)
  rwa [List.take_length] at h

theorem Try.info31 : (Try.prog.info? 31).map (fun i => (i.zero, i.size, i.bytes)) = some (some (.agg #[.int .u64 0, .int .u64 0]), 2, 16) := by kernel_rfl

theorem madeCells_rep2 (n : Nat) : (madeCells #[.int .u64 0, .int .u64 0] (n * 2)).toList = dgCells (List.replicate n Dg.zero) := by
  apply List.ext_getElem?
  intro k
  by_cases hk : k < n * 2
  · have h1 : (madeCells #[.int .u64 0, .int .u64 0] (n * 2)).toList[k]? = some (.int .u64 0) := by
      simp [madeCells, hk]
      have : k % 2 = 0 ∨ k % 2 = 1 := by omega
      rcases this with h | h <;> rw [h] <;> rfl
    rw [h1]
    have hd := dgCells_get (List.replicate n Dg.zero) (k / 2) (by simp; omega)
    have hz : dgAt (List.replicate n Dg.zero) (k / 2) = Dg.zero := by
      unfold dgAt; rw [List.getElem?_replicate]; split <;> rfl
    rw [hz] at hd
    have : k = k / 2 * 2 ∨ k = k / 2 * 2 + 1 := by omega
    rcases this with h | h
    · rw [h]; exact hd.1.symm
    · rw [h]; exact hd.2.symm
  · rw [List.getElem?_eq_none (by simp [madeCells]; omega), List.getElem?_eq_none (by rw [dgCells_len]; simp; omega)]

set_option maxHeartbeats 1000000 in
theorem degrees_any (n : Nat) (a : Option Addr) (cap eb eo : Nat) (es : List Ed) (w : World) (hE : IsEds w a eb eo es) (hlen : es.length ≤ 1048576) (hn : n ≤ 65536)
    (hs : ∀ e ∈ es, e.src < n ∧ e.dst < n) :
    Calls Try.prog 44 #[.int .u32 n, .slice a es.length cap] w fun e w' =>
      ∃ db, e = .returned (.slice (some ⟨db, 0, none⟩) n n) ∧ w'.ownsRow w.heap.size 31 2 (.slice (some ⟨db, 0, none⟩) n n) n (dgCells (degs n es)) ∧ Below w.heap.size w w' := by
  obtain ⟨i0, hi, hz0, hz1, hz2⟩ := info_parts Try.info31
  have hmk : ∀ w, (Instr.makeSlice 106 (.int .u32 n) (.int .u32 n)).run Try.prog w = .ok (.slice (some ⟨w.heap.size, 0, none⟩) n n) (w.alloc (.cells (madeCells #[.int .u64 0, .int .u64 0] (n * 2)) 31)) := by
    intro w
    have := run_make w 106 31 i0 (.agg #[.int .u64 0, .int .u64 0]) Try.underlying106 hi hz0 .u32 .u32 n n (by omega) (by omega) (by rw [hz2]; omega) (by omega)
    rw [hz1] at this
    simp only [Int.toNat_natCast, Value.cells] at this
    exact this
  go_enter Try.func44, Try.ntmps44
  go_wp2
  go_loopw [6] (fun i wr => ∃ k : Nat, k ≤ es.length ∧ i = .int .i64 k ∧ wr.ownsRow w.heap.size 31 2 (.slice (some ⟨w.heap.size, 0, none⟩) n n) n (dgCells (degs n (es.take k))) ∧ Below w.heap.size w wr ∧ w.heap.size < wr.heap.size) (fun i _ => es.length - (intOf i).toNat)
  case atStart =>
    refine ⟨0, Nat.zero_le _, rfl, ?_, (by repeat (first | with_reducible exact Below.refl _ _ | with_reducible assumption | with_reducible refine below_drewN ?_ _ | with_reducible refine Below.drew ?_ | ((with_reducible refine Bset ?_ ?_); focus (first | omega | (simp; done) | (simp; omega))) | ((with_reducible refine Ball ?_ ?_); focus (first | omega | (simp; done) | (simp; omega))))), by simp⟩
    rw [List.take_zero]
    have := World.ownsRow_lit (base := w.heap.size) (e := 31) (size := 2) w (madeCells #[.int .u64 0, .int .u64 0] (n * 2)) n (Nat.le_refl _) (by unfold maxLen; omega) (by rw [size_madeCells])
    rw [madeCells_rep2] at this
    exact this
  case round =>
    obtain ⟨k, hk, rfl, hown, hbl, hlt0⟩ := hrel
    by_cases hlt : k < es.length
    · have hEr := hE.below hbl hE.lt
      obtain rfl := hE.ad (by omega)
      have c0 := hEr.c0 k hlt
      have c1 := hEr.c1 k hlt
      have hlE := hE.lt (by omega)
      have hsd := hs es[k] (List.getElem_mem _)
      have hdl := degs_len n (es.take k)
      have hdt := degs_take n es k hlt
      have hle := degs_le n (es.take k) es[k].src
      have hle2 := degs_le n (es.take k) es[k].dst
      have hlk : (es.take k).length ≤ k := List.length_take_le _ _
      generalize hD : degs n (es.take k) = D at hown hdl hdt hle hle2
      have HD := Lib.hid hD
      clear hD
      have HT := Lib.hid hdt
      clear hdt
      have d0 := hown.cellAt (es[k].src * 2) (by omega)
      have d1 := hown.cellAt (es[k].dst * 2 + 1) (by omega)
      rw [(dgCells_get D es[k].src (by omega)).1] at d0
      rw [(dgCells_get D es[k].dst (by omega)).2] at d1
      have f0 := hown.frozenAt (es[k].src * 2)
      have f1 := hown.frozenAt (es[k].dst * 2 + 1)
      have hnew := (hown.stored (es[k].src * 2) (.int .u64 ((dgAt D es[k].src).o + 1 : Nat))).1
      rw [dgCells_out D _ (by omega)] at hnew
      have hnew2 := (hnew.stored (es[k].dst * 2 + 1) (.int .u64 ((dgAt D es[k].dst).i + 1 : Nat))).1
      rw [← dgAt_out_i D es[k].src, dgCells_in (outUp D es[k].src) _ (by rw [outUp_len]; omega)] at hnew2
      rw [dgAt_out_i] at hnew2
      have HN := Lib.hid hnew2
      clear hnew hnew2 hEr
      generalize hso : (dgAt D es[k].src).o = so at *
      generalize hdi : (dgAt D es[k].dst).i = di at *
      have HO := Lib.hid hso
      have HI := Lib.hid hdi
      clear hso hdi
      generalize hsrc : es[k].src = src at *
      generalize hdst : es[k].dst = dst at *
      have HSR := Lib.hid hsrc
      have HDS := Lib.hid hdst
      clear hsrc hdst
      have hw1 : IntKind.u64.wrap ((so : Int) + 1) = (so : Int) + 1 := by rw [IntKind.wrap_u64]; omega
      have hw2 : IntKind.u64.wrap ((di : Int) + 1) = (di : Int) + 1 := by rw [IntKind.wrap_u64]; omega
      have hpar : ¬ src * 2 = dst * 2 + 1 := by omega
      have hne : ¬ w.heap.size = eb := by omega
      have hs1 : (src : Int) < n := by omega
      have hs2 : (dst : Int) < n := by omega
      go_wp2
      go_roundw
      case rel =>
        refine ⟨k + 1, by omega, by go_num, ?_, (by repeat (first | with_reducible exact Below.refl _ _ | with_reducible assumption | with_reducible refine below_drewN ?_ _ | with_reducible refine Below.drew ?_ | ((with_reducible refine Bset ?_ ?_); focus (first | omega | (simp; done) | (simp; omega))) | ((with_reducible refine Ball ?_ ?_); focus (first | omega | (simp; done) | (simp; omega))))), by simpa using hlt0⟩
        rw [HT.out, stepDeg, HSR.out, HDS.out]
        exact HN.out
      case measure => simp [intOf]; omega
    · obtain rfl : k = es.length := by omega
      rw [List.take_length] at hown
      go_wp2
      go_ret
      exact ⟨_, rfl, hown, hbl⟩

end Go.Proofs.Ytjmggfpomnnegaa
