/-
  States, and rows of states in memory.
-/
import Derived.Test.YtjmggfpomnnegaaEds
namespace Go.Proofs.Ytjmggfpomnnegaa
open Go.RowKit
set_option maxRecDepth 100000

structure St where
  a0 : Nat
  a1 : Nat
  a2 : Nat
  a3 : Nat
  a4 : Nat
  a5 : Nat
  a6 : Nat
  a7 : Nat

structure Ct where
  k0 : Nat
  k1 : Nat
  k2 : Nat
  k3 : Nat

def St.cells (s : St) : List Value := [.int .u64 s.a0, .int .u64 s.a1, .int .u64 s.a2, .int .u64 s.a3, .int .u64 s.a4, .int .u64 s.a5, .int .u64 s.a6, .int .u64 s.a7]
def stCells (l : List St) : List Value := l.flatMap St.cells
def St.zero : St := ⟨0, 0, 0, 0, 0, 0, 0, 0⟩
def Ct.zero : Ct := ⟨0, 0, 0, 0⟩

theorem stCells_len (l : List St) : (stCells l).length = l.length * 8 := by
  induction l with
  | nil => rfl
  | cons e l ih => simp [stCells, St.cells] at ih ⊢; omega

theorem stCells_get (l : List St) : ∀ (j : Nat) (hj : j < l.length), (stCells l)[j * 8]? = some (.int .u64 l[j].a0) ∧ (stCells l)[j * 8 + 1]? = some (.int .u64 l[j].a1) ∧ (stCells l)[j * 8 + 2]? = some (.int .u64 l[j].a2) ∧ (stCells l)[j * 8 + 3]? = some (.int .u64 l[j].a3) ∧ (stCells l)[j * 8 + 4]? = some (.int .u64 l[j].a4) ∧ (stCells l)[j * 8 + 5]? = some (.int .u64 l[j].a5) ∧ (stCells l)[j * 8 + 6]? = some (.int .u64 l[j].a6) ∧ (stCells l)[j * 8 + 7]? = some (.int .u64 l[j].a7) := by
  induction l with
  | nil => intro j hj; simp at hj
  | cons e l ih =>
    intro j hj
    cases j with
    | zero => simp [stCells, St.cells]
    | succ j =>
      have := ih j (by simpa using hj)
      have e8 : (j + 1) * 8 = j * 8 + 8 := by omega
      simp only [stCells, List.flatMap_cons, St.cells] at this ⊢
      rw [e8]
      simpa using this

theorem stCells_set (l : List St) : ∀ (j : Nat) (_ : j < l.length) (x : St), ((((((((stCells l).set (j * 8) (.int .u64 x.a0)).set (j * 8 + 1) (.int .u64 x.a1)).set (j * 8 + 2) (.int .u64 x.a2)).set (j * 8 + 3) (.int .u64 x.a3)).set (j * 8 + 4) (.int .u64 x.a4)).set (j * 8 + 5) (.int .u64 x.a5)).set (j * 8 + 6) (.int .u64 x.a6)).set (j * 8 + 7) (.int .u64 x.a7) = stCells (l.set j x) := by
  induction l with
  | nil => intro j hj; simp at hj
  | cons e l ih =>
    intro j hj x
    cases j with
    | zero => simp [stCells, St.cells]
    | succ j =>
      have := ih j (by simpa using hj) x
      have e8 : (j + 1) * 8 = j * 8 + 8 := by omega
      simp only [stCells, List.flatMap_cons, St.cells, List.set_cons_succ] at this ⊢
      rw [e8]
      simpa using this

theorem own_store8 {w : World} {base g n cap : Nat} {ss : List St} (h : w.ownsRow base 25 8 (.slice (some ⟨g, 0, none⟩) n cap) n (stCells ss)) (j : Nat) (hj : j < ss.length) (x : St) :
    (((((((((w.setCell ⟨g, j * 8, none⟩ (.int .u64 x.a0)).setCell ⟨g, j * 8 + 1, none⟩ (.int .u64 x.a1)).setCell ⟨g, j * 8 + 2, none⟩ (.int .u64 x.a2)).setCell ⟨g, j * 8 + 3, none⟩ (.int .u64 x.a3)).setCell ⟨g, j * 8 + 4, none⟩ (.int .u64 x.a4)).setCell ⟨g, j * 8 + 5, none⟩ (.int .u64 x.a5)).setCell ⟨g, j * 8 + 6, none⟩ (.int .u64 x.a6)).setCell ⟨g, j * 8 + 7, none⟩ (.int .u64 x.a7))).ownsRow base 25 8 (.slice (some ⟨g, 0, none⟩) n cap) n (stCells (ss.set j x)) := by
  rw [← stCells_set ss j hj x]
  exact ((((((((h.stored _ _).1.stored _ _).1.stored _ _).1.stored _ _).1.stored _ _).1.stored _ _).1.stored _ _).1.stored _ _).1

theorem heap_store8 (w : World) (g o k : Nat) (x : St) (hk : k ≠ g) : (((((((((w.setCell ⟨g, o, none⟩ (.int .u64 x.a0)).setCell ⟨g, o + 1, none⟩ (.int .u64 x.a1)).setCell ⟨g, o + 2, none⟩ (.int .u64 x.a2)).setCell ⟨g, o + 3, none⟩ (.int .u64 x.a3)).setCell ⟨g, o + 4, none⟩ (.int .u64 x.a4)).setCell ⟨g, o + 5, none⟩ (.int .u64 x.a5)).setCell ⟨g, o + 6, none⟩ (.int .u64 x.a6)).setCell ⟨g, o + 7, none⟩ (.int .u64 x.a7))).heap[k]? = w.heap[k]? := by
  repeat rw [Below.heap_setCell _ _ _ _ hk]

theorem size_store8 (w : World) (g o : Nat) (x : St) : (((((((((w.setCell ⟨g, o, none⟩ (.int .u64 x.a0)).setCell ⟨g, o + 1, none⟩ (.int .u64 x.a1)).setCell ⟨g, o + 2, none⟩ (.int .u64 x.a2)).setCell ⟨g, o + 3, none⟩ (.int .u64 x.a3)).setCell ⟨g, o + 4, none⟩ (.int .u64 x.a4)).setCell ⟨g, o + 5, none⟩ (.int .u64 x.a5)).setCell ⟨g, o + 6, none⟩ (.int .u64 x.a6)).setCell ⟨g, o + 7, none⟩ (.int .u64 x.a7))).heap.size = w.heap.size := by
  simp

theorem below_store8 {B : Nat} {a w : World} (h : Below B a w) {g : Nat} (hg : B ≤ g) (o : Nat) (x : St) : Below B a (((((((((w.setCell ⟨g, o, none⟩ (.int .u64 x.a0)).setCell ⟨g, o + 1, none⟩ (.int .u64 x.a1)).setCell ⟨g, o + 2, none⟩ (.int .u64 x.a2)).setCell ⟨g, o + 3, none⟩ (.int .u64 x.a3)).setCell ⟨g, o + 4, none⟩ (.int .u64 x.a4)).setCell ⟨g, o + 5, none⟩ (.int .u64 x.a5)).setCell ⟨g, o + 6, none⟩ (.int .u64 x.a6)).setCell ⟨g, o + 7, none⟩ (.int .u64 x.a7))) :=
  (((((((h.setCell (p := ⟨g, o, none⟩) hg _).setCell (p := ⟨g, o + 1, none⟩) hg _).setCell (p := ⟨g, o + 2, none⟩) hg _).setCell (p := ⟨g, o + 3, none⟩) hg _).setCell (p := ⟨g, o + 4, none⟩) hg _).setCell (p := ⟨g, o + 5, none⟩) hg _).setCell (p := ⟨g, o + 6, none⟩) hg _).setCell (p := ⟨g, o + 7, none⟩) hg _

end Go.Proofs.Ytjmggfpomnnegaa
