/-
  What a run computes, as lists; rows of states and updates.
-/
import Derived.Test.YtjmggfpomnnegaaFold
namespace Go.Proofs.Ytjmggfpomnnegaa
open Go.RowKit
set_option maxRecDepth 100000

structure Up where
  t : Nat
  a : Nat
  b : Nat

def Up.cells (u : Up) : List Value := [.int .u32 u.t, .int .u64 u.a, .int .u64 u.b]
def upCells (l : List Up) : List Value := l.flatMap Up.cells
def stAt (ss : List St) (j : Nat) : St := ss[j]?.getD St.zero
def startL (pr : Prg) (D : List Dg) (n k : Nat) : List St := (List.range n).map fun v => if v < k then pr.start v (dgAt D v).o (dgAt D v).i else St.zero
def sendF (pr : Prg) (c : Ct) (ss : List St) (e : Ed) : List Up :=
  if (pr.scat c (stAt ss e.src) e.src e.dst false).2.2 then [⟨e.dst, (pr.scat c (stAt ss e.src) e.src e.dst false).1, (pr.scat c (stAt ss e.src) e.src e.dst false).2.1⟩] else []
def sendB (pr : Prg) (c : Ct) (ss : List St) (e : Ed) : List Up :=
  if (pr.scat c (stAt ss e.dst) e.src e.dst true).2.2 then [⟨e.src, (pr.scat c (stAt ss e.dst) e.src e.dst true).1, (pr.scat c (stAt ss e.dst) e.src e.dst true).2.1⟩] else []
def sends (pr : Prg) (c : Ct) (ss : List St) (es : List Ed) : List Up := es.flatMap fun e => sendF pr c ss e ++ sendB pr c ss e
def upd (pr : Prg) (ss : List St) (u : Up) : List St := ss.set u.t (pr.monB (pr.monA (stAt ss u.t) u.a) u.b)
def turned (fl : Bool) (us : List Up) : List Up := if fl then us.reverse else us
def gatherU (pr : Prg) (ss : List St) (us : List Up) : List St := us.foldl (upd pr) ss
def appL (pr : Prg) (c : Ct) (g : St) (ss : List St) (n k : Nat) : List St := (List.range n).map fun v => if v < k then (pr.app c g v (stAt ss v)).1 else stAt ss v
/-- A round: the states behind it. -/
def roundS (pr : Prg) (n : Nat) (es : List Ed) (fl : Bool) (c : Ct) (g : St) (ss : List St) : List St :=
  appL pr c g (gatherU pr ss (turned fl (sends pr c ss es))) n n

structure RS where
  ss : List St
  c : Ct
  g : St

def begins (pr : Prg) (n : Nat) (es : List Ed) : RS := ⟨startL pr (degs n es) n n, Ct.zero, foldAll pr (startL pr (degs n es) n n)⟩
/-- A round; whether it was the last. -/
def roundR (pr : Prg) (n : Nat) (es : List Ed) (fl : Bool) (r : RS) : RS × Bool :=
  (⟨roundS pr n es fl r.c r.g r.ss, (pr.turn r.c (foldAll pr (roundS pr n es fl r.c r.g r.ss))).1, foldAll pr (roundS pr n es fl r.c r.g r.ss)⟩, (pr.turn r.c (foldAll pr (roundS pr n es fl r.c r.g r.ss))).2)
/-- The state behind k rounds. -/
def afterR (pr : Prg) (n : Nat) (es : List Ed) (fl : Nat → Bool) : Nat → RS
  | 0 => begins pr n es
  | k + 1 => (roundR pr n es (fl k) (afterR pr n es fl k)).1
def doneR (pr : Prg) (n : Nat) (es : List Ed) (fl : Nat → Bool) (k : Nat) : Bool := (roundR pr n es (fl k) (afterR pr n es fl k)).2

theorem stAt_get (ss : List St) (j : Nat) (h : j < ss.length) : stAt ss j = ss[j] := by unfold stAt; rw [List.getElem?_eq_getElem h]; rfl
theorem startL_len (pr : Prg) (D : List Dg) (n k : Nat) : (startL pr D n k).length = n := by simp [startL]
theorem startL_zero (pr : Prg) (D : List Dg) (n : Nat) : startL pr D n 0 = List.replicate n St.zero := by
  unfold startL; simp [List.map_const']
theorem startL_set (pr : Prg) (D : List Dg) (n k : Nat) (h : k < n) : (startL pr D n k).set k (pr.start k (dgAt D k).o (dgAt D k).i) = startL pr D n (k + 1) := by
  apply List.ext_getElem?
  intro j
  rw [List.getElem?_set]
  unfold startL
  by_cases hj : j < n
  · by_cases hk : k = j
    · subst hk; simp [hj]
    · rw [if_neg hk]
      simp only [List.getElem?_map, List.getElem?_range hj, Option.map_some]
      congr 1
      by_cases hjk : j < k
      · rw [if_pos hjk, if_pos (by omega)]
      · rw [if_neg hjk, if_neg (by omega)]
  · have h1 : ¬ k = j := by omega
    rw [if_neg h1, List.getElem?_eq_none (by simp; omega), List.getElem?_eq_none (by simp; omega)]
theorem appL_len (pr : Prg) (c : Ct) (g : St) (ss : List St) (n k : Nat) : (appL pr c g ss n k).length = n := by simp [appL]
theorem appL_at (pr : Prg) (c : Ct) (g : St) (ss : List St) (n k j : Nat) (h : j < n) : stAt (appL pr c g ss n k) j = if j < k then (pr.app c g j (stAt ss j)).1 else stAt ss j := by
  unfold appL
  rw [stAt]
  simp [List.getElem?_map, List.getElem?_range h]
theorem appL_zero (pr : Prg) (c : Ct) (g : St) (ss : List St) (n : Nat) (h : ss.length = n) : appL pr c g ss n 0 = ss := by
  apply List.ext_getElem?
  intro j
  unfold appL
  by_cases hj : j < n
  · simp only [List.getElem?_map, List.getElem?_range hj, Option.map_some, Nat.not_lt_zero, if_false]
    rw [stAt_get ss j (by omega), List.getElem?_eq_getElem (by omega)]
  · rw [List.getElem?_eq_none (by simp; omega), List.getElem?_eq_none (by omega)]
theorem appL_set (pr : Prg) (c : Ct) (g : St) (ss : List St) (n k : Nat) (h : k < n) : (appL pr c g ss n k).set k (pr.app c g k (stAt ss k)).1 = appL pr c g ss n (k + 1) := by
  apply List.ext_getElem?
  intro j
  rw [List.getElem?_set]
  unfold appL
  by_cases hj : j < n
  · by_cases hk : k = j
    · subst hk; simp [hj]
    · rw [if_neg hk]
      simp only [List.getElem?_map, List.getElem?_range hj, Option.map_some]
      congr 1
      by_cases hjk : j < k
      · rw [if_pos hjk, if_pos (by omega)]
      · rw [if_neg hjk, if_neg (by omega)]
  · have h1 : ¬ k = j := by omega
    rw [if_neg h1, List.getElem?_eq_none (by simp; omega), List.getElem?_eq_none (by simp; omega)]
theorem upd_len (pr : Prg) (ss : List St) (u : Up) : (upd pr ss u).length = ss.length := by simp [upd]
theorem gatherU_len (pr : Prg) (us : List Up) : ∀ (ss : List St), (gatherU pr ss us).length = ss.length := by
  induction us with
  | nil => intro ss; rfl
  | cons u us ih => intro ss; unfold gatherU at *; rw [List.foldl_cons, ih, upd_len]
theorem gatherU_take (pr : Prg) (ss : List St) (us : List Up) (k : Nat) (h : k < us.length) : gatherU pr ss (us.take (k + 1)) = upd pr (gatherU pr ss (us.take k)) us[k] := by
  unfold gatherU; rw [List.take_succ_eq_append_getElem h, List.foldl_append]; rfl
theorem turned_len (fl : Bool) (us : List Up) : (turned fl us).length = us.length := by unfold turned; cases fl <;> simp
theorem sends_take (pr : Prg) (c : Ct) (ss : List St) (es : List Ed) (k : Nat) (h : k < es.length) : sends pr c ss (es.take (k + 1)) = sends pr c ss (es.take k) ++ sendF pr c ss es[k] ++ sendB pr c ss es[k] := by
  unfold sends; rw [List.take_succ_eq_append_getElem h, List.flatMap_append]; simp
theorem sendF_len (pr : Prg) (c : Ct) (ss : List St) (e : Ed) : (sendF pr c ss e).length ≤ 1 := by unfold sendF; split <;> simp
theorem sendB_len (pr : Prg) (c : Ct) (ss : List St) (e : Ed) : (sendB pr c ss e).length ≤ 1 := by unfold sendB; split <;> simp
theorem sends_len (pr : Prg) (c : Ct) (ss : List St) (es : List Ed) : (sends pr c ss es).length ≤ 2 * es.length := by
  unfold sends
  induction es with
  | nil => simp
  | cons e es ih =>
    rw [List.flatMap_cons, List.length_append, List.length_append, List.length_cons]
    have h1 := sendF_len pr c ss e
    have h2 := sendB_len pr c ss e
    omega
theorem sends_to (pr : Prg) (c : Ct) (ss : List St) (es : List Ed) (n : Nat) (h : ∀ e ∈ es, e.src < n ∧ e.dst < n) : ∀ u ∈ sends pr c ss es, u.t < n := by
  intro u hu
  unfold sends at hu
  rw [List.mem_flatMap] at hu
  obtain ⟨e, he, hu⟩ := hu
  have := h e he
  rw [List.mem_append] at hu
  rcases hu with hu | hu
  · unfold sendF at hu; split at hu
    · simp at hu; subst hu; exact this.2
    · simp at hu
  · unfold sendB at hu; split at hu
    · simp at hu; subst hu; exact this.1
    · simp at hu

theorem upCells_len (l : List Up) : (upCells l).length = l.length * 3 := by
  induction l with
  | nil => rfl
  | cons e l ih => simp [upCells, Up.cells] at ih ⊢; omega
theorem upCells_get (l : List Up) : ∀ (j : Nat) (hj : j < l.length), (upCells l)[j * 3]? = some (.int .u32 l[j].t) ∧ (upCells l)[j * 3 + 1]? = some (.int .u64 l[j].a) ∧ (upCells l)[j * 3 + 2]? = some (.int .u64 l[j].b) := by
  induction l with
  | nil => intro j hj; simp at hj
  | cons e l ih =>
    intro j hj
    cases j with
    | zero => simp [upCells, Up.cells]
    | succ j =>
      have := ih j (by simpa using hj)
      have e3 : (j + 1) * 3 = j * 3 + 3 := by omega
      simp only [upCells, List.flatMap_cons, Up.cells] at this ⊢
      rw [e3]
      simpa using this
theorem upCells_snoc (l : List Up) (u : Up) : upCells (l ++ [u]) = upCells l ++ [.int .u32 u.t, .int .u64 u.a, .int .u64 u.b] := by simp [upCells, Up.cells]

theorem madeCells_rep8 (n : Nat) : (madeCells #[.int .u64 0, .int .u64 0, .int .u64 0, .int .u64 0, .int .u64 0, .int .u64 0, .int .u64 0, .int .u64 0] (n * 8)).toList = stCells (List.replicate n St.zero) := by
  apply List.ext_getElem?
  intro k
  by_cases hk : k < n * 8
  · have h8 : ∀ r : Nat, r < 8 → (#[.int .u64 0, .int .u64 0, .int .u64 0, .int .u64 0, .int .u64 0, .int .u64 0, .int .u64 0, .int .u64 0] : Array Value)[r]! = .int .u64 0 := by
      intro r hr
      match r, hr with
      | 0, _ => rfl
      | 1, _ => rfl
      | 2, _ => rfl
      | 3, _ => rfl
      | 4, _ => rfl
      | 5, _ => rfl
      | 6, _ => rfl
      | 7, _ => rfl
    have h1 : (madeCells #[.int .u64 0, .int .u64 0, .int .u64 0, .int .u64 0, .int .u64 0, .int .u64 0, .int .u64 0, .int .u64 0] (n * 8)).toList[k]? = some (.int .u64 0) := by
      have := h8 (k % 8) (by omega)
      simp only [madeCells, Array.toList_map, Array.toList_range, List.getElem?_map, List.getElem?_range hk, Option.map_some]
      exact congrArg some this
    rw [h1]
    have hd := stCells_get (List.replicate n St.zero) (k / 8) (by simp; omega)
    have hz : (List.replicate n St.zero)[k / 8]'(by simp; omega) = St.zero := by simp
    rw [hz] at hd
    obtain ⟨g0, g1, g2, g3, g4, g5, g6, g7⟩ := hd
    have : k = k / 8 * 8 ∨ k = k / 8 * 8 + 1 ∨ k = k / 8 * 8 + 2 ∨ k = k / 8 * 8 + 3 ∨ k = k / 8 * 8 + 4 ∨ k = k / 8 * 8 + 5 ∨ k = k / 8 * 8 + 6 ∨ k = k / 8 * 8 + 7 := by omega
    rcases this with h | h | h | h | h | h | h | h
    · rw [h]; exact g0.symm
    · rw [h]; exact g1.symm
    · rw [h]; exact g2.symm
    · rw [h]; exact g3.symm
    · rw [h]; exact g4.symm
    · rw [h]; exact g5.symm
    · rw [h]; exact g6.symm
    · rw [h]; exact g7.symm
  · rw [List.getElem?_eq_none (by simp [madeCells]; omega), List.getElem?_eq_none (by rw [stCells_len]; simp; omega)]

/-- How a run ends. -/
def RunEnds (pr : Prg) (n : Nat) (es : List Ed) (fl : Nat → Bool) (limit : Nat) (ss : List St) (rr : Nat) (dn : Bool) : Prop :=
  (dn = true ∧ ∃ r, r < limit ∧ rr = r + 1 ∧ doneR pr n es fl r = true ∧ (∀ j, j < r → doneR pr n es fl j = false) ∧ ss = (afterR pr n es fl (r + 1)).ss) ∨
  (dn = false ∧ rr = limit ∧ (∀ j, j < limit → doneR pr n es fl j = false) ∧ ss = (afterR pr n es fl limit).ss)

end Go.Proofs.Ytjmggfpomnnegaa
