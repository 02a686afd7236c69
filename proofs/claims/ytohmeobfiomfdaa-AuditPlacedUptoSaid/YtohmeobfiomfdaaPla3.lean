/-
  Core numbers by taking away, in plain Lean: one step, and where the steps end.
-/
import Derived.Test.YtohmeobfiomfdaaFst8
namespace Go.Proofs.Ytohmeobfiomfdaa
open Go.RowKit Go.Shelf

/-- Does an edge join two vertices that are there? -/
def hit (P : List Nat) (e : Ed) : Bool := !(e.src == e.dst) && (P.getD e.src 0 == 0 && P.getD e.dst 0 == 0)
def bump (P : List Nat) (e : Ed) (v : Nat) : Nat := if hit P e = true then (if e.src = v then 1 else 0) + (if e.dst = v then 1 else 0) else 0
/-- The degree of a vertex among those that are there. -/
def dg (P : List Nat) (p : List Ed) (v : Nat) : Nat := p.foldl (fun c e => c + bump P e v) 0
theorem dg_snoc (P : List Nat) (p : List Ed) (e : Ed) (v : Nat) : dg P (p ++ [e]) v = dg P p v + bump P e v := by unfold dg; rw [List.foldl_append]; rfl
theorem bump_le (P : List Nat) (e : Ed) (v : Nat) : bump P e v ≤ 2 := by unfold bump; split <;> (try split) <;> (try split) <;> omega
theorem dg_le (P : List Nat) (p : List Ed) (v : Nat) : dg P p v ≤ 2 * p.length := by
  have h : ∀ (p : List Ed) (c : Nat), p.foldl (fun c e => c + bump P e v) c ≤ c + 2 * p.length := by
    intro p
    induction p with
    | nil => intro c; simp
    | cons e p ih =>
      intro c
      have h1 := ih (c + bump P e v)
      have h2 := bump_le P e v
      simp only [List.foldl_cons, List.length_cons]
      omega
  have := h p 0
  unfold dg; omega
/-- A vertex that is taken. -/
def takes (P : List Nat) (D : Nat → Nat) (k v : Nat) : Bool := P.getD v 0 == 0 && decide (D v ≤ k)
/-- The least degree of those that are there. -/
def leastA (P : List Nat) (D : Nat → Nat) : Nat → Nat
  | 0 => NoC
  | v + 1 => if P.getD v 0 = 0 then min (leastA P D v) (D v) else leastA P D v
/-- How many are there. -/
def there (P : List Nat) : Nat := P.count 0

/-- Going over the vertices once: those before j have been looked at. -/
structure Took (n : Nat) (P : List Nat) (D : Nat → Nat) (k j : Nat) (P' : List Nat) (ag : Bool) (m : Nat) : Prop where
  len : P'.length = n
  get : ∀ v, v < n → P'.getD v 0 = if v < j ∧ takes P D k v = true then k + 1 else P.getD v 0
  some : ag = true → ∃ v, v < j ∧ takes P D k v = true
  none : ag = false → (∀ v, v < j → takes P D k v = false) ∧ m = leastA P D j
  z : there P' + (if ag = true then 1 else 0) ≤ there P
theorem Took.init {n : Nat} {P : List Nat} {D : Nat → Nat} {k : Nat} (h : P.length = n) : Took n P D k 0 P false NoC :=
  ⟨h, fun v _ => by rw [if_neg (by omega)], fun h => (by cases h), fun _ => ⟨fun v hv => absurd hv (Nat.not_lt_zero v), rfl⟩, by simp⟩
theorem Took.skip {n : Nat} {P P' : List Nat} {D : Nat → Nat} {k j m : Nat} {ag : Bool} (h : Took n P D k j P' ag m) (h0 : P.getD j 0 ≠ 0) : Took n P D k (j + 1) P' ag m := by
  have ht : takes P D k j = false := by unfold takes; rw [beq_eq_false_iff_ne.2 h0]; rfl
  refine ⟨h.len, fun v hv => ?_, fun ha => ?_, fun ha => ⟨fun v hv => ?_, ?_⟩, h.z⟩
  · rw [h.get v hv]
    by_cases e : v = j
    · subst e; rw [if_neg (by simp [ht]), if_neg (by simp [ht])]
    · by_cases hlt : v < j
      · by_cases h2 : takes P D k v = true
        · rw [if_pos ⟨hlt, h2⟩, if_pos ⟨by omega, h2⟩]
        · rw [if_neg (fun x => h2 x.2), if_neg (fun x => h2 x.2)]
      · rw [if_neg (fun x => hlt x.1), if_neg (fun x => by omega)]
  · obtain ⟨v, h1, h2⟩ := h.some ha; exact ⟨v, by omega, h2⟩
  · by_cases e : v = j
    · subst e; exact ht
    · exact (h.none ha).1 v (by omega)
  · rw [(h.none ha).2, leastA, if_neg h0]
theorem Took.stay {n : Nat} {P P' : List Nat} {D : Nat → Nat} {k j m : Nat} {ag : Bool} (h : Took n P D k j P' ag m) (h0 : P.getD j 0 = 0) (hd : ¬ D j ≤ k) : Took n P D k (j + 1) P' ag (min m (D j)) := by
  have ht : takes P D k j = false := by unfold takes; rw [decide_eq_false hd, Bool.and_false]
  refine ⟨h.len, fun v hv => ?_, fun ha => ?_, fun ha => ⟨fun v hv => ?_, ?_⟩, h.z⟩
  · rw [h.get v hv]
    by_cases e : v = j
    · subst e; rw [if_neg (by simp [ht]), if_neg (by simp [ht])]
    · by_cases hlt : v < j
      · by_cases h2 : takes P D k v = true
        · rw [if_pos ⟨hlt, h2⟩, if_pos ⟨by omega, h2⟩]
        · rw [if_neg (fun x => h2 x.2), if_neg (fun x => h2 x.2)]
      · rw [if_neg (fun x => hlt x.1), if_neg (fun x => by omega)]
  · obtain ⟨v, h1, h2⟩ := h.some ha; exact ⟨v, by omega, h2⟩
  · by_cases e : v = j
    · subst e; exact ht
    · exact (h.none ha).1 v (by omega)
  · rw [(h.none ha).2, leastA, if_pos h0]
theorem Took.take {n : Nat} {P P' : List Nat} {D : Nat → Nat} {k j m : Nat} {ag : Bool} (h : Took n P D k j P' ag m) (hj : j < n) (h0 : P.getD j 0 = 0) (hd : D j ≤ k) (m' : Nat) : P'.getD j 0 = 0 ∧ there (P'.set j (k + 1)) + 1 = there P' ∧ Took n P D k (j + 1) (P'.set j (k + 1)) true m' := by
  have ht : takes P D k j = true := by unfold takes; rw [h0, decide_eq_true hd]; rfl
  have hl := h.len
  have hpj : P'.getD j 0 = 0 := by rw [h.get j hj, if_neg (by omega)]; exact h0
  have hcnt : there (P'.set j (k + 1)) + 1 = there P' := by
    unfold there
    rw [List.count_set (by omega)]
    have hg : P'[j]'(by omega) = 0 := by rw [List.getD_eq_getElem?_getD, List.getElem?_eq_getElem (by omega : j < P'.length), Option.getD_some] at hpj; exact hpj
    have hpos : 0 < P'.count 0 := List.count_pos_iff.2 (by rw [← hg]; exact List.getElem_mem _)
    rw [hg]
    simp only [beq_self_eq_true, if_true, Nat.add_eq_zero_iff, Nat.succ_ne_self, and_false, beq_iff_eq, if_false]
    omega
  refine ⟨hpj, hcnt, by rw [List.length_set]; exact hl, fun v hv => ?_, fun _ => ⟨j, by omega, ht⟩, fun ha => (by cases ha), ?_⟩
  · rw [getD_set]
    by_cases e : j = v
    · subst e; rw [if_pos ⟨rfl, by omega⟩, if_pos ⟨by omega, ht⟩]
    · rw [if_neg (fun x => e x.1), h.get v hv]
      by_cases hlt : v < j
      · by_cases h2 : takes P D k v = true
        · rw [if_pos ⟨hlt, h2⟩, if_pos ⟨by omega, h2⟩]
        · rw [if_neg (fun x => h2 x.2), if_neg (fun x => h2 x.2)]
      · rw [if_neg (fun x => hlt x.1), if_neg (fun x => by omega)]
  · have hz := h.z
    rw [if_pos rfl]
    split at hz <;> omega

/-- One step. -/
def nxt (es : List Ed) (n : Nat) (s : List Nat × Nat) : List Nat × Nat :=
  ((List.range n).map (fun v => if takes s.1 (dg s.1 es) s.2 v = true then s.2 + 1 else s.1.getD v 0), if (List.range n).any (takes s.1 (dg s.1 es) s.2) = true then s.2 else leastA s.1 (dg s.1 es) n)
def its (es : List Ed) (n : Nat) : Nat → List Nat × Nat
  | 0 => (List.replicate n 0, 0)
  | j + 1 => nxt es n (its es n j)
theorem Took.fin {es : List Ed} {n : Nat} {P P' : List Nat} {k m : Nat} {ag : Bool} (h : Took n P (dg P es) k n P' ag m) : nxt es n (P, k) = (P', if ag = true then k else m) := by
  unfold nxt
  refine Prod.ext ?_ ?_
  · show (List.range n).map _ = P'
    refine List.ext_getElem (by simp [h.len]) (fun i h1 h2 => ?_)
    rw [List.length_map, List.length_range] at h1
    have hg := h.get i h1
    rw [List.getD_eq_getElem?_getD, List.getElem?_eq_getElem h2, Option.getD_some] at hg
    rw [hg, List.getElem_map, List.getElem_range]
    by_cases ht : takes P (dg P es) k i = true
    · rw [if_pos ht, if_pos ⟨h1, ht⟩]
    · rw [if_neg ht, if_neg (fun x => ht x.2)]
  · show (if (List.range n).any (takes P (dg P es) k) = true then k else leastA P (dg P es) n) = _
    cases ag
    · obtain ⟨h1, h2⟩ := h.none rfl
      have a1 : (List.range n).any (takes P (dg P es) k) = false := by
        rw [← Bool.not_eq_true]
        intro hx
        obtain ⟨v, hv, ht⟩ := List.any_eq_true.1 hx
        rw [h1 v (List.mem_range.1 hv)] at ht
        cases ht
      rw [a1]
      exact h2.symm
    · obtain ⟨v, hv, ht⟩ := h.some rfl
      rw [if_pos (List.any_eq_true.2 ⟨v, List.mem_range.2 hv, ht⟩), if_pos rfl]

theorem leastA_or {P : List Nat} {D : Nat → Nat} : ∀ j, (leastA P D j = NoC ∧ ∀ v, v < j → P.getD v 0 = 0 → NoC ≤ D v) ∨ ∃ u, u < j ∧ P.getD u 0 = 0 ∧ D u = leastA P D j
  | 0 => Or.inl ⟨rfl, fun v hv => absurd hv (Nat.not_lt_zero v)⟩
  | j + 1 => by
    rw [leastA]
    by_cases hj : P.getD j 0 = 0
    · rw [if_pos hj]
      rcases Nat.le_total (leastA P D j) (D j) with h | h
      · rw [Nat.min_eq_left h]
        rcases leastA_or (P := P) (D := D) j with ⟨h1, h2⟩ | ⟨u, h1, h2, h3⟩
        · refine Or.inl ⟨h1, fun v hv h0 => ?_⟩
          by_cases e : v = j
          · subst e; omega
          · exact h2 v (by omega) h0
        · exact Or.inr ⟨u, by omega, h2, h3⟩
      · rw [Nat.min_eq_right h]; exact Or.inr ⟨j, by omega, hj, rfl⟩
    · rw [if_neg hj]
      rcases leastA_or (P := P) (D := D) j with ⟨h1, h2⟩ | ⟨u, h1, h2, h3⟩
      · refine Or.inl ⟨h1, fun v hv h0 => ?_⟩
        by_cases e : v = j
        · subst e; exact absurd h0 hj
        · exact h2 v (by omega) h0
      · exact Or.inr ⟨u, by omega, h2, h3⟩
theorem least_there {P : List Nat} {D : Nat → Nat} {n : Nat} (hl : P.length = n) (ht : there P ≠ 0) (hD : ∀ v, D v < NoC) : ∃ u, u < n ∧ P.getD u 0 = 0 ∧ D u = leastA P D n := by
  rcases leastA_or (P := P) (D := D) n with ⟨_, h2⟩ | h
  · have hm : 0 ∈ P := List.count_pos_iff.1 (by unfold there at ht; omega)
    obtain ⟨v, hv, hv0⟩ := List.mem_iff_getElem.1 hm
    have h3 := h2 v (by omega) (by rw [List.getD_eq_getElem?_getD, List.getElem?_eq_getElem hv, Option.getD_some]; exact hv0)
    have := hD v
    omega
  · exact h

/-- The steps so far. -/
structure Run (es : List Ed) (n j : Nat) (P : List Nat) (k : Nat) : Prop where
  eq : its es n j = (P, k)
  len : P.length = n
  kb : k ≤ 2 * es.length
  pb : ∀ v, v < n → P.getD v 0 ≤ 2 * es.length + 1
  more : ∀ i, i < j → there (its es n i).1 ≠ 0
theorem Run.init (es : List Ed) (n : Nat) : Run es n 0 (List.replicate n 0) 0 := ⟨rfl, by simp, by omega, fun v _ => by rw [List.getD_eq_getElem?_getD, List.getElem?_replicate]; split <;> simp, fun i hi => absurd hi (Nat.not_lt_zero i)⟩
/-- What gets less with each step. -/
def mu (es : List Ed) (n : Nat) (P : List Nat) (k : Nat) : Nat := 2 * there P + (if (List.range n).any (takes P (dg P es) k) = true then 0 else 1)
theorem Run.next {es : List Ed} {n j : Nat} {P P' : List Nat} {k m : Nat} {ag : Bool} (h : Run es n j P k) (hlen : es.length ≤ 1048576) (ht : there P ≠ 0) (hk : Took n P (dg P es) k n P' ag m) :
    Run es n (j + 1) P' (if ag = true then k else m) ∧ mu es n P' (if ag = true then k else m) < mu es n P k := by
  have hD : ∀ v, dg P es v < NoC := fun v => by have := dg_le P es v; unfold NoC; omega
  have heq : its es n (j + 1) = (P', if ag = true then k else m) := by
    show nxt es n (its es n j) = _
    rw [h.eq]; exact hk.fin
  have hmore : ∀ i, i < j + 1 → there (its es n i).1 ≠ 0 := fun i hi => by
    by_cases e : i = j
    · subst e; rw [h.eq]; exact ht
    · exact h.more i (by omega)
  have hpb : ∀ v, v < n → P'.getD v 0 ≤ 2 * es.length + 1 := fun v hv => by
    rw [hk.get v hv]
    split
    · have := h.kb; omega
    · exact h.pb v hv
  cases ag
  · obtain ⟨h1, h2⟩ := hk.none rfl
    obtain ⟨u, u1, u2, u3⟩ := least_there h.len ht hD
    have hP : P' = P := by
      refine List.ext_getElem (by rw [hk.len, h.len]) (fun i a1 a2 => ?_)
      have hg := hk.get i (by rw [← hk.len]; exact a1)
      rw [if_neg (fun x => by have := h1 i x.1; rw [x.2] at this; cases this)] at hg
      rw [List.getD_eq_getElem?_getD, List.getElem?_eq_getElem a1, Option.getD_some, List.getD_eq_getElem?_getD, List.getElem?_eq_getElem a2, Option.getD_some] at hg
      exact hg
    rw [if_neg (by simp)] at heq ⊢
    refine ⟨⟨heq, hk.len, by rw [h2, ← u3]; exact dg_le P es u, hpb, hmore⟩, ?_⟩
    subst hP
    unfold mu
    have a1 : (List.range n).any (takes P' (dg P' es) k) = false := by
      rw [← Bool.not_eq_true]
      intro hx
      obtain ⟨v, hv, htv⟩ := List.any_eq_true.1 hx
      rw [h1 v (List.mem_range.1 hv)] at htv
      cases htv
    have a2 : (List.range n).any (takes P' (dg P' es) m) = true := List.any_eq_true.2 ⟨u, List.mem_range.2 u1, by unfold takes; rw [u2, decide_eq_true (by omega)]; rfl⟩
    rw [a1, a2]
    simp
  · rw [if_pos rfl] at heq ⊢
    refine ⟨⟨heq, hk.len, h.kb, hpb, hmore⟩, ?_⟩
    have hz := hk.z
    rw [if_pos rfl] at hz
    unfold mu
    split <;> split <;> omega

/-- What the steps end with. -/
def Peeled (es : List Ed) (n : Nat) (P : List Nat) : Prop := ∃ j k, Run es n j P k ∧ there P = 0
theorem Peeled.unique {es : List Ed} {n : Nat} {P Q : List Nat} (h : Peeled es n P) (h' : Peeled es n Q) : P = Q := by
  obtain ⟨i, k, h1, h2⟩ := h
  obtain ⟨j, m, h3, h4⟩ := h'
  rcases Nat.lt_trichotomy i j with e | e | e
  · exact absurd (by rw [h1.eq]; exact h2) (h3.more i e)
  · subst e
    have := h1.eq.symm.trans h3.eq
    exact congrArg Prod.fst this
  · exact absurd (by rw [h3.eq]; exact h4) (h1.more j e)
theorem Peeled.len {es : List Ed} {n : Nat} {P : List Nat} (h : Peeled es n P) : P.length = n := by obtain ⟨_, _, h1, _⟩ := h; exact h1.len
theorem Peeled.top {es : List Ed} {n : Nat} {P : List Nat} (h : Peeled es n P) (v : Nat) (hv : v < n) : P.getD v 0 ≤ 2 * es.length + 1 := by obtain ⟨_, _, h1, _⟩ := h; exact h1.pb v hv
theorem Peeled.pos {es : List Ed} {n : Nat} {P : List Nat} (h : Peeled es n P) (v : Nat) (hv : v < n) : P.getD v 0 ≠ 0 := by
  have hl := h.len
  obtain ⟨_, _, _, h2⟩ := h
  intro e
  have hm : 0 ∈ P := by
    rw [List.getD_eq_getElem?_getD, List.getElem?_eq_getElem (by omega : v < P.length), Option.getD_some] at e
    rw [← e]; exact List.getElem_mem _
  have := List.count_pos_iff.2 hm
  unfold there at h2
  omega

end Go.Proofs.Ytohmeobfiomfdaa
