/-
  A forest of vertices, in plain Lean: the root of each, and what shortening and joining do to it.
-/
import Derived.Test.YtohmeobfiomfdaaTopo4
namespace Go.Proofs.Ytohmeobfiomfdaa
open Go.RowKit Go.Shelf

/-- The root of a vertex. -/
def rt (L : List Nat) (v : Nat) : Nat := if _h : L.getD v 0 < v then rt L (L.getD v 0) else v
termination_by v

theorem rt_lt {L : List Nat} {v : Nat} (h : L.getD v 0 < v) : rt L v = rt L (L.getD v 0) := by rw [rt, dif_pos h]
theorem rt_self {L : List Nat} {v : Nat} (h : ¬ L.getD v 0 < v) : rt L v = v := by rw [rt, dif_neg h]
theorem rt_le (L : List Nat) (v : Nat) : rt L v ≤ v := by
  induction v using Nat.strongRecOn with
  | _ v ih =>
    by_cases h : L.getD v 0 < v
    · rw [rt_lt h]; exact Nat.le_trans (ih _ h) (Nat.le_of_lt h)
    · rw [rt_self h]; exact Nat.le_refl _
theorem rt_end (L : List Nat) (v : Nat) : ¬ L.getD (rt L v) 0 < rt L v := by
  induction v using Nat.strongRecOn with
  | _ v ih =>
    by_cases h : L.getD v 0 < v
    · rw [rt_lt h]; exact ih _ h
    · rw [rt_self h]; exact h
theorem rt_rt (L : List Nat) (v : Nat) : rt L (rt L v) = rt L v := rt_self (rt_end L v)

/-- A forest: no father is above its child. -/
structure Fst (L : List Nat) (N : Nat) : Prop where
  len : N ≤ L.length
  le : ∀ v, v < N → L.getD v 0 ≤ v
theorem Fst.fix {L : List Nat} {N v : Nat} (h : Fst L N) (hv : v < N) : L.getD (rt L v) 0 = rt L v := by
  have h1 := rt_end L v
  have h2 := h.le (rt L v) (Nat.lt_of_le_of_lt (rt_le L v) hv)
  omega
theorem Fst.up {L : List Nat} {N v : Nat} (h : Fst L N) (hv : v < N) : rt L (L.getD v 0) = rt L v := by
  by_cases h1 : L.getD v 0 < v
  · rw [rt_lt h1]
  · have := h.le v hv
    rw [show L.getD v 0 = v by omega]

/-- The same forest, with shorter ways. -/
structure Same (L L' : List Nat) (N : Nat) : Prop where
  f : Fst L' N
  len : L'.length = L.length
  rt : ∀ v, v < N → rt L' v = rt L v
  far : ∀ j, N ≤ j → L'.getD j 0 = L.getD j 0
  fix : ∀ v, v < N → L.getD v 0 = Ytohmeobfiomfdaa.rt L v → L'.getD v 0 = Ytohmeobfiomfdaa.rt L v
theorem Same.refl {L : List Nat} {N : Nat} (h : Fst L N) : Same L L N := ⟨h, rfl, fun _ _ => rfl, fun _ _ => rfl, fun _ _ h => h⟩
theorem Same.trans {L L' L'' : List Nat} {N : Nat} (h : Same L L' N) (k : Same L' L'' N) : Same L L'' N :=
  ⟨k.f, k.len.trans h.len, fun v hv => (k.rt v hv).trans (h.rt v hv), fun j hj => (k.far j hj).trans (h.far j hj),
   fun v hv e => by rw [← h.rt v hv]; exact k.fix v hv (by rw [h.rt v hv]; exact h.fix v hv e)⟩

theorem Fst.halve {L : List Nat} {N v : Nat} (h : Fst L N) (hv : v < N) (hne : L.getD v 0 ≠ v) : Same L (L.set v (L.getD (L.getD v 0) 0)) N := by
  have hl := h.le v hv
  have hlt : L.getD v 0 < v := by omega
  have hl2 := h.le (L.getD v 0) (by omega)
  have hlen := h.len
  have hg : ∀ x, (L.set v (L.getD (L.getD v 0) 0)).getD x 0 = if v = x then L.getD (L.getD v 0) 0 else L.getD x 0 := fun x => by
    rw [getD_set]
    by_cases e : v = x
    · rw [if_pos ⟨e, by omega⟩, if_pos e]
    · rw [if_neg (fun z => e z.1), if_neg e]
  refine ⟨⟨by rw [List.length_set]; exact hlen, fun x hx => ?_⟩, List.length_set, fun x => ?_, fun j hj => by rw [hg, if_neg (by omega)], fun x hx e => ?_⟩
  · rw [hg]
    split
    · omega
    · exact h.le x hx
  rotate_left
  · rw [hg]
    split
    · rename_i e2
      subst e2
      rw [e]; exact h.fix hv
    · exact e
  · induction x using Nat.strongRecOn with
    | _ x ih =>
      intro hx
      by_cases e : v = x
      · subst e
        have hs : (L.set v (L.getD (L.getD v 0) 0)).getD v 0 = L.getD (L.getD v 0) 0 := by rw [hg, if_pos rfl]
        rw [rt_lt (by rw [hs]; omega), hs, ih _ (by omega) (by omega), h.up (by omega), h.up hv]
      · have hs : (L.set v (L.getD (L.getD v 0) 0)).getD x 0 = L.getD x 0 := by rw [hg, if_neg e]
        by_cases h1 : L.getD x 0 < x
        · rw [rt_lt (by rw [hs]; exact h1), hs, rt_lt h1]; exact ih _ h1 (by omega)
        · rw [rt_self (by rw [hs]; exact h1), rt_self h1]

/-- A vertex hung to its root. -/
theorem Fst.put {L : List Nat} {N v : Nat} (h : Fst L N) (hv : v < N) : Same L (L.set v (rt L v)) N := by
  have hlen := h.len
  have hle := rt_le L v
  have hg : ∀ x, (L.set v (rt L v)).getD x 0 = if v = x then rt L v else L.getD x 0 := fun x => by
    rw [getD_set]
    by_cases e : v = x
    · rw [if_pos ⟨e, by omega⟩, if_pos e]
    · rw [if_neg (fun z => e z.1), if_neg e]
  refine ⟨⟨by rw [List.length_set]; exact hlen, fun x hx => ?_⟩, List.length_set, fun x => ?_, fun j hj => by rw [hg, if_neg (by omega)], fun x hx e => ?_⟩
  · rw [hg]
    split
    · omega
    · exact h.le x hx
  rotate_left
  · rw [hg]
    split
    · rename_i e2
      subst e2
      rfl
    · exact e
  · induction x using Nat.strongRecOn with
    | _ x ih =>
      intro hx
      by_cases e : v = x
      · subst e
        have hs : (L.set v (rt L v)).getD v 0 = rt L v := by rw [hg, if_pos rfl]
        by_cases hlt : rt L v < v
        · rw [rt_lt (by rw [hs]; exact hlt), hs, ih _ hlt (by omega), rt_rt]
        · rw [rt_self (by rw [hs]; exact hlt)]; omega
      · have hs : (L.set v (rt L v)).getD x 0 = L.getD x 0 := by rw [hg, if_neg e]
        by_cases h1 : L.getD x 0 < x
        · rw [rt_lt (by rw [hs]; exact h1), hs, rt_lt h1]; exact ih _ h1 (by omega)
        · rw [rt_self (by rw [hs]; exact h1), rt_self h1]

/-- Two trees made one. -/
structure Joined (L L' : List Nat) (N a b : Nat) : Prop where
  f : Fst L' N
  len : L'.length = L.length
  rt : ∀ v, v < N → rt L' v = if rt L v = max (rt L a) (rt L b) then min (rt L a) (rt L b) else rt L v
  far : ∀ j, N ≤ j → L'.getD j 0 = L.getD j 0

theorem Fst.join {L : List Nat} {N a b : Nat} (h : Fst L N) (ha : a < N) (hb : b < N) : Joined L (L.set (max (rt L a) (rt L b)) (min (rt L a) (rt L b))) N a b := by
  have fa := h.fix ha
  have fb := h.fix hb
  have la := rt_le L a
  have lb := rt_le L b
  obtain ⟨p, hp⟩ : ∃ p, rt L a = p := ⟨_, rfl⟩
  obtain ⟨q, hq⟩ : ∃ q, rt L b = q := ⟨_, rfl⟩
  have hM : rt L (max p q) = max p q := by
    have h1 := rt_rt L a
    have h2 := rt_rt L b
    rw [hp] at h1; rw [hq] at h2
    rcases Nat.le_total p q with h3 | h3
    · rw [Nat.max_eq_right h3]; exact h2
    · rw [Nat.max_eq_left h3]; exact h1
  have hm : rt L (min p q) = min p q := by
    have h1 := rt_rt L a
    have h2 := rt_rt L b
    rw [hp] at h1; rw [hq] at h2
    rcases Nat.le_total p q with h3 | h3
    · rw [Nat.min_eq_left h3]; exact h1
    · rw [Nat.min_eq_right h3]; exact h2
  have hlen := h.len
  rw [hp] at la; rw [hq] at lb
  have hMN : max p q < N := by omega
  have hml : min p q ≤ max p q := by omega
  rw [hp, hq]
  have hg : ∀ x, (L.set (max p q) (min p q)).getD x 0 = if max p q = x then min p q else L.getD x 0 := fun x => by
    rw [getD_set]
    by_cases e : max p q = x
    · rw [if_pos ⟨e, by omega⟩, if_pos e]
    · rw [if_neg (fun z => e z.1), if_neg e]
  refine ⟨⟨by rw [List.length_set]; exact hlen, fun x hx => ?_⟩, List.length_set, fun x => ?_, fun j hj => by rw [hg, if_neg (by omega)]⟩
  · rw [hg]
    split
    · omega
    · exact h.le x hx
  · rw [hp, hq]
    obtain ⟨M, eM⟩ : ∃ M, max p q = M := ⟨_, rfl⟩
    obtain ⟨m, em⟩ : ∃ m, min p q = m := ⟨_, rfl⟩
    rw [eM] at hM hMN hml hg ⊢
    rw [em] at hm hml hg ⊢
    have hfM : ¬ L.getD M 0 < M := by have := rt_end L M; rwa [hM] at this
    have hfm : ¬ L.getD m 0 < m := by have := rt_end L m; rwa [hm] at this
    induction x using Nat.strongRecOn with
    | _ x ih =>
      intro hx
      by_cases e : M = x
      · subst e
        rw [rt_self hfM, if_pos rfl]
        have hs : (L.set M m).getD M 0 = m := by rw [hg, if_pos rfl]
        by_cases hmM : m < M
        · rw [rt_lt (by rw [hs]; exact hmM), hs, ih m hmM (by omega), hm]
          split
          · rfl
          · rfl
        · rw [rt_self (by rw [hs]; exact hmM)]; omega
      · have hs : (L.set M m).getD x 0 = L.getD x 0 := by rw [hg, if_neg e]
        by_cases h1 : L.getD x 0 < x
        · rw [rt_lt (by rw [hs]; exact h1), hs, ih _ h1 (by omega), rt_lt h1]
        · rw [rt_self (by rw [hs]; exact h1), rt_self h1, if_neg (fun z => e z.symm)]

/-- Each vertex its own root. -/
def alone (l : List Nat) (N : Nat) : List Nat := List.range N ++ l.drop N
theorem alone_get (l : List Nat) (N j : Nat) : (alone l N).getD j 0 = if j < N then j else l.getD j 0 := by
  unfold alone
  rw [List.getD_eq_getElem?_getD, List.getElem?_append, List.length_range]
  split
  · rename_i hj
    rw [List.getElem?_range hj]; rfl
  · rename_i hj
    rw [List.getElem?_drop, show N + (j - N) = j by omega, List.getD_eq_getElem?_getD]
theorem alone_len {l : List Nat} {N : Nat} (h : N ≤ l.length) : (alone l N).length = l.length := by unfold alone; simp; omega
theorem alone_fst {l : List Nat} {N : Nat} (h : N ≤ l.length) : Fst (alone l N) N := ⟨by rw [alone_len h]; exact h, fun v hv => by rw [alone_get, if_pos hv]; exact Nat.le_refl _⟩
theorem alone_rt {l : List Nat} {N v : Nat} (hv : v < N) : rt (alone l N) v = v := rt_self (by rw [alone_get, if_pos hv]; omega)

/-- Vertices that ways along the edges join. -/
inductive Conn (E : Nat → Nat → Prop) : Nat → Nat → Prop
  | refl (x : Nat) : Conn E x x
  | edge {x y : Nat} (h : E x y) : Conn E x y
  | symm {x y : Nat} (h : Conn E x y) : Conn E y x
  | trans {x y z : Nat} (h : Conn E x y) (k : Conn E y z) : Conn E x z

theorem Conn.mono {E F : Nat → Nat → Prop} (hEF : ∀ a b, E a b → F a b) {x y : Nat} (h : Conn E x y) : Conn F x y := by
  induction h with
  | refl => exact Conn.refl _
  | edge he => exact Conn.edge (hEF _ _ he)
  | symm _ ih => exact Conn.symm ih
  | trans _ _ i1 i2 => exact Conn.trans i1 i2
/-- What ways respect if edges do. -/
theorem Conn.lift {E : Nat → Nat → Prop} {α : Type} (f : Nat → α) (hf : ∀ a b, E a b → f a = f b) {x y : Nat} (h : Conn E x y) : f x = f y := by
  induction h with
  | refl => rfl
  | edge he => exact hf _ _ he
  | symm _ ih => exact ih.symm
  | trans _ _ i1 i2 => exact i1.trans i2

/-- The roots are the least vertices of the components. -/
structure Roots (E : Nat → Nat → Prop) (ρ : Nat → Nat) (N : Nat) : Prop where
  sound : ∀ v, v < N → Conn E v (ρ v)
  done : ∀ a b, E a b → ρ a = ρ b
  le : ∀ v, v < N → ρ v ≤ v
  idem : ∀ v, v < N → ρ (ρ v) = ρ v

theorem Roots.alone (l : List Nat) (N : Nat) : Roots (fun _ _ => False) (rt (alone l N)) N :=
  ⟨fun v hv => by rw [alone_rt hv]; exact Conn.refl v, fun _ _ h => h.elim, fun v _ => rt_le _ v, fun v _ => rt_rt _ v⟩
theorem Roots.congr {E F : Nat → Nat → Prop} {ρ : Nat → Nat} {N : Nat} (h : Roots E ρ N) (hEF : ∀ a b, E a b ↔ F a b) : Roots F ρ N :=
  ⟨fun v hv => (h.sound v hv).mono (fun a b => (hEF a b).1), fun a b hab => h.done a b ((hEF a b).2 hab), h.le, h.idem⟩
theorem Roots.same {E : Nat → Nat → Prop} {L L' : List Nat} {N : Nat} (h : Roots E (rt L) N) (hE : ∀ a b, E a b → a < N ∧ b < N) (hs : Same L L' N) : Roots E (rt L') N :=
  ⟨fun v hv => by rw [hs.rt v hv]; exact h.sound v hv, fun a b hab => by rw [hs.rt a (hE a b hab).1, hs.rt b (hE a b hab).2]; exact h.done a b hab, fun v _ => rt_le _ v, fun v _ => rt_rt _ v⟩
theorem Roots.join {E : Nat → Nat → Prop} {L L' : List Nat} {N a b : Nat} (h : Roots E (rt L) N) (hE : ∀ a b, E a b → a < N ∧ b < N) (ha : a < N) (hb : b < N) (hs : Joined L L' N a b) : Roots (fun x y => E x y ∨ (x = a ∧ y = b)) (rt L') N where
  sound := fun v hv => by
    rw [hs.rt v hv]
    have hm : ∀ {x y}, Conn E x y → Conn (fun x y => E x y ∨ (x = a ∧ y = b)) x y := fun h => h.mono (fun _ _ h => Or.inl h)
    have hab : Conn (fun x y => E x y ∨ (x = a ∧ y = b)) (rt L a) (rt L b) := Conn.trans (Conn.symm (hm (h.sound a ha))) (Conn.trans (Conn.edge (Or.inr ⟨rfl, rfl⟩)) (hm (h.sound b hb)))
    split
    · rename_i e
      have hvv := hm (h.sound v hv)
      rw [e] at hvv
      refine Conn.trans hvv ?_
      rcases Nat.le_total (rt L a) (rt L b) with h1 | h1
      · rw [Nat.max_eq_right h1, Nat.min_eq_left h1]; exact Conn.symm hab
      · rw [Nat.max_eq_left h1, Nat.min_eq_right h1]; exact hab
    · exact hm (h.sound v hv)
  done := by
    rintro x y (hxy | ⟨rfl, rfl⟩)
    · rw [hs.rt x (hE x y hxy).1, hs.rt y (hE x y hxy).2, h.done x y hxy]
    · rw [hs.rt x ha, hs.rt y hb]
      rcases Nat.le_total (rt L x) (rt L y) with h1 | h1
      · rw [Nat.max_eq_right h1, Nat.min_eq_left h1, if_pos rfl]; split <;> omega
      · rw [Nat.max_eq_left h1, Nat.min_eq_right h1, if_pos rfl]; split <;> omega
  le := fun v _ => rt_le _ v
  idem := fun v _ => rt_rt _ v

theorem Roots.lt {E : Nat → Nat → Prop} {ρ : Nat → Nat} {N v : Nat} (h : Roots E ρ N) (hv : v < N) : ρ v < N := Nat.lt_of_le_of_lt (h.le v hv) hv
theorem Roots.conn {E : Nat → Nat → Prop} {ρ : Nat → Nat} {N x y : Nat} (h : Roots E ρ N) (hx : x < N) (hy : y < N) : ρ x = ρ y ↔ Conn E x y := by
  constructor
  · intro e
    have h1 := h.sound x hx
    have h2 := h.sound y hy
    rw [← e] at h2
    exact Conn.trans h1 (Conn.symm h2)
  · exact Conn.lift ρ h.done
/-- It is the least. -/
theorem Roots.least {E : Nat → Nat → Prop} {ρ : Nat → Nat} {N x y : Nat} (h : Roots E ρ N) (hx : x < N) (hy : y < N) (hc : Conn E x y) : ρ x ≤ y := by
  rw [(h.conn hx hy).2 hc]; exact h.le y hy

theorem Same.joined {L L' L'' : List Nat} {N a b : Nat} (h : Same L L' N) (ha : a < N) (hb : b < N) (k : Joined L' L'' N a b) : Joined L L'' N a b :=
  ⟨k.f, k.len.trans h.len, fun v hv => by rw [k.rt v hv, h.rt v hv, h.rt a ha, h.rt b hb], fun j hj => (k.far j hj).trans (h.far j hj)⟩

end Go.Proofs.Ytohmeobfiomfdaa
