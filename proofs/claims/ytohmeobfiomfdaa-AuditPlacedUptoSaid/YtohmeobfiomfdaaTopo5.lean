/-
  An audit of levels: what it notes is the least broken rule.
-/
import Derived.Test.YtohmeobfiomfdaaTopo4
namespace Go.Proofs.Ytohmeobfiomfdaa
open Go.RowKit Go.Shelf

/-- Is a vertex held up by one of the edges? -/
def HeldUp (ss : List St) (es : List Ed) (v : Nat) : Prop := ∃ e, e ∈ es ∧ e.dst = v ∧ topoHold (lab ss e.src) (lab ss e.dst) = true
/-- Does one of the edges break the second rule at a vertex? -/
def BadIn (ss : List St) (es : List Ed) (v : Nat) : Prop := ∃ e, e ∈ es ∧ e.dst = v ∧ topoBad (lab ss e.src) (lab ss e.dst) = true
/-- The rules of an audit of levels that are broken. -/
def Btop (ss : List St) (es : List Ed) (n : Nat) (v r : Nat) : Prop :=
  (r = 2 ∧ BadIn ss es v) ∨ (v < n ∧ ((r = 1 ∧ topoTop n (lab ss v) = true) ∨ (r = 3 ∧ lab ss v ≠ 0 ∧ ¬ HeldUp ss es v)))

theorem tpF_least (ss : List St) : ∀ (p : List Ed) {f : Fd} {B : Nat → Nat → Prop}, Least f B → Least (tpF ss p f) (fun v r => B v r ∨ (r = 2 ∧ BadIn ss p v))
  | [], _, _, h => h.congr (fun v r => ⟨Or.inl, fun h => h.elim id (fun ⟨_, e, he, _⟩ => by cases he)⟩)
  | e :: p, f, B, h => by
    refine (tpF_least ss p (f := noted f e.dst 2 (topoBad (lab ss e.src) (lab ss e.dst))) (h.noted e.dst 2 _ (by decide))).congr (fun v r => ?_)
    constructor
    · rintro ((h | ⟨h1, rfl, h2⟩) | ⟨h1, x, hx, h2, h3⟩)
      · exact Or.inl h
      · exact Or.inr ⟨h2, e, by simp, rfl, h1⟩
      · exact Or.inr ⟨h1, x, by simp [hx], h2, h3⟩
    · rintro (h | ⟨h1, x, hx, h2, h3⟩)
      · exact Or.inl (Or.inl h)
      · rcases List.mem_cons.1 hx with rfl | hx
        · exact Or.inl (Or.inr ⟨h3, h2.symm, h1⟩)
        · exact Or.inr ⟨h1, x, hx, h2, h3⟩

theorem tpL_held (ss : List St) (v : Nat) : ∀ (p : List Ed) (l : List Nat), v < l.length → ((tpL ss p l).getD v 0 = 0 ↔ (l.getD v 0 = 0 ∧ ¬ HeldUp ss p v))
  | [], l, _ => ⟨fun h => ⟨h, fun ⟨e, he, _⟩ => by cases he⟩, fun h => h.1⟩
  | e :: p, l, hv => by
    refine (tpL_held ss v p (holdL ss e l) (by rw [holdL_len]; exact hv)).trans ?_
    have hup : HeldUp ss (e :: p) v ↔ ((e.dst = v ∧ topoHold (lab ss e.src) (lab ss e.dst) = true) ∨ HeldUp ss p v) := by
      constructor
      · rintro ⟨x, hx, h2, h3⟩
        rcases List.mem_cons.1 hx with rfl | hx
        · exact Or.inl ⟨h2, h3⟩
        · exact Or.inr ⟨x, hx, h2, h3⟩
      · rintro (⟨h2, h3⟩ | ⟨x, hx, h2, h3⟩)
        · exact ⟨e, by simp, h2, h3⟩
        · exact ⟨x, by simp [hx], h2, h3⟩
    rw [hup, not_or, ← and_assoc]
    refine and_congr_left' ?_
    unfold holdL
    split
    · rename_i ht
      rw [getD_set]
      by_cases he : e.dst = v
      · rw [if_pos ⟨he, by omega⟩]
        exact ⟨fun h => absurd h (by decide), fun h => absurd ⟨he, ht⟩ h.2⟩
      · rw [if_neg (fun h => he h.1)]
        exact ⟨fun h => ⟨h, fun h => he h.1⟩, fun h => h.1⟩
    · rename_i ht
      exact ⟨fun h => ⟨h, fun h => ht h.2⟩, fun h => h.1⟩

theorem tpV_least {n : Nat} {ss : List St} {l : List Nat} {f : Fd} {B : Nat → Nat → Prop} (h : Least f B) : ∀ k, Least (tpV n ss l f k) (fun v r => B v r ∨ (v < k ∧ ((r = 1 ∧ topoTop n (lab ss v) = true) ∨ (r = 3 ∧ topoLost (lab ss v) (l.getD v 0) = true))))
  | 0 => h.congr (fun v r => ⟨Or.inl, fun h => h.elim id (fun h => absurd h.1 (Nat.not_lt_zero _))⟩)
  | k + 1 => by
    refine (((tpV_least h k).noted k 1 (topoTop n (lab ss k)) (by decide)).noted k 3 (topoLost (lab ss k) (l.getD k 0)) (by decide)).congr (fun v r => ?_)
    constructor
    · rintro (((h | ⟨h1, h2⟩) | ⟨h1, rfl, rfl⟩) | ⟨h1, rfl, rfl⟩)
      · exact Or.inl h
      · exact Or.inr ⟨by omega, h2⟩
      · exact Or.inr ⟨by omega, Or.inl ⟨rfl, h1⟩⟩
      · exact Or.inr ⟨by omega, Or.inr ⟨rfl, h1⟩⟩
    · rintro (h | ⟨h1, h2⟩)
      · exact Or.inl (Or.inl (Or.inl h))
      · by_cases e : v = k
        · subst e
          rcases h2 with ⟨rfl, h2⟩ | ⟨rfl, h2⟩
          · exact Or.inl (Or.inr ⟨h2, rfl, rfl⟩)
          · exact Or.inr ⟨h2, rfl, rfl⟩
        · exact Or.inl (Or.inl (Or.inr ⟨by omega, h2⟩))

theorem topF_least {n : Nat} {ss : List St} {es : List Ed} {l : List Nat} (hl : n ≤ l.length) : Least (topF n ss es l) (Btop ss es n) := by
  unfold topF
  refine (tpV_least (tpF_least ss es Least.none) n).congr (fun v r => ?_)
  have hx : v < n → (topoLost (lab ss v) ((tpL ss es (zap l 0 n)).getD v 0) = true ↔ (lab ss v ≠ 0 ∧ ¬ HeldUp ss es v)) := fun hv => by
    have h1 := tpL_held ss v es (zap l 0 n) (by rw [zap_len]; omega)
    rw [zap_get, if_pos (by omega)] at h1
    unfold topoLost
    rw [Bool.and_eq_true, Bool.not_eq_true', beq_eq_false_iff_ne, beq_iff_eq, h1]
    simp
  unfold Btop
  constructor
  · rintro ((h | h) | ⟨h1, h2 | ⟨h2, h3⟩⟩)
    · exact absurd h id
    · exact Or.inl h
    · exact Or.inr ⟨h1, Or.inl h2⟩
    · exact Or.inr ⟨h1, Or.inr ⟨h2, (hx h1).1 h3⟩⟩
  · rintro (h | ⟨h1, h2 | ⟨h2, h3⟩⟩)
    · exact Or.inl (Or.inr h)
    · exact Or.inr ⟨h1, Or.inl h2⟩
    · exact Or.inr ⟨h1, Or.inr ⟨h2, (hx h1).2 h3⟩⟩

end Go.Proofs.Ytohmeobfiomfdaa
