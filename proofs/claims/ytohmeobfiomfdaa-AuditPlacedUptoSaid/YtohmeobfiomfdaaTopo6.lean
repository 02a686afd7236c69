/-
  The document's audit of levels: what it writes down, edge by edge.
-/
import Derived.Test.YtohmeobfiomfdaaTopo5
import Derived.Test.YtohmeobfiomfdaaRef4
namespace Go.Proofs.Ytohmeobfiomfdaa
open Go.RowKit Go.Shelf

theorem BadIn_snoc (ss : List St) (p : List Ed) (e : Ed) (v : Nat) : BadIn ss (p ++ [e]) v ↔ (BadIn ss p v ∨ (topoBad (lab ss e.src) (lab ss e.dst) = true ∧ v = e.dst)) := by
  constructor
  · rintro ⟨x, hx, h2, h3⟩
    rcases List.mem_append.1 hx with hx | hx
    · exact Or.inl ⟨x, hx, h2, h3⟩
    · rw [List.mem_singleton] at hx; subst hx; exact Or.inr ⟨h3, h2.symm⟩
  · rintro (⟨x, hx, h2, h3⟩ | ⟨h1, rfl⟩)
    · exact ⟨x, List.mem_append.2 (Or.inl hx), h2, h3⟩
    · exact ⟨e, by simp, rfl, h1⟩
theorem HeldUp_snoc (ss : List St) (p : List Ed) (e : Ed) (v : Nat) : HeldUp ss (p ++ [e]) v ↔ (HeldUp ss p v ∨ (topoHold (lab ss e.src) (lab ss e.dst) = true ∧ v = e.dst)) := by
  constructor
  · rintro ⟨x, hx, h2, h3⟩
    rcases List.mem_append.1 hx with hx | hx
    · exact Or.inl ⟨x, hx, h2, h3⟩
    · rw [List.mem_singleton] at hx; subst hx; exact Or.inr ⟨h3, h2.symm⟩
  · rintro (⟨x, hx, h2, h3⟩ | ⟨h1, rfl⟩)
    · exact ⟨x, List.mem_append.2 (Or.inl hx), h2, h3⟩
    · exact ⟨e, by simp, rfl, h1⟩

/-- What the document has written down and holds after the first edges. -/
structure TopR (ss : List St) (es : List Ed) (n k : Nat) (R : List Nat) (H : List Bool) : Prop where
  t : Tells R n (fun v r => r = 2 ∧ BadIn ss (es.take k) v)
  hl : H.length = n
  h : ∀ v, v < n → (H.getD v false = true ↔ HeldUp ss (es.take k) v)

theorem TopR.init (ss : List St) (es : List Ed) (n : Nat) : TopR ss es n 0 (List.replicate n 0) (List.replicate n false) where
  t := (Tells.none n).congr (fun v r => ⟨fun h => h.elim, fun ⟨_, e, he, _⟩ => by simp at he⟩)
  hl := by simp
  h := fun v hv => by
    have h0 : (List.replicate n false).getD v false = false := by rw [List.getD_eq_getElem?_getD, List.getElem?_replicate]; split <;> rfl
    rw [h0]
    exact ⟨fun h => (by cases h), fun ⟨e, he, _⟩ => (by simp at he)⟩

theorem TopR.step {ss : List St} {es : List Ed} {n k : Nat} {R : List Nat} {H : List Bool} (h : TopR ss es n k R H) (hk : k < es.length) (hv : es[k].dst < n) (b c : Bool)
    (hb : topoBad (lab ss es[k].src) (lab ss es[k].dst) = b) (hc : topoHold (lab ss es[k].src) (lab ss es[k].dst) = c) :
    TopR ss es n (k + 1) (noteL R es[k].dst 2 b) (if c = true then H.set es[k].dst true else H) := by
  have ht : es.take (k + 1) = es.take k ++ [es[k]] := by rw [List.take_succ_eq_append_getElem hk]
  refine ⟨(h.t.note es[k].dst 2 b hv (by decide)).congr (fun v r => ?_), ?_, fun v hv2 => ?_⟩
  · rw [ht, BadIn_snoc, hb]
    constructor
    · rintro (⟨h1, h2⟩ | ⟨h1, rfl, rfl⟩)
      · exact ⟨h1, Or.inl h2⟩
      · exact ⟨rfl, Or.inr ⟨h1, rfl⟩⟩
    · rintro ⟨h1, h2 | ⟨h2, rfl⟩⟩
      · exact Or.inl ⟨h1, h2⟩
      · exact Or.inr ⟨h2, rfl, h1⟩
  · split <;> simp [h.hl]
  · rw [ht, HeldUp_snoc, hc, ← h.h v hv2]
    cases c
    · simp
    · rw [if_pos rfl, getB_set, h.hl]
      by_cases e : es[k].dst = v
      · rw [if_pos ⟨e, hv2⟩]; exact ⟨fun _ => Or.inr ⟨rfl, e.symm⟩, fun _ => rfl⟩
      · rw [if_neg (fun x => e x.1)]; exact ⟨Or.inl, fun x => x.elim id (fun x => absurd x.2.symm e)⟩

/-- The faults that the document finds are the broken rules. -/
theorem TopR.fin {ss : List St} {es : List Ed} {n : Nat} {R : List Nat}
    (h : Tells R n (fun v r => (r = 2 ∧ BadIn ss es v) ∨ (v < n ∧ ((r = 1 ∧ topoTop n (lab ss v) = true) ∨ (r = 3 ∧ lab ss v ≠ 0 ∧ ¬ HeldUp ss es v))))) : Tells R n (Btop ss es n) := h

end Go.Proofs.Ytohmeobfiomfdaa
