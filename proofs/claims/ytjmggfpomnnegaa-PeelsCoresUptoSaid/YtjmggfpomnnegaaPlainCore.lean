/-
  Cores, with no program in sight: degrees within a set; the core number of a vertex.
-/
import Derived.Test.YtjmggfpomnnegaaRunM
namespace Go.Proofs.Ytjmggfpomnnegaa
open Go.RowKit

/-- An edge between two different vertices of the set, one of them v. -/
def dp (T : Nat → Bool) (v : Nat) (e : Ed) : Bool := (e.src != e.dst && T e.src && T e.dst) && (e.src == v || e.dst == v)
def dgT (es : List Ed) (T : Nat → Bool) (v : Nat) : Nat := es.countP (dp T v)
/-- v lies in a set each of whose vertices has k edges within the set. -/
def inC (n : Nat) (es : List Ed) (k v : Nat) : Prop := ∃ T : Nat → Bool, T v = true ∧ ∀ u, T u = true → u < n ∧ k ≤ dgT es T u
/-- x is v's core number. -/
def IsCore (n : Nat) (es : List Ed) (v x : Nat) : Prop := inC n es x v ∧ ¬ inC n es (x + 1) v

theorem dgT_mono (es : List Ed) {T U : Nat → Bool} (h : ∀ u, T u = true → U u = true) (v : Nat) : dgT es T v ≤ dgT es U v := by
  unfold dgT
  apply List.countP_mono_left
  intro e _ he
  unfold dp at he ⊢
  simp only [Bool.and_eq_true] at he ⊢
  exact ⟨⟨⟨he.1.1.1, h _ he.1.1.2⟩, h _ he.1.2⟩, he.2⟩

theorem inC_le {n : Nat} {es : List Ed} {j k v : Nat} (h : j ≤ k) (hc : inC n es k v) : inC n es j v := by
  obtain ⟨T, h1, h2⟩ := hc
  exact ⟨T, h1, fun u hu => ⟨(h2 u hu).1, Nat.le_trans h (h2 u hu).2⟩⟩

theorem inC_zero {n : Nat} (es : List Ed) {v : Nat} (hv : v < n) : inC n es 0 v :=
  ⟨fun u => decide (u < n), by simpa using hv, fun u hu => ⟨by simpa using hu, Nat.zero_le _⟩⟩

theorem inC_len {n : Nat} {es : List Ed} {k v : Nat} (h : inC n es k v) : k ≤ es.length := by
  obtain ⟨T, h1, h2⟩ := h
  exact Nat.le_trans (h2 v h1).2 List.countP_le_length

theorem core_one {n : Nat} {es : List Ed} {v x y : Nat} (hx : IsCore n es v x) (hy : IsCore n es v y) : x = y := by
  rcases Nat.lt_trichotomy x y with h | h | h
  · exact absurd (inC_le (show x + 1 ≤ y from h) hy.1) hx.2
  · exact h
  · exact absurd (inC_le (show y + 1 ≤ x from h) hx.1) hy.2

/-- A set that keeps every k-set, and in which each has k, is all there is of level k. -/
theorem inC_of_set {n : Nat} {es : List Ed} {k : Nat} {L : Nat → Bool} (hL : ∀ u, L u = true → u < n ∧ k ≤ dgT es L u) {v : Nat} (hv : L v = true) : inC n es k v := ⟨L, hv, hL⟩

theorem dgT_nil (T : Nat → Bool) (v : Nat) : dgT [] T v = 0 := rfl
theorem dgT_cons (e : Ed) (es : List Ed) (T : Nat → Bool) (v : Nat) : dgT (e :: es) T v = dgT es T v + if dp T v e = true then 1 else 0 := by
  unfold dgT; rw [List.countP_cons]
theorem dgT_snoc (e : Ed) (es : List Ed) (T : Nat → Bool) (v : Nat) : dgT (es ++ [e]) T v = dgT es T v + if dp T v e = true then 1 else 0 := by
  unfold dgT; rw [List.countP_append, List.countP_singleton]
theorem dgT_le (es : List Ed) (T : Nat → Bool) (v : Nat) : dgT es T v ≤ es.length := List.countP_le_length

/-! ### What the degrees count -/
def outC (es : List Ed) (v : Nat) : Nat := es.countP fun e => e.src == v
def inE (es : List Ed) (v : Nat) : Nat := es.countP fun e => e.dst == v
def loopC (es : List Ed) (v : Nat) : Nat := es.countP fun e => e.src == e.dst && e.src == v

theorem dgAt_step (l : List Dg) (e : Ed) (v : Nat) (h1 : e.src < l.length) (h2 : e.dst < l.length) :
    (dgAt (stepDeg l e) v).o = (dgAt l v).o + (if e.src = v then 1 else 0) ∧ (dgAt (stepDeg l e) v).i = (dgAt l v).i + (if e.dst = v then 1 else 0) := by
  have ho : ∀ (l : List Dg) (j v : Nat), j < l.length → dgAt (outUp l j) v = if j = v then ⟨(dgAt l v).o + 1, (dgAt l v).i⟩ else dgAt l v := by
    intro l j v hj
    unfold outUp
    rw [dgAt, List.getElem?_set]
    by_cases h : j = v
    · subst h; rw [if_pos rfl, if_pos rfl, if_pos hj]; rfl
    · rw [if_neg h, if_neg h]; rfl
  have hi : ∀ (l : List Dg) (j v : Nat), j < l.length → dgAt (inUp l j) v = if j = v then ⟨(dgAt l v).o, (dgAt l v).i + 1⟩ else dgAt l v := by
    intro l j v hj
    unfold inUp
    rw [dgAt, List.getElem?_set]
    by_cases h : j = v
    · subst h; rw [if_pos rfl, if_pos rfl, if_pos hj]; rfl
    · rw [if_neg h, if_neg h]; rfl
  unfold stepDeg
  rw [hi _ _ _ (by rw [outUp_len]; exact h2), ho _ _ _ h1]
  by_cases h : e.dst = v <;> by_cases h' : e.src = v <;> simp [h, h']

theorem degs_count (n : Nat) (es : List Ed) (hes : ∀ e, e ∈ es → e.src < n ∧ e.dst < n) (v : Nat) : (dgAt (degs n es) v).o = outC es v ∧ (dgAt (degs n es) v).i = inE es v := by
  have key : ∀ (es : List Ed) (l : List Dg), (∀ e, e ∈ es → e.src < l.length ∧ e.dst < l.length) → (dgAt (es.foldl stepDeg l) v).o = (dgAt l v).o + outC es v ∧ (dgAt (es.foldl stepDeg l) v).i = (dgAt l v).i + inE es v := by
    intro es
    induction es with
    | nil => intro l _; exact ⟨rfl, rfl⟩
    | cons e es ih =>
      intro l hl
      have h0 := hl e List.mem_cons_self
      rw [List.foldl_cons]
      obtain ⟨h1, h2⟩ := ih (stepDeg l e) (fun x hx => by rw [stepDeg_len]; exact hl x (List.mem_cons_of_mem _ hx))
      obtain ⟨g1, g2⟩ := dgAt_step l e v h0.1 h0.2
      rw [h1, h2, g1, g2]
      unfold outC inE
      rw [List.countP_cons, List.countP_cons]
      simp only [beq_iff_eq]
      omega
  have hz : dgAt (List.replicate n Dg.zero) v = Dg.zero := by
    unfold dgAt; rw [List.getElem?_replicate]; split <;> rfl
  obtain ⟨h1, h2⟩ := key es (List.replicate n Dg.zero) (fun e he => by simpa using hes e he)
  rw [hz] at h1 h2
  unfold degs
  rw [h1, h2]
  exact ⟨Nat.zero_add _, Nat.zero_add _⟩

theorem count_ends (es : List Ed) (T : Nat → Bool) (hT : ∀ e, e ∈ es → T e.src = true ∧ T e.dst = true) (v : Nat) : outC es v + inE es v = dgT es T v + 2 * loopC es v := by
  induction es with
  | nil => rfl
  | cons e es ih =>
    have h := ih (fun x hx => hT x (List.mem_cons_of_mem _ hx))
    have h0 := hT e List.mem_cons_self
    unfold outC inE loopC at *
    rw [dgT_cons, List.countP_cons, List.countP_cons, List.countP_cons]
    unfold dp
    rw [h0.1, h0.2]
    by_cases h3 : e.src = e.dst
    · by_cases h1 : e.src = v
      · have h2 : e.dst = v := by rw [← h3]; exact h1
        simp [h1, h2]; omega
      · have h2 : ¬ e.dst = v := by rw [← h3]; exact h1
        simp [h1, h2]; omega
    · by_cases h1 : e.src = v
      · have h2 : ¬ e.dst = v := fun h => h3 (by rw [h1, h])
        have h4 : ¬ v = e.dst := fun h => h2 h.symm
        simp [h1, h2, h4]; omega
      · by_cases h2 : e.dst = v
        · simp [h1, h2]; omega
        · simp [h1, h2]; omega

/-- Edges between v and a set. -/
def toD (es : List Ed) (D : Nat → Bool) (v : Nat) : Nat := es.countP fun e => e.src != e.dst && ((D e.src && e.dst == v) || (D e.dst && e.src == v))

theorem split_deg (es : List Ed) (O D OD : Nat → Bool) (v : Nat) (hOD : ∀ u, OD u = (O u || D u)) (hdis : ∀ u, ¬ (O u = true ∧ D u = true)) (hv : O v = true) : dgT es OD v = dgT es O v + toD es D v := by
  have hDv : D v = false := by
    cases h : D v
    · rfl
    · exact absurd ⟨hv, h⟩ (hdis v)
  induction es with
  | nil => rfl
  | cons e es ih =>
    unfold toD at *
    rw [dgT_cons, dgT_cons, List.countP_cons, ih]
    unfold dp
    rw [hOD, hOD]
    have d1 := hdis e.src
    have d2 := hdis e.dst
    by_cases h3 : e.src = e.dst
    · simp [h3]
    · by_cases h1 : e.src = v
      · have h2 : ¬ e.dst = v := fun h => h3 (by rw [h1, h])
        subst h1
        cases hO : O e.dst <;> cases hD : D e.dst <;> simp_all <;> omega
      · by_cases h2 : e.dst = v
        · subst h2
          cases hO : O e.src <;> cases hD : D e.src <;> simp_all <;> omega
        · simp [h1, h2]

end Go.Proofs.Ytjmggfpomnnegaa
