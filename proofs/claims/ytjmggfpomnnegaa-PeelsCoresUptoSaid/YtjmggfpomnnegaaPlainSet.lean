/-
  Set, with no program in sight: what a run of rounds finds is the first independent set.
-/
import Derived.Test.YtjmggfpomnnegaaRunM
import Derived.Test.YtjmggfpomnnegaaSetOk
import Derived.Test.YtjmggfpomnnegaaEds
namespace Go.Proofs.Ytjmggfpomnnegaa
open Go.RowKit

/-- The priority of a vertex. -/
def plc (n a c v : Nat) : Nat := (a * v + c) % n

theorem onto_of_inj : ∀ (n : Nat) (f : Nat → Nat), (∀ v, v < n → f v < n) → (∀ v u, v < n → u < n → f v = f u → v = u) → ∀ i, i < n → ∃ v, v < n ∧ f v = i := by
  intro n
  induction n with
  | zero => intro f _ _ i hi; exact absurd hi (Nat.not_lt_zero _)
  | succ n ih =>
    intro f hf hinj i hi
    have hy := hf n (Nat.lt_succ_self n)
    have hg : ∀ v, v < n → (if f v = n then f n else f v) < n := by
      intro v hv
      have hfv := hf v (by omega)
      by_cases h : f v = n
      · rw [if_pos h]
        have : f n ≠ n := fun h2 => by have := hinj v n (by omega) (by omega) (by omega); omega
        omega
      · rw [if_neg h]; omega
    have hgi : ∀ v u, v < n → u < n → (if f v = n then f n else f v) = (if f u = n then f n else f u) → v = u := by
      intro v u hv hu h
      by_cases h1 : f v = n
      · by_cases h2 : f u = n
        · exact hinj v u (by omega) (by omega) (by omega)
        · rw [if_pos h1, if_neg h2] at h
          have := hinj n u (by omega) (by omega) h; omega
      · by_cases h2 : f u = n
        · rw [if_neg h1, if_pos h2] at h
          have := hinj v n (by omega) (by omega) h; omega
        · rw [if_neg h1, if_neg h2] at h
          exact hinj v u (by omega) (by omega) h
    have hs := ih _ hg hgi
    by_cases h1 : i = f n
    · exact ⟨n, by omega, h1.symm⟩
    · by_cases h2 : i = n
      · obtain ⟨v, hv, h⟩ := hs (f n) (by omega)
        by_cases h3 : f v = n
        · exact ⟨v, by omega, by omega⟩
        · rw [if_neg h3] at h
          have := hinj v n (by omega) (by omega) h; omega
      · obtain ⟨v, hv, h⟩ := hs i (by omega)
        by_cases h3 : f v = n
        · rw [if_pos h3] at h; exact absurd h.symm h1
        · rw [if_neg h3] at h; exact ⟨v, by omega, h⟩

theorem plc_lt {n a c : Nat} (hr : RankOk n a c) (v : Nat) : plc n a c v < n := Nat.mod_lt _ hr.1

theorem plc_inj_le {n a c : Nat} (hr : RankOk n a c) {v u : Nat} (hv : v < n) (huv : u ≤ v) (h : plc n a c v = plc n a c u) : v = u := by
  have h1 := Nat.sub_mod_eq_zero_of_mod_eq h
  have h2 : a * v + c - (a * u + c) = a * (v - u) := by rw [Nat.mul_sub]; omega
  rw [h2] at h1
  have h3 : n ∣ a * (v - u) := Nat.dvd_of_mod_eq_zero h1
  have hc : Nat.Coprime n a := by rw [Nat.coprime_iff_gcd_eq_one, Nat.gcd_comm]; exact hr.2.2.2.2
  have h4 := hc.dvd_of_dvd_mul_left h3
  have h5 : v - u = 0 := Nat.eq_zero_of_dvd_of_lt h4 (by omega)
  omega

theorem plc_inj {n a c : Nat} (hr : RankOk n a c) {v u : Nat} (hv : v < n) (hu : u < n) (h : plc n a c v = plc n a c u) : v = u := by
  rcases Nat.le_total u v with h1 | h1
  · exact plc_inj_le hr hv h1 h
  · exact (plc_inj_le hr hu h1 h.symm).symm

theorem nearB_iff (es : List Ed) (v u : Nat) : nearB es v u = true ↔ v ≠ u ∧ ∃ e, e ∈ es ∧ (e.src = v ∧ e.dst = u ∨ e.src = u ∧ e.dst = v) := by
  unfold nearB liesB
  rw [List.any_eq_true]
  constructor
  · rintro ⟨e, he, h⟩
    have h := of_decide_eq_true h
    exact ⟨h.1, e, he, h.2⟩
  · rintro ⟨h1, e, he, h2⟩
    exact ⟨e, he, decide_eq_true ⟨h1, h2⟩⟩

theorem nearB_symm (es : List Ed) (v u : Nat) (h : nearB es v u = true) : nearB es u v = true := by
  rw [nearB_iff] at h ⊢
  obtain ⟨h1, e, he, h2⟩ := h
  exact ⟨fun h => h1 h.symm, e, he, h2.symm⟩

/-- What stands in the order: at i the vertex of priority i. -/
def ordL (n a c : Nat) : Nat → List Nat
  | 0 => List.replicate n 0
  | k + 1 => (ordL n a c k).set (plc n a c k) k

theorem ordL_len (n a c k : Nat) : (ordL n a c k).length = n := by
  induction k with
  | zero => simp [ordL]
  | succ k ih => simp [ordL, ih]

def ordAt (n a c k i : Nat) : Nat := (ordL n a c k)[i]?.getD 0

theorem ordAt_lt {n a c : Nat} (hn : 1 ≤ n) (i : Nat) : ∀ k, k ≤ n → ordAt n a c k i < n := by
  intro k
  induction k with
  | zero =>
    intro _
    unfold ordAt ordL
    by_cases h : i < n
    · rw [List.getElem?_replicate, if_pos h]; exact hn
    · rw [List.getElem?_replicate, if_neg h]; exact hn
  | succ k ih =>
    intro hk
    have := ih (by omega)
    unfold ordAt at this ⊢
    unfold ordL
    rw [List.getElem?_set]
    by_cases h : plc n a c k = i
    · rw [if_pos h]
      split
      · show k < n; omega
      · show 0 < n; omega
    · rw [if_neg h]; exact this

theorem ordAt_plc {n a c : Nat} (hr : RankOk n a c) (v : Nat) : ∀ k, k ≤ n → v < k → ordAt n a c k (plc n a c v) = v := by
  intro k
  induction k with
  | zero => intro _ h; exact absurd h (Nat.not_lt_zero _)
  | succ k ih =>
    intro hk hv
    unfold ordAt ordL
    rw [List.getElem?_set, ordL_len]
    by_cases h : k = v
    · subst h
      rw [if_pos rfl, if_pos (plc_lt hr _)]; rfl
    · rw [if_neg (fun h2 => h (plc_inj hr (by omega) (by omega) h2))]
      exact ih (by omega) (by omega)

theorem plc_ord {n a c : Nat} (hr : RankOk n a c) {i : Nat} (hi : i < n) : plc n a c (ordAt n a c n i) = i := by
  obtain ⟨v, hv, h⟩ := onto_of_inj n (plc n a c) (fun v _ => plc_lt hr v) (fun v u hv hu h => plc_inj hr hv hu h) i hi
  rw [← h, ordAt_plc hr v n (Nat.le_refl _) hv]

def inAt (l : List Nat) (v : Nat) : Nat := l[v]?.getD 0
/-- Is the vertex at i free of those taken at 0 to k - 1? -/
def freeB (n a c : Nat) (es : List Ed) (l : List Nat) (i : Nat) : Nat → Bool
  | 0 => true
  | k + 1 => freeB n a c es l i k && !(inAt l (ordAt n a c n k) == 1 && nearB es (ordAt n a c n i) (ordAt n a c n k))
/-- The first set, k vertices of the order looked at. -/
def firstL (n a c : Nat) (es : List Ed) : Nat → List Nat
  | 0 => List.replicate n 0
  | k + 1 => if freeB n a c es (firstL n a c es k) k k then (firstL n a c es k).set (ordAt n a c n k) 1 else firstL n a c es k

theorem firstL_len (n a c : Nat) (es : List Ed) (k : Nat) : (firstL n a c es k).length = n := by
  induction k with
  | zero => simp [firstL]
  | succ k ih => unfold firstL; split <;> simp [ih]

theorem freeB_iff (n a c : Nat) (es : List Ed) (l : List Nat) (i k : Nat) : freeB n a c es l i k = true ↔ ∀ j, j < k → inAt l (ordAt n a c n j) = 1 → nearB es (ordAt n a c n i) (ordAt n a c n j) = false := by
  induction k with
  | zero => simp [freeB]
  | succ k ih =>
    unfold freeB
    rw [Bool.and_eq_true, ih]
    constructor
    · rintro ⟨h1, h2⟩ j hj h3
      by_cases h : j = k
      · subst h
        simpa [h3] using h2
      · exact h1 j (by omega) h3
    · intro h
      refine ⟨fun j hj => h j (by omega), ?_⟩
      have := h k (by omega)
      cases hq : (inAt l (ordAt n a c n k) == 1)
      · simp
      · rw [this (by simpa using hq)]; rfl

/-- Word v of the list is settled once its priority is behind. -/
theorem firstL_inv {n a c : Nat} (hr : RankOk n a c) (es : List Ed) : ∀ k, k ≤ n → ∀ v, v < n →
    inAt (firstL n a c es k) v = (if plc n a c v < k ∧ (∀ u, u < n → plc n a c u < plc n a c v → inAt (firstL n a c es k) u = 1 → nearB es v u = false) then 1 else 0) := by
  intro k
  induction k with
  | zero =>
    intro _ v hv
    rw [if_neg (by omega)]
    unfold inAt firstL
    rw [List.getElem?_replicate, if_pos hv]; rfl
  | succ k ih =>
    intro hk v hv
    have ih := ih (by omega)
    have hx : ordAt n a c n k < n := ordAt_lt hr.1 k n (Nat.le_refl _)
    have hp : plc n a c (ordAt n a c n k) = k := plc_ord hr (by omega)
    -- words of vertices at other places are as before
    have hold : ∀ u, u < n → plc n a c u ≠ k → inAt (firstL n a c es (k + 1)) u = inAt (firstL n a c es k) u := by
      intro u hu hne
      have hne2 : ordAt n a c n k ≠ u := fun h => hne (by rw [← h]; exact hp)
      conv => lhs; unfold firstL
      split
      · unfold inAt; rw [List.getElem?_set, if_neg hne2]
      · rfl
    have hfree : freeB n a c es (firstL n a c es k) k k = true ↔ ∀ u, u < n → plc n a c u < k → inAt (firstL n a c es k) u = 1 → nearB es (ordAt n a c n k) u = false := by
      rw [freeB_iff]
      constructor
      · intro h u hu hpu h1
        have := h (plc n a c u) hpu
        rw [ordAt_plc hr u n (Nat.le_refl _) hu] at this
        exact this h1
      · intro h j hj h1
        exact h _ (ordAt_lt hr.1 j n (Nat.le_refl _)) (by rw [plc_ord hr (by omega)]; exact hj) h1
    by_cases hvk : plc n a c v = k
    · have hvo : v = ordAt n a c n k := plc_inj hr hv hx (by rw [hp, hvk])
      have h0 : inAt (firstL n a c es k) v = 0 := by rw [ih v hv, if_neg (by omega)]
      have hsame : (∀ u, u < n → plc n a c u < plc n a c v → inAt (firstL n a c es (k + 1)) u = 1 → nearB es v u = false) ↔ freeB n a c es (firstL n a c es k) k k = true := by
        rw [hfree, ← hvo, hvk]
        constructor
        · intro h u hu hpu; have := h u hu hpu; rw [hold u hu (by omega)] at this; exact this
        · intro h u hu hpu; rw [hold u hu (by omega)]; exact h u hu hpu
      by_cases hf : freeB n a c es (firstL n a c es k) k k = true
      · rw [if_pos ⟨by omega, hsame.2 hf⟩]
        unfold firstL
        rw [if_pos hf, ← hvo]
        unfold inAt
        rw [List.getElem?_set, if_pos rfl, firstL_len, if_pos hv]; rfl
      · rw [if_neg (fun h => hf (hsame.1 h.2))]
        unfold firstL
        rw [if_neg hf]; exact h0
    · rw [hold v hv hvk, ih v hv]
      by_cases hlt : plc n a c v < k
      · have hiff : (∀ u, u < n → plc n a c u < plc n a c v → inAt (firstL n a c es k) u = 1 → nearB es v u = false) ↔ (∀ u, u < n → plc n a c u < plc n a c v → inAt (firstL n a c es (k + 1)) u = 1 → nearB es v u = false) := by
          constructor
          · intro h u hu hpu; rw [hold u hu (by omega)]; exact h u hu hpu
          · intro h u hu hpu; have := h u hu hpu; rw [hold u hu (by omega)] at this; exact this
        by_cases hc : (∀ u, u < n → plc n a c u < plc n a c v → inAt (firstL n a c es k) u = 1 → nearB es v u = false)
        · rw [if_pos ⟨hlt, hc⟩, if_pos ⟨by omega, hiff.1 hc⟩]
        · rw [if_neg (fun h => hc h.2), if_neg (fun h => hc (hiff.2 h.2))]
      · rw [if_neg (fun h => hlt h.1), if_neg (fun h => by omega)]

/-- Is the vertex in the first set? -/
def InF (n a c : Nat) (es : List Ed) (v : Nat) : Prop := inAt (firstL n a c es n) v = 1

theorem inF_iff {n a c : Nat} (hr : RankOk n a c) (es : List Ed) {v : Nat} (hv : v < n) : InF n a c es v ↔ ∀ u, u < n → plc n a c u < plc n a c v → nearB es v u = true → ¬ InF n a c es u := by
  unfold InF
  have h := firstL_inv hr es n (Nat.le_refl _) v hv
  constructor
  · intro h1 u hu hpu hnu h2
    rw [h1] at h
    split at h
    · rename_i h3
      have := h3.2 u hu hpu h2
      rw [this] at hnu; exact absurd hnu (by simp)
    · exact absurd h (by simp)
  · intro h1
    rw [h, if_pos]
    refine ⟨plc_lt hr v, fun u hu hpu h2 => ?_⟩
    cases hq : nearB es v u
    · rfl
    · exact absurd h2 (h1 u hu hpu hq)

theorem inF_zero {n a c : Nat} (hr : RankOk n a c) (es : List Ed) {v : Nat} (hv : v < n) (h : ¬ InF n a c es v) : inAt (firstL n a c es n) v = 0 := by
  have h1 := firstL_inv hr es n (Nat.le_refl _) v hv
  unfold InF at h
  rw [h1] at h ⊢
  split
  · rename_i h2; exact absurd (if_pos h2) h
  · rfl

/-- Two neighbours are never both in. -/
theorem inF_apart {n a c : Nat} (hr : RankOk n a c) (es : List Ed) {v u : Nat} (hv : v < n) (hu : u < n) (hnu : nearB es v u = true) (h1 : InF n a c es v) (h2 : InF n a c es u) : False := by
  have hne : v ≠ u := ((nearB_iff es v u).1 hnu).1
  rcases Nat.lt_trichotomy (plc n a c v) (plc n a c u) with h | h | h
  · exact (inF_iff hr es hu).1 h2 v hv h (nearB_symm _ _ _ hnu) h1
  · exact hne (plc_inj hr hv hu h)
  · exact (inF_iff hr es hv).1 h1 u hu h hnu h2

end Go.Proofs.Ytjmggfpomnnegaa
