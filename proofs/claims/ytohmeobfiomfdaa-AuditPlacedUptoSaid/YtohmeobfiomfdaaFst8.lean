/-
  The document's two colours, in plain Lean: what spreads along the edges is what the doubled forest asks for.
-/
import Derived.Test.YtohmeobfiomfdaaFst4
import Derived.Test.YtohmeobfiomfdaaFst6
namespace Go.Proofs.Ytohmeobfiomfdaa
open Go.RowKit Go.Shelf

/-- Not coloured yet. -/
abbrev NoC : Nat := 18446744073709551615

theorem Dbl.same {es : List Ed} {n : Nat} {e : Ed} (he : e ∈ es) : Conn (Dbl es n) e.src (e.dst + n) := Conn.edge ⟨e, he, Or.inl ⟨rfl, rfl⟩⟩
theorem Dbl.far {es : List Ed} {n : Nat} {e : Ed} (he : e ∈ es) : Conn (Dbl es n) (e.src + n) e.dst := Conn.edge ⟨e, he, Or.inr ⟨rfl, rfl⟩⟩

/-- Two ends of an edge, either way round. -/
structure Ends (es : List Ed) (n u v : Nat) : Prop where
  a : Conn (Dbl es n) u (v + n)
  b : Conn (Dbl es n) (u + n) v
  e : ∃ e, e ∈ es ∧ ((u = e.src ∧ v = e.dst) ∨ (u = e.dst ∧ v = e.src))
theorem Ends.fwd {es : List Ed} {n : Nat} {e : Ed} (he : e ∈ es) : Ends es n e.src e.dst := ⟨Dbl.same he, Dbl.far he, e, he, Or.inl ⟨rfl, rfl⟩⟩
theorem Ends.bwd {es : List Ed} {n : Nat} {e : Ed} (he : e ∈ es) : Ends es n e.dst e.src := ⟨Conn.symm (Dbl.far he), Conn.symm (Dbl.same he), e, he, Or.inr ⟨rfl, rfl⟩⟩
theorem Ends.ρ {es : List Ed} {n u v : Nat} {ρ : Nat → Nat} (h : Ends es n u v) (hr : Roots (Sgl es) ρ n) : ρ u = ρ v := by
  obtain ⟨e, he, ⟨rfl, rfl⟩ | ⟨rfl, rfl⟩⟩ := h.e
  · exact hr.done _ _ ⟨e, he, rfl, rfl⟩
  · exact (hr.done _ _ ⟨e, he, rfl, rfl⟩).symm

/-- What holds while colours spread. -/
structure ColI (es : List Ed) (n : Nat) (ρ : Nat → Nat) (C : List Nat) : Prop where
  len : C.length = n
  c : ∀ v, v < n → C.getD v 0 = NoC ∨ (C.getD v 0 ≤ 1 ∧ Conn (Dbl es n) (ρ v) (v + C.getD v 0 * n))
  root : ∀ v, v < n → ρ v = v → C.getD v 0 ≠ NoC

theorem ColI.init {es : List Ed} {n : Nat} {ρ : Nat → Nat} {C : List Nat} (hl : C.length = n) (h : ∀ v, v < n → C.getD v 0 = if ρ v = v then 0 else NoC) : ColI es n ρ C where
  len := hl
  c := fun v hv => by
    rw [h v hv]
    split
    · rename_i e
      exact Or.inr ⟨by omega, by rw [e, Nat.zero_mul]; exact Conn.refl _⟩
    · exact Or.inl rfl
  root := fun v hv e => by rw [h v hv, if_pos e]; decide

theorem ColI.step {es : List Ed} {n : Nat} {ρ : Nat → Nat} {C : List Nat} {u v : Nat} (h : ColI es n ρ C) (hr : Roots (Sgl es) ρ n) (hE : Ends es n u v) (hu : u < n) (hv : v < n) (h1 : C.getD u 0 ≠ NoC) : C.getD u 0 ≤ 1 ∧ ColI es n ρ (C.set v (1 - C.getD u 0)) := by
  obtain ⟨hc1, hc2⟩ := (h.c u hu).resolve_left h1
  have hl := h.len
  have hg : ∀ x, (C.set v (1 - C.getD u 0)).getD x 0 = if v = x then 1 - C.getD u 0 else C.getD x 0 := fun x => by
    rw [getD_set]
    by_cases e : v = x
    · rw [if_pos ⟨e, by omega⟩, if_pos e]
    · rw [if_neg (fun z => e z.1), if_neg e]
  refine ⟨hc1, by rw [List.length_set]; exact hl, fun x hx => ?_, fun x hx e => ?_⟩
  · rw [hg]
    split
    · rename_i e
      subst e
      refine Or.inr ⟨by omega, ?_⟩
      rw [← hE.ρ hr]
      refine Conn.trans hc2 ?_
      by_cases h0 : C.getD u 0 = 0
      · rw [h0, Nat.zero_mul, Nat.sub_zero, Nat.one_mul]; exact hE.a
      · rw [show C.getD u 0 = 1 by omega, Nat.one_mul, Nat.sub_self, Nat.zero_mul]; exact hE.b
    · exact h.c x hx
  · rw [hg]
    split
    · unfold NoC; omega
    · exact h.root x hx e

/-- How many are not coloured yet. -/
def nones (C : List Nat) : Nat := C.count NoC
theorem nones_set {C : List Nat} {v c : Nat} (hv : v < C.length) (h : C.getD v 0 = NoC) (hc : c ≤ 1) : nones (C.set v c) + 1 ≤ nones C := by
  unfold nones
  rw [List.count_set hv]
  rw [List.getD_eq_getElem?_getD, List.getElem?_eq_getElem hv, Option.getD_some] at h
  have hpos : 0 < C.count NoC := List.count_pos_iff.2 (by rw [← h]; exact List.getElem_mem hv)
  have h1 : (C[v] == NoC) = true := beq_iff_eq.2 h
  have h2 : (c == NoC) = false := beq_eq_false_iff_ne.2 (by unfold NoC; omega)
  rw [h1, h2]
  simp only [if_true, Bool.false_eq_true, if_false]
  omega

/-- A pass over the edges. -/
structure PassC (es : List Ed) (n : Nat) (ρ : Nat → Nat) (C : List Nat) (k : Nat) (ag : Bool) (C2 : List Nat) : Prop where
  i : ColI es n ρ C2
  cl : ag = false → C2 = C ∧ ∀ j (h : j < es.length), j < k → (C.getD es[j].src 0 = NoC ↔ C.getD es[j].dst 0 = NoC)
  z : nones C2 + (if ag = true then 1 else 0) ≤ nones C
theorem PassC.init {es : List Ed} {n : Nat} {ρ : Nat → Nat} {C : List Nat} (h : ColI es n ρ C) : PassC es n ρ C 0 false C := ⟨h, fun _ => ⟨rfl, fun j _ hj => absurd hj (Nat.not_lt_zero j)⟩, by simp⟩
theorem PassC.no {es : List Ed} {n : Nat} {ρ : Nat → Nat} {C C2 : List Nat} {k : Nat} {ag : Bool} (h : PassC es n ρ C k ag C2) (hk : k < es.length) (hn : C2.getD es[k].src 0 = NoC ↔ C2.getD es[k].dst 0 = NoC) : PassC es n ρ C (k + 1) ag C2 := by
  refine ⟨h.i, fun ha => ?_, h.z⟩
  obtain ⟨h1, h2⟩ := h.cl ha
  refine ⟨h1, fun j hj hjk => ?_⟩
  by_cases e : j = k
  · subst e; rw [h1] at hn; exact hn
  · exact h2 j hj (by omega)
theorem PassC.yes {es : List Ed} {n : Nat} {ρ : Nat → Nat} {C C2 : List Nat} {k : Nat} {ag : Bool} {u v : Nat} (h : PassC es n ρ C k ag C2) (hr : Roots (Sgl es) ρ n) (hE : Ends es n u v) (hu : u < n) (hv : v < n) (h1 : C2.getD u 0 ≠ NoC) (h2 : C2.getD v 0 = NoC) : C2.getD u 0 ≤ 1 ∧ PassC es n ρ C (k + 1) true (C2.set v (1 - C2.getD u 0)) := by
  obtain ⟨hc, hi⟩ := h.i.step hr hE hu hv h1
  refine ⟨hc, ⟨hi, (fun ha => by cases ha), ?_⟩⟩
  have := nones_set (c := 1 - C2.getD u 0) (by rw [h.i.len]; exact hv) h2 (by omega)
  have hz := h.z
  rw [if_pos rfl]
  split at hz <;> omega

/-- All is coloured. -/
structure ColE (es : List Ed) (n : Nat) (ρ : Nat → Nat) (C : List Nat) : Prop where
  len : C.length = n
  c : ∀ v, v < n → C.getD v 0 ≤ 1 ∧ Conn (Dbl es n) (ρ v) (v + C.getD v 0 * n)
theorem ColI.done {es : List Ed} {n : Nat} {ρ : Nat → Nat} {C : List Nat} (h : ColI es n ρ C) (hr : Roots (Sgl es) ρ n) (hcl : ∀ j (h : j < es.length), (C.getD es[j].src 0 = NoC ↔ C.getD es[j].dst 0 = NoC)) : ColE es n ρ C := by
  refine ⟨h.len, fun v hv => (h.c v hv).resolve_left (fun e => ?_)⟩
  have hl : (C.getD v 0 == NoC) = (C.getD (ρ v) 0 == NoC) := by
    refine Conn.lift (fun x => C.getD x 0 == NoC) (fun a b hab => ?_) (hr.sound v hv)
    obtain ⟨x, hx, rfl, rfl⟩ := hab
    obtain ⟨j, hj, rfl⟩ := List.mem_iff_getElem.1 hx
    have := hcl j hj
    rw [Bool.eq_iff_iff, beq_iff_eq, beq_iff_eq]; exact this
  rw [beq_iff_eq.2 e] at hl
  exact h.root (ρ v) (hr.lt hv) (hr.idem v hv) (beq_iff_eq.1 hl.symm)

/-- Where a way round of odd length is. -/
def OddAt (es : List Ed) (ρ : Nat → Nat) (C : List Nat) (r : Nat) : Prop := ∃ e, e ∈ es ∧ ρ e.src = r ∧ C.getD e.src 0 = C.getD e.dst 0
theorem OddAt_snoc (p : List Ed) (x : Ed) (ρ : Nat → Nat) (C : List Nat) (r : Nat) : OddAt (p ++ [x]) ρ C r ↔ (OddAt p ρ C r ∨ (ρ x.src = r ∧ C.getD x.src 0 = C.getD x.dst 0)) := by
  constructor
  · rintro ⟨e, he, h⟩
    rcases List.mem_append.1 he with he | he
    · exact Or.inl ⟨e, he, h⟩
    · rw [List.mem_singleton] at he; subst he; exact Or.inr h
  · rintro (⟨e, he, h⟩ | h)
    · exact ⟨e, List.mem_append.2 (Or.inl he), h⟩
    · exact ⟨x, by simp, h⟩

/-- The vertex that a place belongs to. -/
def home (n x : Nat) : Nat := if x < n then x else x - n
theorem home_lo {n x : Nat} (h : x < n) : home n x = x := if_pos h
theorem home_hi (n x : Nat) : home n (x + n) = x := by unfold home; rw [if_neg (by omega)]; omega
theorem home_le (n x : Nat) : home n x ≤ x := by unfold home; split <;> omega

theorem Conn.home {es : List Ed} {n x y : Nat} {ρ : Nat → Nat} (hva : ∀ e, e ∈ es → Valid n e) (hr : Roots (Sgl es) ρ n) (h : Conn (Dbl es n) x y) : ρ (Ytohmeobfiomfdaa.home n x) = ρ (Ytohmeobfiomfdaa.home n y) := by
  refine Conn.lift (fun x => ρ (Ytohmeobfiomfdaa.home n x)) (fun a b hab => ?_) h
  obtain ⟨e, he, ⟨rfl, rfl⟩ | ⟨rfl, rfl⟩⟩ := hab
  · have hv := hva e he
    show ρ (Ytohmeobfiomfdaa.home n e.src) = ρ (Ytohmeobfiomfdaa.home n (e.dst + n))
    rw [home_lo hv.1, home_hi]; exact hr.done _ _ ⟨e, he, rfl, rfl⟩
  · have hv := hva e he
    show ρ (Ytohmeobfiomfdaa.home n (e.src + n)) = ρ (Ytohmeobfiomfdaa.home n e.dst)
    rw [home_lo hv.2, home_hi]; exact hr.done _ _ ⟨e, he, rfl, rfl⟩

/-- The colours that the document ends with are those that the doubled forest asks for. -/
theorem colour_spec {es : List Ed} {n : Nat} {ρ ρ2 : Nat → Nat} {C : List Nat} (hva : ∀ e, e ∈ es → Valid n e) (hr : Roots (Sgl es) ρ n) (h2 : Roots (Dbl es n) ρ2 (2 * n)) (hC : ColE es n ρ C) (v : Nat) (hv : v < n) :
    (OddAt es ρ C (ρ v) → wantC (ρ2 v) (ρ2 (v + n)) = 2) ∧ (¬ OddAt es ρ C (ρ v) → wantC (ρ2 v) (ρ2 (v + n)) = C.getD v 0) := by
  have twin : ∀ x y, Conn (Sgl es) x y → (ρ2 x = ρ2 (x + n)) = (ρ2 y = ρ2 (y + n)) := fun x y hxy => by
    refine Conn.lift (fun x => (ρ2 x = ρ2 (x + n))) (fun a b hab => ?_) hxy
    obtain ⟨e, he, rfl, rfl⟩ := hab
    have e1 := h2.done _ _ ⟨e, he, Or.inl ⟨rfl, rfl⟩⟩
    have e2 := h2.done _ _ ⟨e, he, Or.inr ⟨rfl, rfl⟩⟩
    show (ρ2 e.src = ρ2 (e.src + n)) = (ρ2 e.dst = ρ2 (e.dst + n))
    rw [e1, e2]
    exact propext ⟨fun h => h.symm, fun h => h.symm⟩
  constructor
  · rintro ⟨e, he, hρ, hc⟩
    obtain ⟨s1, s2⟩ := hva e he
    have hρd : ρ e.src = ρ e.dst := hr.done _ _ ⟨e, he, rfl, rfl⟩
    obtain ⟨_, hs⟩ := hC.c e.src s1
    obtain ⟨hd1, hd⟩ := hC.c e.dst s2
    rw [hc] at hs
    rw [← hρd] at hd
    have hsd := Conn.trans (Conn.symm hs) hd
    have hdd : Conn (Dbl es n) e.dst (e.dst + n) := by
      by_cases h0 : C.getD e.dst 0 = 0
      · rw [h0, Nat.zero_mul] at hsd
        exact Conn.trans (Conn.symm hsd) (Dbl.same he)
      · rw [show C.getD e.dst 0 = 1 by omega, Nat.one_mul] at hsd
        exact Conn.trans (Conn.symm (Dbl.far he)) hsd
    have e1 : ρ2 e.dst = ρ2 (e.dst + n) := Conn.lift ρ2 h2.done hdd
    have hvd : Conn (Sgl es) v e.dst := (hr.conn hv s2).1 (hρ.symm.trans hρd)
    have e2 : ρ2 v = ρ2 (v + n) := by rw [twin v e.dst hvd]; exact e1
    unfold wantC
    rw [if_pos e2]
  · intro ho
    have hne : ρ2 v ≠ ρ2 (v + n) := fun e => by
      have hc := (h2.conn (by omega) (by omega)).1 e
      have hl : (if ρ (home n v) = ρ v then some (if v < n then C.getD v 0 else 1 - C.getD (v - n) 0) else none) = (if ρ (home n (v + n)) = ρ v then some (if v + n < n then C.getD (v + n) 0 else 1 - C.getD (v + n - n) 0) else none) := by
        refine Conn.lift (fun x => if ρ (home n x) = ρ v then some (if x < n then C.getD x 0 else 1 - C.getD (x - n) 0) else none) (fun a b hab => ?_) hc
        obtain ⟨x, hx, hab⟩ := hab
        obtain ⟨s1, s2⟩ := hva x hx
        have hρd : ρ x.src = ρ x.dst := hr.done _ _ ⟨x, hx, rfl, rfl⟩
        have c1 := (hC.c x.src s1).1
        have c2 := (hC.c x.dst s2).1
        rcases hab with ⟨rfl, rfl⟩ | ⟨rfl, rfl⟩
        · show (if ρ (home n x.src) = ρ v then some (if x.src < n then C.getD x.src 0 else 1 - C.getD (x.src - n) 0) else none) = (if ρ (home n (x.dst + n)) = ρ v then some (if x.dst + n < n then C.getD (x.dst + n) 0 else 1 - C.getD (x.dst + n - n) 0) else none)
          rw [home_lo s1, home_hi, hρd, if_pos s1, if_neg (by omega : ¬ x.dst + n < n), Nat.add_sub_cancel]
          split
          · rename_i hv2
            have hcne : C.getD x.src 0 ≠ C.getD x.dst 0 := fun h => ho ⟨x, hx, hρd.trans hv2, h⟩
            rw [show C.getD x.src 0 = 1 - C.getD x.dst 0 by omega]
          · rfl
        · show (if ρ (home n (x.src + n)) = ρ v then some (if x.src + n < n then C.getD (x.src + n) 0 else 1 - C.getD (x.src + n - n) 0) else none) = (if ρ (home n x.dst) = ρ v then some (if x.dst < n then C.getD x.dst 0 else 1 - C.getD (x.dst - n) 0) else none)
          rw [home_lo s2, home_hi, hρd, if_pos s2, if_neg (by omega : ¬ x.src + n < n), Nat.add_sub_cancel]
          split
          · rename_i hv2
            have hcne : C.getD x.src 0 ≠ C.getD x.dst 0 := fun h => ho ⟨x, hx, hρd.trans hv2, h⟩
            rw [show C.getD x.dst 0 = 1 - C.getD x.src 0 by omega]
          · rfl
      rw [home_lo hv, home_hi, if_pos rfl, if_pos rfl, if_pos hv, if_neg (by omega : ¬ v + n < n), Nat.add_sub_cancel] at hl
      have c1 := (hC.c v hv).1
      simp only [Option.some.injEq] at hl
      omega
    obtain ⟨c1, hcv⟩ := hC.c v hv
    have hrn := hr.lt hv
    have lo : ∀ x, x < 2 * n → ρ (home n x) = ρ v → ρ v ≤ ρ2 x := fun x hx hxv => by
      have h3 := Conn.home hva hr (h2.sound x hx)
      have h4 : ρ2 x < 2 * n := h2.lt hx
      have h5 : home n (ρ2 x) < n := by unfold home; split <;> omega
      have h6 := hr.le (home n (ρ2 x)) h5
      have h7 := home_le n (ρ2 x)
      rw [← h3, hxv] at h6
      omega
    have l1 := lo v (by omega) (by rw [home_lo hv])
    have l2 := lo (v + n) (by omega) (by rw [home_hi])
    have hle := h2.le (ρ v) (by omega)
    unfold wantC
    rw [if_neg hne]
    by_cases h0 : C.getD v 0 = 0
    · rw [h0, Nat.zero_mul, Nat.add_zero] at hcv
      have e1 : ρ2 (ρ v) = ρ2 v := Conn.lift ρ2 h2.done hcv
      rw [h0, if_neg (by omega)]
    · rw [show C.getD v 0 = 1 by omega, Nat.one_mul] at hcv
      have e1 : ρ2 (ρ v) = ρ2 (v + n) := Conn.lift ρ2 h2.done hcv
      rw [show C.getD v 0 = 1 by omega, if_pos (by omega)]

end Go.Proofs.Ytohmeobfiomfdaa
