/-
  Set, with no program in sight: the rounds of a run end with the first independent set.
-/
import Derived.Test.YtjmggfpomnnegaaPlainSet
namespace Go.Proofs.Ytjmggfpomnnegaa
open Go.RowKit

theorem tells_iff (n a c s1 v : Nat) (loop : Bool) : (tellsV n a c s1 v loop 1).2.2 = true ↔ loop = false ∧ s1 ≤ 1 := by
  unfold tellsV
  cases loop
  · by_cases h : 1 < s1
    · rw [if_pos (Or.inr h)]; simp; omega
    · rw [if_neg (by simp; omega)]
      split <;> simp <;> omega
  · rw [if_pos (Or.inl rfl)]; simp

theorem tells_eq (n a c s1 v : Nat) (h : s1 ≤ 1) : tellsV n a c s1 v false 1 = (if s1 = 1 then 18446744073709551615 else plc n a c v, if s1 = 1 then 1 else 0, true) := by
  unfold tellsV
  rw [if_neg (by simp; omega)]
  by_cases h1 : s1 = 1
  · rw [if_pos h1, if_pos h1, if_pos h1]
  · rw [if_neg h1, if_neg h1, if_neg h1]; rfl

/-- What x tells v. -/
def upOf (n a c : Nat) (ss : List St) (v x : Nat) : Up :=
  ⟨v, if (stAt ss x).a1 = 1 then 18446744073709551615 else plc n a c x, if (stAt ss x).a1 = 1 then 1 else 0⟩

theorem cast_beq (a b : Nat) : ((a : Int) == (b : Int)) = false ↔ a ≠ b := by rw [beq_eq_false_iff_ne]; omega

theorem mem_sendF (n a c : Nat) (k : Ct) (ss : List St) (e : Ed) (u : Up) : u ∈ sendF (setP n a c) k ss e ↔ e.src ≠ e.dst ∧ (stAt ss e.src).a1 ≤ 1 ∧ u = upOf n a c ss e.dst e.src := by
  unfold sendF
  show u ∈ (if (tellsV n a c (stAt ss e.src).a1 e.src ((e.src : Int) == e.dst) 1).2.2 = true then [(⟨e.dst, (tellsV n a c (stAt ss e.src).a1 e.src ((e.src : Int) == e.dst) 1).1, (tellsV n a c (stAt ss e.src).a1 e.src ((e.src : Int) == e.dst) 1).2.1⟩ : Up)] else []) ↔ _
  by_cases h : (tellsV n a c (stAt ss e.src).a1 e.src ((e.src : Int) == e.dst) 1).2.2 = true
  · rw [if_pos h]
    obtain ⟨h1, h2⟩ := (tells_iff _ _ _ _ _ _).1 h
    rw [h1, tells_eq _ _ _ _ _ h2, List.mem_singleton]
    exact ⟨fun h3 => ⟨(cast_beq _ _).1 h1, h2, h3⟩, fun h3 => h3.2.2⟩
  · rw [if_neg h]
    refine ⟨fun h3 => absurd h3 List.not_mem_nil, fun h3 => absurd ?_ h⟩
    exact (tells_iff _ _ _ _ _ _).2 ⟨(cast_beq _ _).2 h3.1, h3.2.1⟩

theorem mem_sendB (n a c : Nat) (k : Ct) (ss : List St) (e : Ed) (u : Up) : u ∈ sendB (setP n a c) k ss e ↔ e.src ≠ e.dst ∧ (stAt ss e.dst).a1 ≤ 1 ∧ u = upOf n a c ss e.src e.dst := by
  unfold sendB
  show u ∈ (if (tellsV n a c (stAt ss e.dst).a1 e.dst ((e.src : Int) == e.dst) 1).2.2 = true then [(⟨e.src, (tellsV n a c (stAt ss e.dst).a1 e.dst ((e.src : Int) == e.dst) 1).1, (tellsV n a c (stAt ss e.dst).a1 e.dst ((e.src : Int) == e.dst) 1).2.1⟩ : Up)] else []) ↔ _
  by_cases h : (tellsV n a c (stAt ss e.dst).a1 e.dst ((e.src : Int) == e.dst) 1).2.2 = true
  · rw [if_pos h]
    obtain ⟨h1, h2⟩ := (tells_iff _ _ _ _ _ _).1 h
    rw [h1, tells_eq _ _ _ _ _ h2, List.mem_singleton]
    exact ⟨fun h3 => ⟨(cast_beq _ _).1 h1, h2, h3⟩, fun h3 => h3.2.2⟩
  · rw [if_neg h]
    refine ⟨fun h3 => absurd h3 List.not_mem_nil, fun h3 => absurd ?_ h⟩
    exact (tells_iff _ _ _ _ _ _).2 ⟨(cast_beq _ _).2 h3.1, h3.2.1⟩

theorem mem_sends (n a c : Nat) (k : Ct) (ss : List St) (es : List Ed) (u : Up) : u ∈ sends (setP n a c) k ss es ↔ ∃ x, nearB es u.t x = true ∧ (stAt ss x).a1 ≤ 1 ∧ u = upOf n a c ss u.t x := by
  unfold sends
  rw [List.mem_flatMap]
  constructor
  · rintro ⟨e, he, h⟩
    rw [List.mem_append, mem_sendF, mem_sendB] at h
    rcases h with ⟨h1, h2, rfl⟩ | ⟨h1, h2, rfl⟩
    · exact ⟨e.src, (nearB_iff _ _ _).2 ⟨fun h => h1 h.symm, e, he, Or.inr ⟨rfl, rfl⟩⟩, h2, rfl⟩
    · exact ⟨e.dst, (nearB_iff _ _ _).2 ⟨h1, e, he, Or.inl ⟨rfl, rfl⟩⟩, h2, rfl⟩
  · rintro ⟨x, hx, h2, h3⟩
    obtain ⟨hne, e, he, h⟩ := (nearB_iff _ _ _).1 hx
    refine ⟨e, he, ?_⟩
    rw [List.mem_append, mem_sendF, mem_sendB]
    rcases h with ⟨h4, h5⟩ | ⟨h4, h5⟩
    · right; rw [h4, h5]; exact ⟨hne, h2, h3⟩
    · left; rw [h4, h5]; exact ⟨fun h => hne h.symm, h2, h3⟩

theorem stAt_set (ss : List St) (t v : Nat) (x : St) (ht : t < ss.length) : stAt (ss.set t x) v = if t = v then x else stAt ss v := by
  unfold stAt
  rw [List.getElem?_set]
  by_cases h : t = v
  · rw [if_pos h, if_pos h, if_pos ht]; rfl
  · rw [if_neg h, if_neg h]

theorem or_small (x y : Nat) (hx : x ≤ 1) (hy : y ≤ 1) : orV x y ≤ 1 ∧ (orV x y = 0 ↔ x = 0 ∧ y = 0) := by
  rw [orV_eq x y (by omega) (by omega)]
  obtain rfl | rfl : x = 0 ∨ x = 1 := by omega
  · obtain rfl | rfl : y = 0 ∨ y = 1 := by omega
    · decide
    · decide
  · obtain rfl | rfl : y = 0 ∨ y = 1 := by omega
    · decide
    · decide

/-- What the updates leave of a state. -/
theorem gather_set (n a c : Nat) (us : List Up) : ∀ (ss : List St), (∀ u, u ∈ us → u.t < ss.length ∧ u.b ≤ 1) → ∀ v, (stAt ss v).a3 ≤ 1 →
    (stAt (gatherU (setP n a c) ss us) v).a0 = (stAt ss v).a0 ∧ (stAt (gatherU (setP n a c) ss us) v).a1 = (stAt ss v).a1 ∧
    (stAt (gatherU (setP n a c) ss us) v).a3 ≤ 1 ∧
    (∀ p, p < (stAt (gatherU (setP n a c) ss us) v).a2 ↔ p < (stAt ss v).a2 ∧ ∀ u, u ∈ us → u.t = v → p < u.a) ∧
    ((stAt (gatherU (setP n a c) ss us) v).a3 = 0 ↔ (stAt ss v).a3 = 0 ∧ ∀ u, u ∈ us → u.t = v → u.b = 0) := by
  induction us with
  | nil => intro ss _ v h3; exact ⟨rfl, rfl, h3, fun p => by simp [gatherU], by simp [gatherU]⟩
  | cons u us ih =>
    intro ss hu v h3
    have hu0 := hu u List.mem_cons_self
    have hU : gatherU (setP n a c) ss (u :: us) = gatherU (setP n a c) (upd (setP n a c) ss u) us := rfl
    have hat : stAt (upd (setP n a c) ss u) v = if u.t = v then ⟨(stAt ss u.t).a0, (stAt ss u.t).a1, min (stAt ss u.t).a2 u.a, orV (stAt ss u.t).a3 u.b, (stAt ss u.t).a4, (stAt ss u.t).a5, (stAt ss u.t).a6, (stAt ss u.t).a7⟩ else stAt ss v := stAt_set ss u.t v _ hu0.1
    have hl : (upd (setP n a c) ss u).length = ss.length := upd_len _ _ _
    rw [hU]
    by_cases htv : u.t = v
    · rw [if_pos htv, htv] at hat
      have ho := or_small (stAt ss v).a3 u.b h3 hu0.2
      have h3' : (stAt (upd (setP n a c) ss u) v).a3 ≤ 1 := by rw [hat]; exact ho.1
      obtain ⟨r0, r1, r3, r2, r4⟩ := ih (upd (setP n a c) ss u) (fun x hx => by rw [hl]; exact hu x (List.mem_cons_of_mem _ hx)) v h3'
      rw [hat] at r0 r1 r2 r4
      refine ⟨r0, r1, r3, fun p => ?_, ?_⟩
      · rw [r2 p]
        simp only [List.mem_cons, forall_eq_or_imp]
        constructor
        · rintro ⟨h1, h2⟩; exact ⟨by omega, fun _ => by omega, h2⟩
        · rintro ⟨h1, h2, h4⟩; have := h2 htv; exact ⟨by omega, h4⟩
      · rw [r4]
        simp only [List.mem_cons, forall_eq_or_imp]
        rw [ho.2]
        constructor
        · rintro ⟨⟨h1, h2⟩, h4⟩; exact ⟨h1, fun _ => h2, h4⟩
        · rintro ⟨h1, h2, h4⟩; exact ⟨⟨h1, h2 htv⟩, h4⟩
    · rw [if_neg htv] at hat
      obtain ⟨r0, r1, r3, r2, r4⟩ := ih (upd (setP n a c) ss u) (fun x hx => by rw [hl]; exact hu x (List.mem_cons_of_mem _ hx)) v (by rw [hat]; exact h3)
      rw [hat] at r0 r1 r2 r4
      refine ⟨r0, r1, r3, fun p => ?_, ?_⟩
      · rw [r2 p]
        simp only [List.mem_cons, forall_eq_or_imp]
        constructor
        · rintro ⟨h1, h2⟩; exact ⟨h1, fun h => absurd h htv, h2⟩
        · rintro ⟨h1, h2, h4⟩; exact ⟨h1, h4⟩
      · rw [r4]
        simp only [List.mem_cons, forall_eq_or_imp]
        constructor
        · rintro ⟨h1, h2⟩; exact ⟨h1, fun h => absurd h htv, h2⟩
        · rintro ⟨h1, h2, h4⟩; exact ⟨h1, h4⟩

theorem mem_turned (fl : Bool) (us : List Up) (u : Up) : u ∈ turned fl us ↔ u ∈ us := by
  unfold turned; cases fl <;> simp

/-- What a run of Set holds at the head of each round. -/
structure SetInv (n a c : Nat) (es : List Ed) (ss : List St) : Prop where
  len : ss.length = n
  rest : ∀ v, v < n → (stAt ss v).a2 = 18446744073709551615 ∧ (stAt ss v).a3 = 0
  stage : ∀ v, v < n → (stAt ss v).a1 ≤ 2
  right : ∀ v, v < n → (stAt ss v).a1 ≠ 0 → (stAt ss v).a0 = inAt (firstL n a c es n) v
  one : ∀ v, v < n → (stAt ss v).a1 = 1 → InF n a c es v
  told : ∀ v, v < n → (stAt ss v).a1 = 2 → InF n a c es v → ∀ u, u < n → nearB es v u = true → (stAt ss u).a1 ≠ 0

theorem set_round {n a c : Nat} (hr : RankOk n a c) {es : List Ed} (hes : ∀ e, e ∈ es → e.src < n ∧ e.dst < n) {ss : List St} (hI : SetInv n a c es ss) (fl : Bool) (k : Ct) (g : St) (r : Nat)
    (hlow : ∀ v, v < n → plc n a c v < r → (stAt ss v).a1 ≠ 0) :
    SetInv n a c es (roundS (setP n a c) n es fl k g ss) ∧ ∀ v, v < n → plc n a c v < r + 1 → (stAt (roundS (setP n a c) n es fl k g ss) v).a1 ≠ 0 := by
  have hus : ∀ u, u ∈ turned fl (sends (setP n a c) k ss es) → u.t < ss.length ∧ u.b ≤ 1 := by
    intro u hu
    rw [mem_turned] at hu
    refine ⟨by rw [hI.len]; exact sends_to _ _ _ _ _ hes u hu, ?_⟩
    obtain ⟨x, _, _, h⟩ := (mem_sends _ _ _ _ _ _ _).1 hu
    rw [h]; unfold upOf; simp only []; split <;> omega
  have hnear : ∀ v x, nearB es v x = true → v < n ∧ x < n := by
    intro v x h
    obtain ⟨_, e, he, h⟩ := (nearB_iff _ _ _).1 h
    have := hes e he
    rcases h with ⟨h1, h2⟩ | ⟨h1, h2⟩ <;> omega
  -- what is gathered
  have hG : ∀ v, v < n → (stAt (gatherU (setP n a c) ss (turned fl (sends (setP n a c) k ss es))) v).a0 = (stAt ss v).a0 ∧
      (stAt (gatherU (setP n a c) ss (turned fl (sends (setP n a c) k ss es))) v).a1 = (stAt ss v).a1 ∧
      ((stAt (gatherU (setP n a c) ss (turned fl (sends (setP n a c) k ss es))) v).a3 = 0 ↔ ∀ x, nearB es v x = true → (stAt ss x).a1 ≠ 1) ∧
      (plc n a c v < (stAt (gatherU (setP n a c) ss (turned fl (sends (setP n a c) k ss es))) v).a2 ↔ ∀ x, nearB es v x = true → (stAt ss x).a1 = 0 → plc n a c v < plc n a c x) := by
    intro v hv
    obtain ⟨q2, q3⟩ := hI.rest v hv
    obtain ⟨r0, r1, _, r2, r4⟩ := gather_set n a c _ ss hus v (by omega)
    refine ⟨r0, r1, ?_, ?_⟩
    · rw [r4, q3]
      constructor
      · rintro ⟨_, h⟩ x hx h1
        have := h (upOf n a c ss v x) ((mem_turned _ _ _).2 ((mem_sends _ _ _ _ _ _ _).2 ⟨x, hx, by omega, rfl⟩)) rfl
        unfold upOf at this; simp [h1] at this
      · intro h
        refine ⟨rfl, fun u hu htv => ?_⟩
        obtain ⟨x, hx, h1, h2⟩ := (mem_sends _ _ _ _ _ _ _).1 ((mem_turned _ _ _).1 hu)
        rw [htv] at hx
        rw [h2]; unfold upOf; simp only []; rw [if_neg (h x hx)]
    · rw [r2, q2]
      have hp := plc_lt hr v
      have hn2 := hr.2.1
      constructor
      · rintro ⟨_, h⟩ x hx h0
        have := h (upOf n a c ss v x) ((mem_turned _ _ _).2 ((mem_sends _ _ _ _ _ _ _).2 ⟨x, hx, by omega, rfl⟩)) rfl
        unfold upOf at this; simp only [] at this; rw [if_neg (by omega)] at this; exact this
      · intro h
        refine ⟨by omega, fun u hu htv => ?_⟩
        obtain ⟨x, hx, h1, h2⟩ := (mem_sends _ _ _ _ _ _ _).1 ((mem_turned _ _ _).1 hu)
        rw [htv] at hx
        rw [h2]; unfold upOf; simp only []
        split
        · omega
        · exact h x hx (by omega)
  -- the new state
  have hA : ∀ v, v < n → stAt (roundS (setP n a c) n es fl k g ss) v = ⟨(applyV n a c v (stAt (gatherU (setP n a c) ss (turned fl (sends (setP n a c) k ss es))) v).a0 (stAt (gatherU (setP n a c) ss (turned fl (sends (setP n a c) k ss es))) v).a1 (stAt (gatherU (setP n a c) ss (turned fl (sends (setP n a c) k ss es))) v).a2 (stAt (gatherU (setP n a c) ss (turned fl (sends (setP n a c) k ss es))) v).a3).1,
      (applyV n a c v (stAt (gatherU (setP n a c) ss (turned fl (sends (setP n a c) k ss es))) v).a0 (stAt (gatherU (setP n a c) ss (turned fl (sends (setP n a c) k ss es))) v).a1 (stAt (gatherU (setP n a c) ss (turned fl (sends (setP n a c) k ss es))) v).a2 (stAt (gatherU (setP n a c) ss (turned fl (sends (setP n a c) k ss es))) v).a3).2.1, 18446744073709551615, 0, 0, 0, 0, 0⟩ := by
    intro v hv
    unfold roundS
    rw [appL_at _ _ _ _ _ _ _ hv, if_pos hv]; rfl
  -- the five cases of a vertex
  have hcase : ∀ v, v < n → ((stAt ss v).a1 ≠ 0 ∧ (stAt (roundS (setP n a c) n es fl k g ss) v).a1 = 2 ∧ (stAt (roundS (setP n a c) n es fl k g ss) v).a0 = (stAt ss v).a0) ∨
      ((stAt ss v).a1 = 0 ∧ (∃ x, nearB es v x = true ∧ (stAt ss x).a1 = 1) ∧ (stAt (roundS (setP n a c) n es fl k g ss) v).a1 = 2 ∧ (stAt (roundS (setP n a c) n es fl k g ss) v).a0 = 0) ∨
      ((stAt ss v).a1 = 0 ∧ (∀ x, nearB es v x = true → (stAt ss x).a1 ≠ 1) ∧ (∀ x, nearB es v x = true → (stAt ss x).a1 = 0 → plc n a c v < plc n a c x) ∧ (stAt (roundS (setP n a c) n es fl k g ss) v).a1 = 1 ∧ (stAt (roundS (setP n a c) n es fl k g ss) v).a0 = 1) ∨
      ((stAt ss v).a1 = 0 ∧ (∃ x, nearB es v x = true ∧ (stAt ss x).a1 = 0 ∧ plc n a c x ≤ plc n a c v) ∧ (stAt (roundS (setP n a c) n es fl k g ss) v).a1 = 0) := by
    intro v hv
    obtain ⟨g0, g1, g3, g2⟩ := hG v hv
    have ha := hA v hv
    by_cases h1 : (stAt ss v).a1 = 0
    · right
      by_cases h3 : (stAt (gatherU (setP n a c) ss (turned fl (sends (setP n a c) k ss es))) v).a3 = 0
      · right
        have h3' := g3.1 h3
        by_cases h2 : plc n a c v < (stAt (gatherU (setP n a c) ss (turned fl (sends (setP n a c) k ss es))) v).a2
        · left
          refine ⟨h1, h3', g2.1 h2, ?_, ?_⟩
          · rw [ha]; unfold applyV; rw [if_neg (by omega), if_neg (by omega), if_pos (show (a * v + c) % n < _ from h2)]
          · rw [ha]; unfold applyV; rw [if_neg (by omega), if_neg (by omega), if_pos (show (a * v + c) % n < _ from h2)]
        · right
          refine ⟨h1, ?_, ?_⟩
          · apply Classical.byContradiction
            intro hno
            apply h2
            rw [g2]
            intro x hx h0
            apply Classical.byContradiction
            intro hq
            exact hno ⟨x, hx, h0, by omega⟩
          · rw [ha]; unfold applyV; rw [if_neg (by omega), if_neg (by omega), if_neg (show ¬ (a * v + c) % n < _ from h2)]
      · left
        refine ⟨h1, ?_, ?_, ?_⟩
        · apply Classical.byContradiction
          intro hno
          apply h3
          rw [g3]
          intro x hx hq
          exact hno ⟨x, hx, hq⟩
        · rw [ha]; unfold applyV; rw [if_neg (by omega), if_pos h3]
        · rw [ha]; unfold applyV; rw [if_neg (by omega), if_pos h3]
    · left
      refine ⟨h1, ?_, ?_⟩
      · rw [ha]; unfold applyV; rw [if_pos (by omega)]
      · rw [ha]; unfold applyV; rw [if_pos (by omega)]; exact g0
  have hthird : ∀ v, v < n → (∀ x, nearB es v x = true → (stAt ss x).a1 ≠ 1) → (∀ x, nearB es v x = true → (stAt ss x).a1 = 0 → plc n a c v < plc n a c x) → (stAt ss v).a1 = 0 → InF n a c es v := by
    intro v hv h1 h2 h0
    rw [inF_iff hr es hv]
    intro u hu hpu hnu hF
    have hst := hI.stage u hu
    have hu0 : (stAt ss u).a1 ≠ 0 := fun h => by have := h2 u hnu h; omega
    have hu1 := h1 u hnu
    exact hI.told u hu (by omega) hF v hv (nearB_symm _ _ _ hnu) h0
  have hsecond : ∀ v, v < n → (∃ x, nearB es v x = true ∧ (stAt ss x).a1 = 1) → ¬ InF n a c es v := by
    rintro v hv ⟨x, hx, h1⟩ hF
    have hxn := (hnear v x hx).2
    exact inF_apart hr es hv hxn hx hF (hI.one x hxn h1)
  refine ⟨⟨?_, ?_, ?_, ?_, ?_, ?_⟩, ?_⟩
  · unfold roundS; rw [appL_len]
  · intro v hv; rw [hA v hv]; exact ⟨rfl, rfl⟩
  · intro v hv
    rcases hcase v hv with ⟨_, h, _⟩ | ⟨_, _, h, _⟩ | ⟨_, _, _, h, _⟩ | ⟨_, _, h⟩ <;> omega
  · intro v hv hne
    rcases hcase v hv with ⟨h0, h, h1⟩ | ⟨_, hx, h, h1⟩ | ⟨h0, hx, hy, h, h1⟩ | ⟨_, _, h⟩
    · rw [h1]; exact hI.right v hv h0
    · rw [h1, inF_zero hr es hv (hsecond v hv hx)]
    · rw [h1]; exact (hthird v hv hx hy h0).symm
    · exact absurd h hne
  · intro v hv h1
    rcases hcase v hv with ⟨_, h, _⟩ | ⟨_, _, h, _⟩ | ⟨h0, hx, hy, _, _⟩ | ⟨_, _, h⟩
    · omega
    · omega
    · exact hthird v hv hx hy h0
    · omega
  · intro v hv h2 hF u hu hnu
    rcases hcase v hv with ⟨h0, _, _⟩ | ⟨_, hx, _, _⟩ | ⟨_, _, _, h, _⟩ | ⟨_, _, h⟩
    · have hst := hI.stage v hv
      rcases hcase u hu with ⟨_, h, _⟩ | ⟨_, _, h, _⟩ | ⟨_, _, _, h, _⟩ | ⟨hu0, hx, hu1⟩
      · omega
      · omega
      · omega
      · exfalso
        have hd : (stAt ss v).a1 = 1 ∨ (stAt ss v).a1 = 2 := by omega
        rcases hd with hd | hd
        · -- v tells u now
          obtain ⟨_, _, g3, _⟩ := hG u hu
          have ha := hA u hu
          have hg3 : (stAt (gatherU (setP n a c) ss (turned fl (sends (setP n a c) k ss es))) u).a3 ≠ 0 := fun h => g3.1 h v (nearB_symm _ _ _ hnu) hd
          obtain ⟨_, g1, _, _⟩ := hG u hu
          rw [ha] at hu1
          unfold applyV at hu1
          rw [if_neg (by omega), if_pos hg3] at hu1
          exact absurd hu1 (by simp)
        · exact hI.told v hv hd hF u hu hnu hu0
    · exact absurd hF (hsecond v hv hx)
    · omega
    · omega
  · intro v hv hpv h0
    rcases hcase v hv with ⟨_, h, _⟩ | ⟨_, _, h, _⟩ | ⟨_, _, _, h, _⟩ | ⟨h1, ⟨x, hx, hx0, hpx⟩, _⟩
    · omega
    · omega
    · omega
    · have hxn := (hnear v x hx).2
      have hne : v ≠ x := ((nearB_iff es v x).1 hx).1
      have hlt : plc n a c x ≠ plc n a c v := fun h => hne (plc_inj hr hv hxn h.symm)
      exact hlow x hxn (by omega) hx0

theorem fold_count (n a c : Nat) (l : List St) : ∀ g : St, g.a0 + l.length < 18446744073709551616 → (l.foldl (setP n a c).fold g).a0 = g.a0 + l.countP (fun s => s.a1 == 0) := by
  induction l with
  | nil => intro g _; rfl
  | cons s l ih =>
    intro g hg
    rw [List.length_cons] at hg
    rw [List.foldl_cons, List.countP_cons]
    have hf : ((setP n a c).fold g s).a0 = if s.a1 = 0 then (g.a0 + 1) % 18446744073709551616 else g.a0 := rfl
    by_cases h : s.a1 = 0
    · rw [if_pos h, Nat.mod_eq_of_lt (by omega)] at hf
      rw [ih _ (by omega), hf, if_pos (by simpa using h)]; omega
    · rw [if_neg h] at hf
      rw [ih _ (by omega), hf, if_neg (by simpa using h)]; omega

theorem done_iff (n a c : Nat) (es : List Ed) (fl : Nat → Bool) (k : Nat) (hn : n ≤ 65536) (hlen : (afterR (setP n a c) n es fl (k + 1)).ss.length = n) :
    doneR (setP n a c) n es fl k = true ↔ ∀ v, v < n → (stAt (afterR (setP n a c) n es fl (k + 1)).ss v).a1 ≠ 0 := by
  have hd : doneR (setP n a c) n es fl k = (((foldAll (setP n a c) (afterR (setP n a c) n es fl (k + 1)).ss).a0 : Int) == 0) := rfl
  rw [hd]
  have hc : (foldAll (setP n a c) (afterR (setP n a c) n es fl (k + 1)).ss).a0 = 0 + (afterR (setP n a c) n es fl (k + 1)).ss.countP (fun s => s.a1 == 0) :=
    fold_count n a c _ St.zero (by rw [hlen]; show 0 + n < _; omega)
  rw [hc]
  generalize (afterR (setP n a c) n es fl (k + 1)).ss = l at *
  have h1 : (((0 + l.countP (fun s => s.a1 == 0) : Nat) : Int) == 0) = true ↔ l.countP (fun s => s.a1 == 0) = 0 := by
    rw [beq_iff_eq]; omega
  rw [h1, List.countP_eq_zero]
  constructor
  · intro h v hv
    rw [stAt_get l v (by omega)]
    simpa using h l[v] (List.getElem_mem _)
  · intro h s hs
    obtain ⟨v, hv, rfl⟩ := List.getElem_of_mem hs
    have := h v (by omega)
    rw [stAt_get l v hv] at this
    simpa using this

theorem set_after {n a c : Nat} (hr : RankOk n a c) {es : List Ed} (hes : ∀ e, e ∈ es → e.src < n ∧ e.dst < n) (fl : Nat → Bool) : ∀ k, SetInv n a c es (afterR (setP n a c) n es fl k).ss ∧ ∀ v, v < n → plc n a c v < k → (stAt (afterR (setP n a c) n es fl k).ss v).a1 ≠ 0 := by
  intro k
  induction k with
  | zero =>
    have hs : ∀ v, v < n → stAt (afterR (setP n a c) n es fl 0).ss v = ⟨0, 0, 18446744073709551615, 0, 0, 0, 0, 0⟩ := by
      intro v hv
      show stAt (startL (setP n a c) (degs n es) n n) v = _
      rw [stAt_get _ v (by rw [startL_len]; exact hv)]
      simp only [startL, List.getElem_map, List.getElem_range]
      rw [if_pos hv]; rfl
    refine ⟨⟨startL_len _ _ _ _, fun v hv => by rw [hs v hv]; exact ⟨rfl, rfl⟩, fun v hv => by rw [hs v hv]; exact Nat.zero_le _, fun v hv h => by rw [hs v hv] at h; exact absurd rfl h, fun v hv h => by rw [hs v hv] at h; exact absurd h (by simp), fun v hv h => by rw [hs v hv] at h; exact absurd h (by simp)⟩, fun v hv h => absurd h (Nat.not_lt_zero _)⟩
  | succ k ih =>
    have := set_round hr hes ih.1 (fl k) (afterR (setP n a c) n es fl k).c (afterR (setP n a c) n es fl k).g k ih.2
    exact this

/-- A run of at most n rounds ends, with the first set. -/
theorem set_ends {n a c : Nat} (hr : RankOk n a c) (hn : n ≤ 65536) {es : List Ed} (hes : ∀ e, e ∈ es → e.src < n ∧ e.dst < n) (fl : Nat → Bool) {ss : List St} {rr : Nat} {dn : Bool} (h : RunEnds (setP n a c) n es fl n ss rr dn) :
    dn = true ∧ 1 ≤ rr ∧ ∀ v, v < n → (stAt ss v).a0 = inAt (firstL n a c es n) v := by
  rcases h with ⟨rfl, r, _, rfl, hd, _, rfl⟩ | ⟨_, _, hno, _⟩
  · refine ⟨rfl, by omega, ?_⟩
    have hI := (set_after hr hes fl (r + 1)).1
    have := (done_iff n a c es fl r hn hI.len).1 hd
    intro v hv
    exact hI.right v hv (this v hv)
  · exfalso
    have h1 := hr.1
    obtain ⟨hI, hl⟩ := set_after hr hes fl (n - 1 + 1)
    have := (done_iff n a c es fl (n - 1) hn hI.len).2 (fun v hv => hl v hv (by have := plc_lt hr v; omega))
    rw [hno (n - 1) (by omega)] at this
    exact absurd this (by simp)

/-- Free of neighbours that are in, just if in. -/
theorem free_iff {n a c : Nat} (hr : RankOk n a c) (es : List Ed) {v : Nat} (hv : v < n) : InF n a c es v ↔ ∀ u, u < n → nearB es v u = true → ¬ InF n a c es u := by
  constructor
  · intro h u hu hnu h2; exact inF_apart hr es hv hu hnu h h2
  · intro h; rw [inF_iff hr es hv]; intro u hu _ hnu; exact h u hu hnu

end Go.Proofs.Ytjmggfpomnnegaa
