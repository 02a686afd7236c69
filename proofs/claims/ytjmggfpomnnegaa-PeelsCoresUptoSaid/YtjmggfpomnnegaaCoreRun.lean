/-
  Core, with no program in sight: the rounds of a run end with the core numbers.
-/
import Derived.Test.YtjmggfpomnnegaaPlainCore
import Derived.Test.YtjmggfpomnnegaaCoreOk
namespace Go.Proofs.Ytjmggfpomnnegaa
open Go.RowKit

def sumA (us : List Up) (v : Nat) : Nat := (us.map fun u => if u.t = v then u.a else 0).sum
def sumB (us : List Up) (v : Nat) : Nat := (us.map fun u => if u.t = v then u.b else 0).sum

theorem sumA_turned (fl : Bool) (us : List Up) (v : Nat) : sumA (turned fl us) v = sumA us v := by
  unfold turned sumA; cases fl <;> simp [List.sum_reverse]
theorem sumB_turned (fl : Bool) (us : List Up) (v : Nat) : sumB (turned fl us) v = sumB us v := by
  unfold turned sumB; cases fl <;> simp [List.sum_reverse]
theorem sumA_append (a b : List Up) (v : Nat) : sumA (a ++ b) v = sumA a v + sumA b v := by unfold sumA; simp
theorem sumB_append (a b : List Up) (v : Nat) : sumB (a ++ b) v = sumB a v + sumB b v := by unfold sumB; simp

theorem stSet (ss : List St) (t v : Nat) (x : St) (ht : t < ss.length) : stAt (ss.set t x) v = if t = v then x else stAt ss v := by
  unfold stAt
  rw [List.getElem?_set]
  by_cases h : t = v
  · rw [if_pos h, if_pos h, if_pos ht]; rfl
  · rw [if_neg h, if_neg h]

theorem stOut (ss : List St) (v : Nat) (h : ss.length ≤ v) : stAt ss v = St.zero := by
  unfold stAt; rw [List.getElem?_eq_none h]; rfl

theorem gather_core (us : List Up) : ∀ (ss : List St), (∀ u, u ∈ us → u.t < ss.length) → ∀ v, (stAt ss v).a3 < 18446744073709551616 → (stAt ss v).a4 < 18446744073709551616 →
    (stAt (gatherU coreP ss us) v).a0 = (stAt ss v).a0 ∧ (stAt (gatherU coreP ss us) v).a1 = (stAt ss v).a1 ∧ (stAt (gatherU coreP ss us) v).a2 = (stAt ss v).a2 ∧
    (stAt (gatherU coreP ss us) v).a3 = ((stAt ss v).a3 + sumA us v) % 18446744073709551616 ∧ (stAt (gatherU coreP ss us) v).a4 = ((stAt ss v).a4 + sumB us v) % 18446744073709551616 := by
  induction us with
  | nil =>
    intro ss _ v h3 h4
    refine ⟨rfl, rfl, rfl, ?_, ?_⟩
    · show (stAt ss v).a3 = ((stAt ss v).a3 + 0) % _; omega
    · show (stAt ss v).a4 = ((stAt ss v).a4 + 0) % _; omega
  | cons u us ih =>
    intro ss hu v h3 h4
    have hu0 := hu u List.mem_cons_self
    have hU : gatherU coreP ss (u :: us) = gatherU coreP (upd coreP ss u) us := rfl
    have hat : stAt (upd coreP ss u) v = if u.t = v then ⟨(stAt ss u.t).a0, (stAt ss u.t).a1, (stAt ss u.t).a2, ((stAt ss u.t).a3 + u.a) % 18446744073709551616, ((stAt ss u.t).a4 + u.b) % 18446744073709551616, (stAt ss u.t).a5, (stAt ss u.t).a6, (stAt ss u.t).a7⟩ else stAt ss v := stSet ss u.t v _ hu0
    have hl : (upd coreP ss u).length = ss.length := upd_len _ _ _
    have sA : sumA (u :: us) v = (if u.t = v then u.a else 0) + sumA us v := by unfold sumA; simp
    have sB : sumB (u :: us) v = (if u.t = v then u.b else 0) + sumB us v := by unfold sumB; simp
    rw [hU, sA, sB]
    by_cases htv : u.t = v
    · rw [if_pos htv, htv] at hat
      rw [if_pos htv, if_pos htv]
      obtain ⟨r0, r1, r2, r3, r4⟩ := ih (upd coreP ss u) (fun x hx => by rw [hl]; exact hu x (List.mem_cons_of_mem _ hx)) v (by rw [hat]; exact Nat.mod_lt _ (by omega)) (by rw [hat]; exact Nat.mod_lt _ (by omega))
      rw [hat] at r0 r1 r2 r3 r4
      refine ⟨r0, r1, r2, ?_, ?_⟩
      · rw [r3]; simp only []; omega
      · rw [r4]; simp only []; omega
    · rw [if_neg htv] at hat
      rw [if_neg htv, if_neg htv]
      obtain ⟨r0, r1, r2, r3, r4⟩ := ih (upd coreP ss u) (fun x hx => by rw [hl]; exact hu x (List.mem_cons_of_mem _ hx)) v (by rw [hat]; exact h3) (by rw [hat]; exact h4)
      rw [hat] at r0 r1 r2 r3 r4
      exact ⟨r0, r1, r2, by rw [r3, Nat.zero_add], by rw [r4, Nat.zero_add]⟩

def isD (ss : List St) (u : Nat) : Bool := (stAt ss u).a1 == 1
def opn (n : Nat) (ss : List St) (u : Nat) : Bool := decide (u < n) && (stAt ss u).a1 == 0
def od (n : Nat) (ss : List St) (u : Nat) : Bool := opn n ss u || isD ss u

theorem sendF_core (c : Ct) (ss : List St) (e : Ed) : sendF coreP c ss e = if e.src = e.dst then (if c.k0 = 0 then [⟨e.dst, 0, 1⟩] else []) else (if (stAt ss e.src).a1 = 1 then [⟨e.dst, 1, 0⟩] else []) := by
  unfold sendF
  show (if (cscat c.k0 (stAt ss e.src).a1 ((e.src : Int) == e.dst)).2.2 = true then [(⟨e.dst, (cscat c.k0 (stAt ss e.src).a1 ((e.src : Int) == e.dst)).1, (cscat c.k0 (stAt ss e.src).a1 ((e.src : Int) == e.dst)).2.1⟩ : Up)] else []) = _
  by_cases h : e.src = e.dst
  · have hb : ((e.src : Int) == e.dst) = true := by rw [beq_iff_eq]; omega
    rw [hb, if_pos h]
    unfold cscat
    by_cases h0 : c.k0 = 0 <;> simp [h0]
  · have hb : ((e.src : Int) == e.dst) = false := by rw [beq_eq_false_iff_ne]; omega
    rw [hb, if_neg h]
    unfold cscat
    by_cases h0 : (stAt ss e.src).a1 = 1 <;> simp [h0]

theorem sendB_core (c : Ct) (ss : List St) (e : Ed) : sendB coreP c ss e = if e.src = e.dst then (if c.k0 = 0 then [⟨e.src, 0, 1⟩] else []) else (if (stAt ss e.dst).a1 = 1 then [⟨e.src, 1, 0⟩] else []) := by
  unfold sendB
  show (if (cscat c.k0 (stAt ss e.dst).a1 ((e.src : Int) == e.dst)).2.2 = true then [(⟨e.src, (cscat c.k0 (stAt ss e.dst).a1 ((e.src : Int) == e.dst)).1, (cscat c.k0 (stAt ss e.dst).a1 ((e.src : Int) == e.dst)).2.1⟩ : Up)] else []) = _
  by_cases h : e.src = e.dst
  · have hb : ((e.src : Int) == e.dst) = true := by rw [beq_iff_eq]; omega
    rw [hb, if_pos h]
    unfold cscat
    by_cases h0 : c.k0 = 0 <;> simp [h0]
  · have hb : ((e.src : Int) == e.dst) = false := by rw [beq_eq_false_iff_ne]; omega
    rw [hb, if_neg h]
    unfold cscat
    by_cases h0 : (stAt ss e.dst).a1 = 1 <;> simp [h0]

theorem sum_sends (c : Ct) (ss : List St) (es : List Ed) (v : Nat) : sumA (sends coreP c ss es) v = toD es (isD ss) v ∧ sumB (sends coreP c ss es) v = if c.k0 = 0 then 2 * loopC es v else 0 := by
  induction es with
  | nil => exact ⟨rfl, by split <;> rfl⟩
  | cons e es ih =>
    obtain ⟨i1, i2⟩ := ih
    have hs : sends coreP c ss (e :: es) = (sendF coreP c ss e ++ sendB coreP c ss e) ++ sends coreP c ss es := by unfold sends; rw [List.flatMap_cons]
    have hT : toD (e :: es) (isD ss) v = toD es (isD ss) v + if (e.src != e.dst && ((isD ss e.src && e.dst == v) || (isD ss e.dst && e.src == v))) = true then 1 else 0 := by unfold toD; rw [List.countP_cons]
    have hL : loopC (e :: es) v = loopC es v + if (e.src == e.dst && e.src == v) = true then 1 else 0 := by unfold loopC; rw [List.countP_cons]
    rw [hs, sumA_append, sumA_append, sumB_append, sumB_append, i1, i2, hT, hL, sendF_core, sendB_core]
    by_cases h : e.src = e.dst
    · rw [if_pos h, if_pos h]
      by_cases h0 : c.k0 = 0
      · rw [if_pos h0, if_pos h0, if_pos h0, if_pos h0]
        by_cases hv : e.src = v
        · have hd : e.dst = v := by rw [← h]; exact hv
          simp [sumA, sumB, hv, hd]; omega
        · have hd : ¬ e.dst = v := by rw [← h]; exact hv
          simp [sumA, sumB, hd, h]
      · rw [if_neg h0, if_neg h0, if_neg h0, if_neg h0]
        simp [sumA, sumB, h]
    · rw [if_neg h, if_neg h]
      have hD : ∀ u, isD ss u = decide ((stAt ss u).a1 = 1) := fun u => by unfold isD; rw [Bool.eq_iff_iff]; simp
      rw [hD, hD]
      by_cases hs1 : (stAt ss e.src).a1 = 1 <;> by_cases hd1 : (stAt ss e.dst).a1 = 1
      · by_cases hv : e.src = v
        · have hd : ¬ e.dst = v := fun hh => h (by rw [hv, hh])
          have hd' : ¬ v = e.dst := fun hh => hd hh.symm
          rw [hv] at hs1
          constructor <;> simp [sumA, sumB, hv, hd, hd', hs1, hd1] <;> omega
        · by_cases hd : e.dst = v
          · rw [hd] at hd1
            constructor <;> simp [sumA, sumB, hv, hd, hs1, hd1] <;> omega
          · constructor <;> simp [sumA, sumB, hv, hd, hs1, hd1, h]
      · by_cases hv : e.src = v
        · have hd : ¬ e.dst = v := fun hh => h (by rw [hv, hh])
          have hd' : ¬ v = e.dst := fun hh => hd hh.symm
          rw [hv] at hs1
          constructor <;> simp [sumA, sumB, hv, hd, hd', hs1, hd1]
        · by_cases hd : e.dst = v
          · rw [hd] at hd1
            constructor <;> simp [sumA, sumB, hv, hd, hs1, hd1] <;> omega
          · constructor <;> simp [sumA, sumB, hv, hd, hs1, hd1, h]
      · by_cases hv : e.src = v
        · have hd : ¬ e.dst = v := fun hh => h (by rw [hv, hh])
          have hd' : ¬ v = e.dst := fun hh => hd hh.symm
          rw [hv] at hs1
          constructor <;> simp [sumA, sumB, hv, hd', hs1, hd1] <;> omega
        · by_cases hd : e.dst = v
          · rw [hd] at hd1
            constructor <;> simp [sumA, sumB, hv, hd, hs1, hd1]
          · constructor <;> simp [sumA, sumB, hv, hs1, hd1, h]
      · constructor <;> simp [sumA, sumB, hs1, hd1, h]

end Go.Proofs.Ytjmggfpomnnegaa
