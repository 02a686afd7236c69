/-
  Core as a program of the run.
-/
import Derived.Test.YtjmggfpomnnegaaPeel
import Derived.Test.YtjmggfpomnnegaaFold
import Derived.Test.YtjmggfpomnnegaaMon
namespace Go.Proofs.Ytjmggfpomnnegaa
open Go.RowKit
set_option maxRecDepth 100000

def leftV (x y z : Nat) : Nat := (IntKind.u64.wrap (IntKind.u64.wrap ((x : Int) - y) - z)).toNat
theorem leftV_cast (x y z : Nat) : IntKind.u64.wrap (IntKind.u64.wrap ((x : Int) - y) - z) = ((leftV x y z : Nat) : Int) := by
  unfold leftV
  rw [Int.toNat_of_nonneg]
  rw [IntKind.wrap_u64]; omega
theorem leftV_eq (x y z : Nat) (h : y + z ≤ x) (hx : x < 18446744073709551616) : leftV x y z = x - y - z := by
  have h1 := leftV_cast x y z
  rw [IntKind.wrap_u64, IntKind.wrap_u64] at h1
  omega

def cscat (k0 s1 : Nat) (loop : Bool) : Nat × Nat × Bool :=
  if loop = true then (if k0 = 0 then (0, 1, true) else (0, 0, false)) else if s1 = 1 then (1, 0, true) else (0, 0, false)
def capp (c0 c1 s0 s1 l : Nat) : Nat × Nat × Bool :=
  if s1 ≠ 0 then (s0, 2, false) else if c0 = 0 then (s0, 0, true) else if l ≤ c1 then (c1, 1, true) else (s0, 0, false)
def cturn (k0 k1 g0 g1 g2 : Nat) : Nat × Nat × Bool :=
  if g0 = 0 then (k0, k1, true) else if g2 = 0 ∧ (k1 < g1 ∨ k0 = 0) then (1, g1, false) else (1, k1, false)

set_option maxHeartbeats 400000 in
theorem cstart_any (v : Value) (o i : Nat) (w : World) :
    Calls Try.prog 82 #[.agg #[], v, .agg #[.int .u64 o, .int .u64 i]] w fun e w' =>
      e = .returned (.tuple #[.agg #[.int .u64 0, .int .u64 0, .int .u64 ((o + i) % 18446744073709551616 : Nat), .int .u64 0, .int .u64 0, .int .u64 0, .int .u64 0, .int .u64 0], .int .i64 0]) ∧ Below w.heap.size w w' := by
  have hw : IntKind.u64.wrap ((o : Int) + i) = (((o + i) % 18446744073709551616 : Nat) : Int) := by rw [IntKind.wrap_u64]; omega
  go_enter Try.func82, Try.ntmps82
  go_wp2
  all_goals
    refine bodyPost_ret (v := .tuple #[.agg #[.int .u64 0, .int .u64 0, .int .u64 ((o + i) % 18446744073709551616 : Nat), .int .u64 0, .int .u64 0, .int .u64 0, .int .u64 0, .int .u64 0], .int .i64 0]) (by simp (maxDischargeDepth := 8) [results, Try.results82, go_sem]) rfl ⟨rfl, (by repeat (first | with_reducible exact Below.refl _ _ | with_reducible assumption | with_reducible refine below_drewN ?_ _ | with_reducible refine Below.drew ?_ | ((with_reducible refine Bset ?_ ?_); focus (first | omega | (simp; done) | (simp; omega))) | ((with_reducible refine Ball ?_ ?_); focus (first | omega | (simp; done) | (simp; omega)))))⟩

theorem csink_any (w : World) :
    Calls Try.prog 81 #[.agg #[]] w fun e w' => e = .returned (.agg #[.int .i64 3, .int .i64 5, .int .i64 4, .int .i64 5]) ∧ Below w.heap.size w w' := by
  go_enter Try.func81, Try.ntmps81
  go_wp2
  all_goals
    refine bodyPost_ret (v := .agg #[.int .i64 3, .int .i64 5, .int .i64 4, .int .i64 5]) (by simp (maxDischargeDepth := 8) [results, Try.results81, go_sem]) rfl ⟨rfl, (by repeat (first | with_reducible exact Below.refl _ _ | with_reducible assumption | with_reducible refine below_drewN ?_ _ | with_reducible refine Below.drew ?_ | ((with_reducible refine Bset ?_ ?_); focus (first | omega | (simp; done) | (simp; omega))) | ((with_reducible refine Ball ?_ ?_); focus (first | omega | (simp; done) | (simp; omega)))))⟩

set_option maxHeartbeats 400000 in
theorem cscat_any (k0 k1 k2 k3 s0 s1 s2 s3 s4 s5 s6 s7 v : Nat) (loop : Bool) (w : World) :
    Calls Try.prog 80 #[.agg #[], .agg #[.int .u64 k0, .int .u64 k1, .int .u64 k2, .int .u64 k3], .agg #[.int .u64 s0, .int .u64 s1, .int .u64 s2, .int .u64 s3, .int .u64 s4, .int .u64 s5, .int .u64 s6, .int .u64 s7], .int .u32 v, .bool loop] w fun e w' =>
      e = .returned (.tuple #[.int .u64 (cscat k0 s1 loop).1, .int .u64 (cscat k0 s1 loop).2.1, .bool (cscat k0 s1 loop).2.2, .int .i64 0]) ∧ Below w.heap.size w w' := by
  cases loop
  · by_cases h1 : s1 = 1
    · have hT : cscat k0 s1 false = (1, 0, true) := by unfold cscat; rw [if_neg (by simp), if_pos h1]
      rw [hT]
      clear hT
      subst h1
      go_enter Try.func80, Try.ntmps80
      go_wp2
      all_goals
        refine bodyPost_ret (v := .tuple #[.int .u64 1, .int .u64 0, .bool true, .int .i64 0]) (by simp (maxDischargeDepth := 8) [results, Try.results80, go_sem]) rfl ⟨rfl, (by repeat (first | with_reducible exact Below.refl _ _ | with_reducible assumption | with_reducible refine below_drewN ?_ _ | with_reducible refine Below.drew ?_ | ((with_reducible refine Bset ?_ ?_); focus (first | omega | (simp; done) | (simp; omega))) | ((with_reducible refine Ball ?_ ?_); focus (first | omega | (simp; done) | (simp; omega)))))⟩
    · have hT : cscat k0 s1 false = (0, 0, false) := by unfold cscat; rw [if_neg (by simp), if_neg h1]
      rw [hT]
      clear hT
      have h2 : ((s1 : Int) == 1) = false := by rw [beq_eq_false_iff_ne]; omega
      go_enter Try.func80, Try.ntmps80
      go_wp2
      all_goals
        refine bodyPost_ret (v := .tuple #[.int .u64 0, .int .u64 0, .bool false, .int .i64 0]) (by simp (maxDischargeDepth := 8) [results, Try.results80, go_sem]) rfl ⟨rfl, (by repeat (first | with_reducible exact Below.refl _ _ | with_reducible assumption | with_reducible refine below_drewN ?_ _ | with_reducible refine Below.drew ?_ | ((with_reducible refine Bset ?_ ?_); focus (first | omega | (simp; done) | (simp; omega))) | ((with_reducible refine Ball ?_ ?_); focus (first | omega | (simp; done) | (simp; omega)))))⟩
  · by_cases h1 : k0 = 0
    · have hT : cscat k0 s1 true = (0, 1, true) := by unfold cscat; rw [if_pos rfl, if_pos h1]
      rw [hT]
      clear hT
      subst h1
      go_enter Try.func80, Try.ntmps80
      go_wp2
      all_goals
        refine bodyPost_ret (v := .tuple #[.int .u64 0, .int .u64 1, .bool true, .int .i64 0]) (by simp (maxDischargeDepth := 8) [results, Try.results80, go_sem]) rfl ⟨rfl, (by repeat (first | with_reducible exact Below.refl _ _ | with_reducible assumption | with_reducible refine below_drewN ?_ _ | with_reducible refine Below.drew ?_ | ((with_reducible refine Bset ?_ ?_); focus (first | omega | (simp; done) | (simp; omega))) | ((with_reducible refine Ball ?_ ?_); focus (first | omega | (simp; done) | (simp; omega)))))⟩
    · have hT : cscat k0 s1 true = (0, 0, false) := by unfold cscat; rw [if_pos rfl, if_neg h1]
      rw [hT]
      clear hT
      have h2 : ((k0 : Int) == 0) = false := by rw [beq_eq_false_iff_ne]; omega
      go_enter Try.func80, Try.ntmps80
      go_wp2
      all_goals
        refine bodyPost_ret (v := .tuple #[.int .u64 0, .int .u64 0, .bool false, .int .i64 0]) (by simp (maxDischargeDepth := 8) [results, Try.results80, go_sem]) rfl ⟨rfl, (by repeat (first | with_reducible exact Below.refl _ _ | with_reducible assumption | with_reducible refine below_drewN ?_ _ | with_reducible refine Below.drew ?_ | ((with_reducible refine Bset ?_ ?_); focus (first | omega | (simp; done) | (simp; omega))) | ((with_reducible refine Ball ?_ ?_); focus (first | omega | (simp; done) | (simp; omega)))))⟩

set_option maxHeartbeats 1000000 in
theorem capp_any (k0 k1 k2 k3 s0 s1 s2 s3 s4 s5 s6 s7 : Nat) (v : Value) (w : World) :
    Calls Try.prog 78 #[.agg #[], .agg #[.int .u64 k0, .int .u64 k1, .int .u64 k2, .int .u64 k3], v, .agg #[.int .u64 s0, .int .u64 s1, .int .u64 s2, .int .u64 s3, .int .u64 s4, .int .u64 s5, .int .u64 s6, .int .u64 s7]] w fun e w' =>
      e = .returned (.tuple #[.agg #[.int .u64 (capp k0 k1 s0 s1 (leftV s2 s3 s4)).1, .int .u64 (capp k0 k1 s0 s1 (leftV s2 s3 s4)).2.1, .int .u64 (leftV s2 s3 s4), .int .u64 0, .int .u64 0, .int .u64 0, .int .u64 0, .int .u64 0], .bool (capp k0 k1 s0 s1 (leftV s2 s3 s4)).2.2, .int .i64 0]) ∧ Below w.heap.size w w' := by
  have hl := leftV_cast s2 s3 s4
  generalize leftV s2 s3 s4 = l at *
  by_cases h1 : s1 = 0
  · subst h1
    by_cases h2 : k0 = 0
    · have hT : capp k0 k1 s0 0 l = (s0, 0, true) := by unfold capp; rw [if_neg (by simp), if_pos h2]
      rw [hT]
      clear hT
      subst h2
      go_enter Try.func78, Try.ntmps78
      go_wp2
      all_goals
        refine bodyPost_ret (v := .tuple #[.agg #[.int .u64 s0, .int .u64 0, .int .u64 l, .int .u64 0, .int .u64 0, .int .u64 0, .int .u64 0, .int .u64 0], .bool true, .int .i64 0]) (by simp (maxDischargeDepth := 8) [results, Try.results78, go_sem]) rfl ⟨rfl, (by repeat (first | with_reducible exact Below.refl _ _ | with_reducible assumption | with_reducible refine below_drewN ?_ _ | with_reducible refine Below.drew ?_ | ((with_reducible refine Bset ?_ ?_); focus (first | omega | (simp; done) | (simp; omega))) | ((with_reducible refine Ball ?_ ?_); focus (first | omega | (simp; done) | (simp; omega)))))⟩
    · have h2' : ((k0 : Int) == 0) = false := by rw [beq_eq_false_iff_ne]; omega
      by_cases h3 : l ≤ k1
      · have hT : capp k0 k1 s0 0 l = (k1, 1, true) := by unfold capp; rw [if_neg (by simp), if_neg h2, if_pos h3]
        rw [hT]
        clear hT h2
        have h3' : (l : Int) ≤ k1 := by omega
        clear h3
        go_enter Try.func78, Try.ntmps78
        go_wp2
        all_goals
          refine bodyPost_ret (v := .tuple #[.agg #[.int .u64 k1, .int .u64 1, .int .u64 l, .int .u64 0, .int .u64 0, .int .u64 0, .int .u64 0, .int .u64 0], .bool true, .int .i64 0]) (by simp (maxDischargeDepth := 8) [results, Try.results78, go_sem]) rfl ⟨rfl, (by repeat (first | with_reducible exact Below.refl _ _ | with_reducible assumption | with_reducible refine below_drewN ?_ _ | with_reducible refine Below.drew ?_ | ((with_reducible refine Bset ?_ ?_); focus (first | omega | (simp; done) | (simp; omega))) | ((with_reducible refine Ball ?_ ?_); focus (first | omega | (simp; done) | (simp; omega)))))⟩
      · have hT : capp k0 k1 s0 0 l = (s0, 0, false) := by unfold capp; rw [if_neg (by simp), if_neg h2, if_neg h3]
        rw [hT]
        clear hT h2
        have h3' : ¬ (l : Int) ≤ k1 := by omega
        clear h3
        go_enter Try.func78, Try.ntmps78
        go_wp2
        all_goals
          refine bodyPost_ret (v := .tuple #[.agg #[.int .u64 s0, .int .u64 0, .int .u64 l, .int .u64 0, .int .u64 0, .int .u64 0, .int .u64 0, .int .u64 0], .bool false, .int .i64 0]) (by simp (maxDischargeDepth := 8) [results, Try.results78, go_sem]) rfl ⟨rfl, (by repeat (first | with_reducible exact Below.refl _ _ | with_reducible assumption | with_reducible refine below_drewN ?_ _ | with_reducible refine Below.drew ?_ | ((with_reducible refine Bset ?_ ?_); focus (first | omega | (simp; done) | (simp; omega))) | ((with_reducible refine Ball ?_ ?_); focus (first | omega | (simp; done) | (simp; omega)))))⟩
  · have hT : capp k0 k1 s0 s1 l = (s0, 2, false) := by unfold capp; rw [if_pos h1]
    rw [hT]
    clear hT
    have h1' : ((s1 : Int) != 0) = true := by simp; omega
    clear h1
    go_enter Try.func78, Try.ntmps78
    go_wp2
    all_goals
      refine bodyPost_ret (v := .tuple #[.agg #[.int .u64 s0, .int .u64 2, .int .u64 l, .int .u64 0, .int .u64 0, .int .u64 0, .int .u64 0, .int .u64 0], .bool false, .int .i64 0]) (by simp (maxDischargeDepth := 8) [results, Try.results78, go_sem]) rfl ⟨rfl, (by repeat (first | with_reducible exact Below.refl _ _ | with_reducible assumption | with_reducible refine below_drewN ?_ _ | with_reducible refine Below.drew ?_ | ((with_reducible refine Bset ?_ ?_); focus (first | omega | (simp; done) | (simp; omega))) | ((with_reducible refine Ball ?_ ?_); focus (first | omega | (simp; done) | (simp; omega)))))⟩

set_option maxHeartbeats 1000000 in
theorem cturn_any (k0 k1 k2 k3 g0 g1 g2 g3 g4 g5 g6 g7 : Nat) (w : World) :
    Calls Try.prog 83 #[.agg #[], .agg #[.int .u64 k0, .int .u64 k1, .int .u64 k2, .int .u64 k3], .agg #[.int .u64 g0, .int .u64 g1, .int .u64 g2, .int .u64 g3, .int .u64 g4, .int .u64 g5, .int .u64 g6, .int .u64 g7]] w fun e w' =>
      e = .returned (.tuple #[.agg #[.int .u64 (cturn k0 k1 g0 g1 g2).1, .int .u64 (cturn k0 k1 g0 g1 g2).2.1, .int .u64 k2, .int .u64 k3], .bool (cturn k0 k1 g0 g1 g2).2.2]) ∧ Below w.heap.size w w' := by
  by_cases h0 : g0 = 0
  · have hT : cturn k0 k1 g0 g1 g2 = (k0, k1, true) := by unfold cturn; rw [if_pos h0]
    rw [hT]
    clear hT
    subst h0
    go_enter Try.func83, Try.ntmps83
    go_wp2
    all_goals
      refine bodyPost_ret (v := .tuple #[.agg #[.int .u64 k0, .int .u64 k1, .int .u64 k2, .int .u64 k3], .bool true]) (by simp (maxDischargeDepth := 8) [results, Try.results83, go_sem]) rfl ⟨rfl, (by repeat (first | with_reducible exact Below.refl _ _ | with_reducible assumption | with_reducible refine below_drewN ?_ _ | with_reducible refine Below.drew ?_ | ((with_reducible refine Bset ?_ ?_); focus (first | omega | (simp; done) | (simp; omega))) | ((with_reducible refine Ball ?_ ?_); focus (first | omega | (simp; done) | (simp; omega)))))⟩
  · have h0' : ((g0 : Int) == 0) = false := by rw [beq_eq_false_iff_ne]; omega
    by_cases h2 : g2 = 0
    · subst h2
      by_cases h3 : k1 < g1
      · have hT : cturn k0 k1 g0 g1 0 = (1, g1, false) := by unfold cturn; rw [if_neg h0, if_pos ⟨rfl, Or.inl h3⟩]
        rw [hT]
        clear hT h0
        have h3' : (k1 : Int) < g1 := by omega
        clear h3
        go_enter Try.func83, Try.ntmps83
        go_wp2
        all_goals
          refine bodyPost_ret (v := .tuple #[.agg #[.int .u64 1, .int .u64 g1, .int .u64 k2, .int .u64 k3], .bool false]) (by simp (maxDischargeDepth := 8) [results, Try.results83, go_sem]) rfl ⟨rfl, (by repeat (first | with_reducible exact Below.refl _ _ | with_reducible assumption | with_reducible refine below_drewN ?_ _ | with_reducible refine Below.drew ?_ | ((with_reducible refine Bset ?_ ?_); focus (first | omega | (simp; done) | (simp; omega))) | ((with_reducible refine Ball ?_ ?_); focus (first | omega | (simp; done) | (simp; omega)))))⟩
      · have h3' : ¬ (k1 : Int) < g1 := by omega
        by_cases h4 : k0 = 0
        · have hT : cturn k0 k1 g0 g1 0 = (1, g1, false) := by unfold cturn; rw [if_neg h0, if_pos ⟨rfl, Or.inr h4⟩]
          rw [hT]
          clear hT h0 h3
          subst h4
          go_enter Try.func83, Try.ntmps83
          go_wp2
          all_goals
            refine bodyPost_ret (v := .tuple #[.agg #[.int .u64 1, .int .u64 g1, .int .u64 k2, .int .u64 k3], .bool false]) (by simp (maxDischargeDepth := 8) [results, Try.results83, go_sem]) rfl ⟨rfl, (by repeat (first | with_reducible exact Below.refl _ _ | with_reducible assumption | with_reducible refine below_drewN ?_ _ | with_reducible refine Below.drew ?_ | ((with_reducible refine Bset ?_ ?_); focus (first | omega | (simp; done) | (simp; omega))) | ((with_reducible refine Ball ?_ ?_); focus (first | omega | (simp; done) | (simp; omega)))))⟩
        · have hT : cturn k0 k1 g0 g1 0 = (1, k1, false) := by unfold cturn; rw [if_neg h0, if_neg (fun h => h.2.elim h3 h4)]
          rw [hT]
          clear hT h0 h3
          have h4' : ((k0 : Int) == 0) = false := by rw [beq_eq_false_iff_ne]; omega
          clear h4
          go_enter Try.func83, Try.ntmps83
          go_wp2
          all_goals
            refine bodyPost_ret (v := .tuple #[.agg #[.int .u64 1, .int .u64 k1, .int .u64 k2, .int .u64 k3], .bool false]) (by simp (maxDischargeDepth := 8) [results, Try.results83, go_sem]) rfl ⟨rfl, (by repeat (first | with_reducible exact Below.refl _ _ | with_reducible assumption | with_reducible refine below_drewN ?_ _ | with_reducible refine Below.drew ?_ | ((with_reducible refine Bset ?_ ?_); focus (first | omega | (simp; done) | (simp; omega))) | ((with_reducible refine Ball ?_ ?_); focus (first | omega | (simp; done) | (simp; omega)))))⟩
    · have hT : cturn k0 k1 g0 g1 g2 = (1, k1, false) := by unfold cturn; rw [if_neg h0, if_neg (fun h => h2 h.1)]
      rw [hT]
      clear hT h0
      have h2' : ((g2 : Int) == 0) = false := by rw [beq_eq_false_iff_ne]; omega
      clear h2
      go_enter Try.func83, Try.ntmps83
      go_wp2
      all_goals
        refine bodyPost_ret (v := .tuple #[.agg #[.int .u64 1, .int .u64 k1, .int .u64 k2, .int .u64 k3], .bool false]) (by simp (maxDischargeDepth := 8) [results, Try.results83, go_sem]) rfl ⟨rfl, (by repeat (first | with_reducible exact Below.refl _ _ | with_reducible assumption | with_reducible refine below_drewN ?_ _ | with_reducible refine Below.drew ?_ | ((with_reducible refine Bset ?_ ?_); focus (first | omega | (simp; done) | (simp; omega))) | ((with_reducible refine Ball ?_ ?_); focus (first | omega | (simp; done) | (simp; omega)))))⟩

def cfold0 (g0 s1 : Nat) : Nat := if s1 = 0 then (g0 + 1) % 18446744073709551616 else g0
def cfold1 (g0 g1 s1 s2 : Nat) : Nat := if s1 = 0 then (if g0 = 0 ∨ s2 < g1 then s2 else g1) else g1
def cfold2 (g2 s1 : Nat) : Nat := if s1 = 1 then (g2 + 1) % 18446744073709551616 else g2

set_option maxHeartbeats 1000000 in
theorem cfold_any (g0 g1 g2 g3 g4 g5 g6 g7 s0 s1 s2 s3 s4 s5 s6 s7 : Nat) (w : World) :
    Calls Try.prog 79 #[.agg #[], .agg #[.int .u64 g0, .int .u64 g1, .int .u64 g2, .int .u64 g3, .int .u64 g4, .int .u64 g5, .int .u64 g6, .int .u64 g7], .agg #[.int .u64 s0, .int .u64 s1, .int .u64 s2, .int .u64 s3, .int .u64 s4, .int .u64 s5, .int .u64 s6, .int .u64 s7]] w fun e w' =>
      e = .returned (.agg #[.int .u64 (cfold0 g0 s1), .int .u64 (cfold1 g0 g1 s1 s2), .int .u64 (cfold2 g2 s1), .int .u64 g3, .int .u64 g4, .int .u64 g5, .int .u64 g6, .int .u64 g7]) ∧ Below w.heap.size w w' := by
  have hw0 : IntKind.u64.wrap ((g0 : Int) + 1) = (((g0 + 1) % 18446744073709551616 : Nat) : Int) := by rw [IntKind.wrap_u64]; omega
  have hw2 : IntKind.u64.wrap ((g2 : Int) + 1) = (((g2 + 1) % 18446744073709551616 : Nat) : Int) := by rw [IntKind.wrap_u64]; omega
  by_cases h1 : s1 = 0
  · subst h1
    have e0 : cfold0 g0 0 = (g0 + 1) % 18446744073709551616 := rfl
    have e2 : cfold2 g2 0 = g2 := rfl
    rw [e0, e2]
    clear e0 e2
    generalize (g0 + 1) % 18446744073709551616 = y0 at *
    generalize (g2 + 1) % 18446744073709551616 = y2 at *
    by_cases h0 : g0 = 0
    · have e1 : cfold1 g0 g1 0 s2 = s2 := by unfold cfold1; rw [if_pos rfl, if_pos (Or.inl h0)]
      rw [e1]
      clear e1
      have h0' : ((g0 : Int) == 0) = true := by rw [beq_iff_eq]; omega
      clear h0
      go_enter Try.func79, Try.ntmps79
      go_wp2
      all_goals
        refine bodyPost_ret (v := .agg #[.int .u64 y0, .int .u64 s2, .int .u64 g2, .int .u64 g3, .int .u64 g4, .int .u64 g5, .int .u64 g6, .int .u64 g7]) (by simp (maxDischargeDepth := 8) [results, Try.results79, go_sem]) rfl ⟨rfl, (by repeat (first | with_reducible exact Below.refl _ _ | with_reducible assumption | with_reducible refine below_drewN ?_ _ | with_reducible refine Below.drew ?_ | ((with_reducible refine Bset ?_ ?_); focus (first | omega | (simp; done) | (simp; omega))) | ((with_reducible refine Ball ?_ ?_); focus (first | omega | (simp; done) | (simp; omega)))))⟩
    · have h0' : ((g0 : Int) == 0) = false := by rw [beq_eq_false_iff_ne]; omega
      by_cases h2 : s2 < g1
      · have e1 : cfold1 g0 g1 0 s2 = s2 := by unfold cfold1; rw [if_pos rfl, if_pos (Or.inr h2)]
        rw [e1]
        clear e1 h0
        have h2' : (s2 : Int) < g1 := by omega
        clear h2
        go_enter Try.func79, Try.ntmps79
        go_wp2
        all_goals
          refine bodyPost_ret (v := .agg #[.int .u64 y0, .int .u64 s2, .int .u64 g2, .int .u64 g3, .int .u64 g4, .int .u64 g5, .int .u64 g6, .int .u64 g7]) (by simp (maxDischargeDepth := 8) [results, Try.results79, go_sem]) rfl ⟨rfl, (by repeat (first | with_reducible exact Below.refl _ _ | with_reducible assumption | with_reducible refine below_drewN ?_ _ | with_reducible refine Below.drew ?_ | ((with_reducible refine Bset ?_ ?_); focus (first | omega | (simp; done) | (simp; omega))) | ((with_reducible refine Ball ?_ ?_); focus (first | omega | (simp; done) | (simp; omega)))))⟩
      · have e1 : cfold1 g0 g1 0 s2 = g1 := by unfold cfold1; rw [if_pos rfl, if_neg (fun h => h.elim h0 h2)]
        rw [e1]
        clear e1 h0
        have h2' : ¬ (s2 : Int) < g1 := by omega
        clear h2
        go_enter Try.func79, Try.ntmps79
        go_wp2
        all_goals
          refine bodyPost_ret (v := .agg #[.int .u64 y0, .int .u64 g1, .int .u64 g2, .int .u64 g3, .int .u64 g4, .int .u64 g5, .int .u64 g6, .int .u64 g7]) (by simp (maxDischargeDepth := 8) [results, Try.results79, go_sem]) rfl ⟨rfl, (by repeat (first | with_reducible exact Below.refl _ _ | with_reducible assumption | with_reducible refine below_drewN ?_ _ | with_reducible refine Below.drew ?_ | ((with_reducible refine Bset ?_ ?_); focus (first | omega | (simp; done) | (simp; omega))) | ((with_reducible refine Ball ?_ ?_); focus (first | omega | (simp; done) | (simp; omega)))))⟩
  · have e0 : cfold0 g0 s1 = g0 := by unfold cfold0; rw [if_neg h1]
    have e1 : cfold1 g0 g1 s1 s2 = g1 := by unfold cfold1; rw [if_neg h1]
    rw [e0, e1]
    clear e0 e1
    by_cases h2 : s1 = 1
    · subst h2
      have e2 : cfold2 g2 1 = (g2 + 1) % 18446744073709551616 := rfl
      rw [e2]
      clear e2
      generalize (g0 + 1) % 18446744073709551616 = y0 at *
      generalize (g2 + 1) % 18446744073709551616 = y2 at *
      go_enter Try.func79, Try.ntmps79
      go_wp2
      all_goals
        refine bodyPost_ret (v := .agg #[.int .u64 g0, .int .u64 g1, .int .u64 y2, .int .u64 g3, .int .u64 g4, .int .u64 g5, .int .u64 g6, .int .u64 g7]) (by simp (maxDischargeDepth := 8) [results, Try.results79, go_sem]) rfl ⟨rfl, (by repeat (first | with_reducible exact Below.refl _ _ | with_reducible assumption | with_reducible refine below_drewN ?_ _ | with_reducible refine Below.drew ?_ | ((with_reducible refine Bset ?_ ?_); focus (first | omega | (simp; done) | (simp; omega))) | ((with_reducible refine Ball ?_ ?_); focus (first | omega | (simp; done) | (simp; omega)))))⟩
    · have e2 : cfold2 g2 s1 = g2 := by unfold cfold2; rw [if_neg h2]
      rw [e2]
      clear e2
      have h1' : ((s1 : Int) == 0) = false := by rw [beq_eq_false_iff_ne]; omega
      have h2' : ((s1 : Int) == 1) = false := by rw [beq_eq_false_iff_ne]; omega
      clear h1 h2
      go_enter Try.func79, Try.ntmps79
      go_wp2
      all_goals
        refine bodyPost_ret (v := .agg #[.int .u64 g0, .int .u64 g1, .int .u64 g2, .int .u64 g3, .int .u64 g4, .int .u64 g5, .int .u64 g6, .int .u64 g7]) (by simp (maxDischargeDepth := 8) [results, Try.results79, go_sem]) rfl ⟨rfl, (by repeat (first | with_reducible exact Below.refl _ _ | with_reducible assumption | with_reducible refine below_drewN ?_ _ | with_reducible refine Below.drew ?_ | ((with_reducible refine Bset ?_ ?_); focus (first | omega | (simp; done) | (simp; omega))) | ((with_reducible refine Ball ?_ ?_); focus (first | omega | (simp; done) | (simp; omega)))))⟩

/-- Core. -/
def coreP : Prg where
  start _ o i := ⟨0, 0, (o + i) % 18446744073709551616, 0, 0, 0, 0, 0⟩
  scat c s src dst _ := cscat c.k0 s.a1 ((src : Int) == dst)
  app c _ _ s := (⟨(capp c.k0 c.k1 s.a0 s.a1 (leftV s.a2 s.a3 s.a4)).1, (capp c.k0 c.k1 s.a0 s.a1 (leftV s.a2 s.a3 s.a4)).2.1, leftV s.a2 s.a3 s.a4, 0, 0, 0, 0, 0⟩, (capp c.k0 c.k1 s.a0 s.a1 (leftV s.a2 s.a3 s.a4)).2.2)
  fold g s := ⟨cfold0 g.a0 s.a1, cfold1 g.a0 g.a1 s.a1 s.a2, cfold2 g.a2 s.a1, g.a3, g.a4, g.a5, g.a6, g.a7⟩
  turn c g := (⟨(cturn c.k0 c.k1 g.a0 g.a1 g.a2).1, (cturn c.k0 c.k1 g.a0 g.a1 g.a2).2.1, c.k2, c.k3⟩, (cturn c.k0 c.k1 g.a0 g.a1 g.a2).2.2)
  sA := 3
  mA := 5
  sB := 4
  mB := 5
  monA s y := ⟨s.a0, s.a1, s.a2, (s.a3 + y) % 18446744073709551616, s.a4, s.a5, s.a6, s.a7⟩
  monB s y := ⟨s.a0, s.a1, s.a2, s.a3, (s.a4 + y) % 18446744073709551616, s.a5, s.a6, s.a7⟩

theorem coreP_ok (n : Nat) : PrgOk coreP (.iface 105 (.agg #[])) n where
  start := fun pb v o i w hp _ => core_start pb _ _ _ 0 0 ((o + i) % 18446744073709551616) 0 0 0 0 0 w hp (fun w => cstart_any _ o i w)
  scat := fun pb k s src dst x back w hp h1 h2 => by
    cases back
    · exact core_scatter_false pb k.k0 k.k1 k.k2 k.k3 s.a0 s.a1 s.a2 s.a3 s.a4 s.a5 s.a6 s.a7 src dst x _ _ _ w hp (fun w => cscat_any k.k0 k.k1 k.k2 k.k3 s.a0 s.a1 s.a2 s.a3 s.a4 s.a5 s.a6 s.a7 src _ w)
    · exact core_scatter_true pb k.k0 k.k1 k.k2 k.k3 s.a0 s.a1 s.a2 s.a3 s.a4 s.a5 s.a6 s.a7 src dst x _ _ _ w hp (fun w => cscat_any k.k0 k.k1 k.k2 k.k3 s.a0 s.a1 s.a2 s.a3 s.a4 s.a5 s.a6 s.a7 dst _ w)
  app := fun pb k g s v w hp hv => core_apply pb _ k.k0 k.k1 k.k2 k.k3 g.a0 g.a1 g.a2 g.a3 g.a4 g.a5 g.a6 g.a7 s.a0 s.a1 s.a2 s.a3 s.a4 s.a5 s.a6 s.a7 _ _ _ 0 0 0 0 0 _ w hp (fun w => capp_any k.k0 k.k1 k.k2 k.k3 s.a0 s.a1 s.a2 s.a3 s.a4 s.a5 s.a6 s.a7 _ w)
  fold := fun pb k g s v w hp => core_fold pb _ k.k0 k.k1 k.k2 k.k3 g.a0 g.a1 g.a2 g.a3 g.a4 g.a5 g.a6 g.a7 s.a0 s.a1 s.a2 s.a3 s.a4 s.a5 s.a6 s.a7 _ _ _ _ _ _ _ _ w hp (fun w => cfold_any g.a0 g.a1 g.a2 g.a3 g.a4 g.a5 g.a6 g.a7 s.a0 s.a1 s.a2 s.a3 s.a4 s.a5 s.a6 s.a7 w)
  turn := fun pb k g x y w hp => core_turn pb _ _ k.k0 k.k1 k.k2 k.k3 g.a0 g.a1 g.a2 g.a3 g.a4 g.a5 g.a6 g.a7 _ _ k.k2 k.k3 _ w hp (fun w => cturn_any k.k0 k.k1 k.k2 k.k3 g.a0 g.a1 g.a2 g.a3 g.a4 g.a5 g.a6 g.a7 w)
  sink := fun pb w hp => core_sink pb 3 5 4 5 w hp (fun w => csink_any w)
  monA := fun s y w => mon_add3 s.a0 s.a1 s.a2 s.a3 s.a4 s.a5 s.a6 s.a7 y w
  monB := fun s y w => mon_add4 s.a0 s.a1 s.a2 s.a3 s.a4 s.a5 s.a6 s.a7 y w

end Go.Proofs.Ytjmggfpomnnegaa
