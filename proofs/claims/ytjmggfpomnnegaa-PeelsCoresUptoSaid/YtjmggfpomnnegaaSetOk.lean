/-
  Set as a program of the run.
-/
import Derived.Test.YtjmggfpomnnegaaPeel
import Derived.Test.YtjmggfpomnnegaaSet
import Derived.Test.YtjmggfpomnnegaaFold
import Derived.Test.YtjmggfpomnnegaaMon
namespace Go.Proofs.Ytjmggfpomnnegaa
open Go.RowKit
set_option maxRecDepth 100000

def orV (a b : Nat) : Nat := (bits .or .u64 (a : Int) (b : Int)).toNat
theorem orV_cast (a b : Nat) : bits .or .u64 (a : Int) (b : Int) = ((orV a b : Nat) : Int) := by
  unfold orV
  rw [Int.toNat_of_nonneg]
  show 0 ≤ IntKind.u64.wrap ((BitVec.ofInt 64 (a : Int) ||| BitVec.ofInt 64 (b : Int)).toNat : Int)
  rw [IntKind.wrap_u64]; omega
theorem orV_eq (a b : Nat) (ha : a < 18446744073709551616) (hb : b < 18446744073709551616) : orV a b = a ||| b := by
  unfold orV; rw [u64_or_nat a b ha hb, Int.toNat_natCast]

set_option maxHeartbeats 400000 in
theorem rstart_any (n a c v o i : Nat) (w : World) (hv : v < n) :
    Calls Try.prog 87 #[.agg #[.int .u32 n, .int .u32 a, .int .u32 c], .int .u32 v, .agg #[.int .u64 o, .int .u64 i]] w fun e w' =>
      e = .returned (.tuple #[.agg #[.int .u64 0, .int .u64 0, .int .u64 18446744073709551615, .int .u64 0, .int .u64 0, .int .u64 0, .int .u64 0, .int .u64 0], .int .i64 0]) ∧ Below w.heap.size w w' := by
  have hv' : ((n : Int) ≤ (v : Int)) = False := by simp; omega
  go_enter Try.func87, Try.ntmps87
  go_wp2
  all_goals
    refine bodyPost_ret (v := .tuple #[.agg #[.int .u64 0, .int .u64 0, .int .u64 18446744073709551615, .int .u64 0, .int .u64 0, .int .u64 0, .int .u64 0, .int .u64 0], .int .i64 0]) (by simp (maxDischargeDepth := 8) [results, Try.results87, go_sem]) rfl ⟨rfl, (by repeat (first | with_reducible exact Below.refl _ _ | with_reducible assumption | with_reducible refine below_drewN ?_ _ | with_reducible refine Below.drew ?_ | ((with_reducible refine Bset ?_ ?_); focus (first | omega | (simp; done) | (simp; omega))) | ((with_reducible refine Ball ?_ ?_); focus (first | omega | (simp; done) | (simp; omega)))))⟩

set_option maxHeartbeats 400000 in
theorem rfold_any (n a c : Nat) (g0 g1 g2 g3 g4 g5 g6 g7 s0 s1 s2 s3 s4 s5 s6 s7 : Nat) (w : World) :
    Calls Try.prog 85 #[.agg #[.int .u32 n, .int .u32 a, .int .u32 c], .agg #[.int .u64 g0, .int .u64 g1, .int .u64 g2, .int .u64 g3, .int .u64 g4, .int .u64 g5, .int .u64 g6, .int .u64 g7], .agg #[.int .u64 s0, .int .u64 s1, .int .u64 s2, .int .u64 s3, .int .u64 s4, .int .u64 s5, .int .u64 s6, .int .u64 s7]] w fun e w' =>
      e = .returned (.agg #[.int .u64 (if s1 = 0 then (g0 + 1) % 18446744073709551616 else g0 : Nat), .int .u64 g1, .int .u64 g2, .int .u64 g3, .int .u64 g4, .int .u64 g5, .int .u64 g6, .int .u64 g7]) ∧ Below w.heap.size w w' := by
  by_cases h1 : s1 = 0
  · rw [if_pos h1]
    subst h1
    have hw : IntKind.u64.wrap ((g0 : Int) + 1) = (((g0 + 1) % 18446744073709551616 : Nat) : Int) := by rw [IntKind.wrap_u64]; omega
    go_enter Try.func85, Try.ntmps85
    go_wp2
    refine bodyPost_ret (v := .agg #[.int .u64 ((g0 + 1) % 18446744073709551616 : Nat), .int .u64 g1, .int .u64 g2, .int .u64 g3, .int .u64 g4, .int .u64 g5, .int .u64 g6, .int .u64 g7]) (by simp (maxDischargeDepth := 8) [results, Try.results85, go_sem]) rfl ⟨rfl, (by repeat (first | with_reducible exact Below.refl _ _ | with_reducible assumption | with_reducible refine below_drewN ?_ _ | with_reducible refine Below.drew ?_ | ((with_reducible refine Bset ?_ ?_); focus (first | omega | (simp; done) | (simp; omega))) | ((with_reducible refine Ball ?_ ?_); focus (first | omega | (simp; done) | (simp; omega)))))⟩
  · rw [if_neg h1]
    have h1' : ((s1 : Int) == 0) = false := by simp; omega
    go_enter Try.func85, Try.ntmps85
    go_wp2
    refine bodyPost_ret (v := .agg #[.int .u64 g0, .int .u64 g1, .int .u64 g2, .int .u64 g3, .int .u64 g4, .int .u64 g5, .int .u64 g6, .int .u64 g7]) (by simp (maxDischargeDepth := 8) [results, Try.results85, go_sem]) rfl ⟨rfl, (by repeat (first | with_reducible exact Below.refl _ _ | with_reducible assumption | with_reducible refine below_drewN ?_ _ | with_reducible refine Below.drew ?_ | ((with_reducible refine Bset ?_ ?_); focus (first | omega | (simp; done) | (simp; omega))) | ((with_reducible refine Ball ?_ ?_); focus (first | omega | (simp; done) | (simp; omega)))))⟩

set_option maxHeartbeats 800000 in
theorem mon_orV (s0 s1 s2 s3 s4 s5 s6 s7 y : Nat) (w : World) :
    Calls Try.prog 47 #[.int .i64 7, .agg #[.int .u64 s0, .int .u64 s1, .int .u64 s2, .int .u64 s3, .int .u64 s4, .int .u64 s5, .int .u64 s6, .int .u64 s7], .int .i64 3, .int .u64 y] w fun e w' => e = .returned (.agg #[.int .u64 s0, .int .u64 s1, .int .u64 s2, .int .u64 ((orV s3 y : Nat)), .int .u64 s4, .int .u64 s5, .int .u64 s6, .int .u64 s7]) ∧ Below w.heap.size w w' := by
  go_enter Try.func47, Try.ntmps47
  go_wp2
  all_goals
    refine bodyPost_ret (v := .agg #[.int .u64 s0, .int .u64 s1, .int .u64 s2, .int .u64 ((orV s3 y : Nat)), .int .u64 s4, .int .u64 s5, .int .u64 s6, .int .u64 s7]) (by simp (maxDischargeDepth := 8) [results, Try.results47, go_sem, orV_cast]) rfl ⟨rfl, (by repeat (first | with_reducible exact Below.refl _ _ | with_reducible assumption | with_reducible refine below_drewN ?_ _ | with_reducible refine Below.drew ?_ | ((with_reducible refine Bset ?_ ?_); focus (first | omega | (simp; done) | (simp; omega))) | ((with_reducible refine Ball ?_ ?_); focus (first | omega | (simp; done) | (simp; omega)))))⟩

/-- Set over the order (n, a, c). -/
def setP (n a c : Nat) : Prg where
  start _ _ _ := ⟨0, 0, 18446744073709551615, 0, 0, 0, 0, 0⟩
  scat _ s src dst back := tellsV n a c s.a1 (if back then dst else src) ((src : Int) == dst) 1
  app _ _ v s := (⟨(applyV n a c v s.a0 s.a1 s.a2 s.a3).1, (applyV n a c v s.a0 s.a1 s.a2 s.a3).2.1, 18446744073709551615, 0, 0, 0, 0, 0⟩, (applyV n a c v s.a0 s.a1 s.a2 s.a3).2.2)
  fold g s := ⟨if s.a1 = 0 then (g.a0 + 1) % 18446744073709551616 else g.a0, g.a1, g.a2, g.a3, g.a4, g.a5, g.a6, g.a7⟩
  turn c g := (c, (g.a0 : Int) == 0)
  sA := 2
  mA := 1
  sB := 3
  mB := 7
  monA s y := ⟨s.a0, s.a1, min s.a2 y, s.a3, s.a4, s.a5, s.a6, s.a7⟩
  monB s y := ⟨s.a0, s.a1, s.a2, orV s.a3 y, s.a4, s.a5, s.a6, s.a7⟩

theorem setP_ok (n a c : Nat) (hr : RankOk n a c) : PrgOk (setP n a c) (.iface 120 (.agg #[.int .u32 n, .int .u32 a, .int .u32 c])) n where
  start := fun pb v o i w hp hv => set_start pb _ _ _ _ _ _ 0 0 18446744073709551615 0 0 0 0 0 w hp (fun w => rstart_any n a c v o i w hv)
  scat := fun pb k s src dst x back w hp h1 h2 => by
    cases back
    · exact set_scatter_false pb _ _ _ _ _ _ _ _ _ _ _ _ _ _ _ src dst x _ _ _ w hp (fun w => scat_any n a c _ _ _ _ _ s.a1 _ _ _ _ _ _ src _ w hr h1)
    · exact set_scatter_true pb _ _ _ _ _ _ _ _ _ _ _ _ _ _ _ src dst x _ _ _ w hp (fun w => scat_any n a c _ _ _ _ _ s.a1 _ _ _ _ _ _ dst _ w hr h2)
  app := fun pb k g s v w hp hv => set_apply pb _ _ _ _ _ _ _ _ _ _ _ _ _ _ _ _ _ _ _ _ _ _ _ _ _ _ 18446744073709551615 0 0 0 0 0 _ w hp (fun w => apply_any n a c _ _ _ _ s.a0 s.a1 s.a2 s.a3 _ _ _ _ v w hr hv)
  fold := fun pb k g s v w hp => set_fold pb _ _ _ _ _ _ _ _ g.a0 g.a1 g.a2 g.a3 g.a4 g.a5 g.a6 g.a7 _ _ _ _ _ _ _ _ _ _ _ _ _ _ _ _ w hp (fun w => rfold_any n a c g.a0 g.a1 g.a2 g.a3 g.a4 g.a5 g.a6 g.a7 s.a0 s.a1 s.a2 s.a3 s.a4 s.a5 s.a6 s.a7 w)
  turn := fun pb k g x y w hp => set_turn pb _ _ _ _ _ _ _ _ _ _ _ _ _ _ _ _ _ k.k0 k.k1 k.k2 k.k3 _ w hp (fun w => turn_any n a c k.k0 k.k1 k.k2 k.k3 g.a0 g.a1 g.a2 g.a3 g.a4 g.a5 g.a6 g.a7 w)
  sink := fun pb w hp => set_sink pb _ _ _ 2 1 3 7 w hp (fun w => sink_any _ _ _ w)
  monA := fun s y w => mon_min s.a0 s.a1 s.a2 s.a3 s.a4 s.a5 s.a6 s.a7 y w
  monB := fun s y w => mon_orV s.a0 s.a1 s.a2 s.a3 s.a4 s.a5 s.a6 s.a7 y w

end Go.Proofs.Ytjmggfpomnnegaa
