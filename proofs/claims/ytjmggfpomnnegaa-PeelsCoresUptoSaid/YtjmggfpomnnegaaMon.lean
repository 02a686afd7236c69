/-
  Small functions of the run: Mon at the kinds that Set and Core gather by, worse, made.
-/
import Derived.Test.YtjmggfpomnnegaaNums
import Derived.Deep.RegionHeld3
namespace Go.Proofs.Ytjmggfpomnnegaa
open Go.RowKit
set_option maxRecDepth 100000

set_option maxHeartbeats 800000 in
theorem mon_min (s0 s1 s2 s3 s4 s5 s6 s7 y : Nat) (w : World) :
    Calls Try.prog 47 #[.int .i64 1, .agg #[.int .u64 s0, .int .u64 s1, .int .u64 s2, .int .u64 s3, .int .u64 s4, .int .u64 s5, .int .u64 s6, .int .u64 s7], .int .i64 2, .int .u64 y] w fun e w' => e = .returned (.agg #[.int .u64 s0, .int .u64 s1, .int .u64 ((min s2 y : Nat)), .int .u64 s3, .int .u64 s4, .int .u64 s5, .int .u64 s6, .int .u64 s7]) ∧ Below w.heap.size w w' := by
  go_enter Try.func47, Try.ntmps47
  go_wp2
  all_goals
    refine bodyPost_ret (v := .agg #[.int .u64 s0, .int .u64 s1, .int .u64 ((min s2 y : Nat)), .int .u64 s3, .int .u64 s4, .int .u64 s5, .int .u64 s6, .int .u64 s7]) (by simp (maxDischargeDepth := 8) [results, Try.results47, go_sem]; omega) rfl ⟨rfl, (by repeat (first | with_reducible exact Below.refl _ _ | with_reducible assumption | with_reducible refine below_drewN ?_ _ | with_reducible refine Below.drew ?_ | ((with_reducible refine Bset ?_ ?_); focus (first | omega | (simp; done) | (simp; omega))) | ((with_reducible refine Ball ?_ ?_); focus (first | omega | (simp; done) | (simp; omega)))))⟩

set_option maxHeartbeats 800000 in
theorem mon_or (s0 s1 s2 s3 s4 s5 s6 s7 y : Nat) (w : World) (hs : s3 ≤ 18446744073709551615) (hy : y ≤ 18446744073709551615) :
    Calls Try.prog 47 #[.int .i64 7, .agg #[.int .u64 s0, .int .u64 s1, .int .u64 s2, .int .u64 s3, .int .u64 s4, .int .u64 s5, .int .u64 s6, .int .u64 s7], .int .i64 3, .int .u64 y] w fun e w' => e = .returned (.agg #[.int .u64 s0, .int .u64 s1, .int .u64 s2, .int .u64 ((s3 ||| y : Nat)), .int .u64 s4, .int .u64 s5, .int .u64 s6, .int .u64 s7]) ∧ Below w.heap.size w w' := by
  go_enter Try.func47, Try.ntmps47
  go_wp2
  all_goals
    refine bodyPost_ret (v := .agg #[.int .u64 s0, .int .u64 s1, .int .u64 s2, .int .u64 ((s3 ||| y : Nat)), .int .u64 s4, .int .u64 s5, .int .u64 s6, .int .u64 s7]) (by simp (maxDischargeDepth := 8) [results, Try.results47, go_sem, u64_or_nat s3 y (by omega) (by omega)]) rfl ⟨rfl, (by repeat (first | with_reducible exact Below.refl _ _ | with_reducible assumption | with_reducible refine below_drewN ?_ _ | with_reducible refine Below.drew ?_ | ((with_reducible refine Bset ?_ ?_); focus (first | omega | (simp; done) | (simp; omega))) | ((with_reducible refine Ball ?_ ?_); focus (first | omega | (simp; done) | (simp; omega)))))⟩

set_option maxHeartbeats 800000 in
theorem mon_add3 (s0 s1 s2 s3 s4 s5 s6 s7 y : Nat) (w : World) :
    Calls Try.prog 47 #[.int .i64 5, .agg #[.int .u64 s0, .int .u64 s1, .int .u64 s2, .int .u64 s3, .int .u64 s4, .int .u64 s5, .int .u64 s6, .int .u64 s7], .int .i64 3, .int .u64 y] w fun e w' => e = .returned (.agg #[.int .u64 s0, .int .u64 s1, .int .u64 s2, .int .u64 (((s3 + y) % 18446744073709551616 : Nat)), .int .u64 s4, .int .u64 s5, .int .u64 s6, .int .u64 s7]) ∧ Below w.heap.size w w' := by
  go_enter Try.func47, Try.ntmps47
  go_wp2
  all_goals
    refine bodyPost_ret (v := .agg #[.int .u64 s0, .int .u64 s1, .int .u64 s2, .int .u64 (((s3 + y) % 18446744073709551616 : Nat)), .int .u64 s4, .int .u64 s5, .int .u64 s6, .int .u64 s7]) (by simp (maxDischargeDepth := 8) [results, Try.results47, go_sem, IntKind.wrap_u64]) rfl ⟨rfl, (by repeat (first | with_reducible exact Below.refl _ _ | with_reducible assumption | with_reducible refine below_drewN ?_ _ | with_reducible refine Below.drew ?_ | ((with_reducible refine Bset ?_ ?_); focus (first | omega | (simp; done) | (simp; omega))) | ((with_reducible refine Ball ?_ ?_); focus (first | omega | (simp; done) | (simp; omega)))))⟩

set_option maxHeartbeats 800000 in
theorem mon_add4 (s0 s1 s2 s3 s4 s5 s6 s7 y : Nat) (w : World) :
    Calls Try.prog 47 #[.int .i64 5, .agg #[.int .u64 s0, .int .u64 s1, .int .u64 s2, .int .u64 s3, .int .u64 s4, .int .u64 s5, .int .u64 s6, .int .u64 s7], .int .i64 4, .int .u64 y] w fun e w' => e = .returned (.agg #[.int .u64 s0, .int .u64 s1, .int .u64 s2, .int .u64 s3, .int .u64 (((s4 + y) % 18446744073709551616 : Nat)), .int .u64 s5, .int .u64 s6, .int .u64 s7]) ∧ Below w.heap.size w w' := by
  go_enter Try.func47, Try.ntmps47
  go_wp2
  all_goals
    refine bodyPost_ret (v := .agg #[.int .u64 s0, .int .u64 s1, .int .u64 s2, .int .u64 s3, .int .u64 (((s4 + y) % 18446744073709551616 : Nat)), .int .u64 s5, .int .u64 s6, .int .u64 s7]) (by simp (maxDischargeDepth := 8) [results, Try.results47, go_sem, IntKind.wrap_u64]) rfl ⟨rfl, (by repeat (first | with_reducible exact Below.refl _ _ | with_reducible assumption | with_reducible refine below_drewN ?_ _ | with_reducible refine Below.drew ?_ | ((with_reducible refine Bset ?_ ?_); focus (first | omega | (simp; done) | (simp; omega))) | ((with_reducible refine Ball ?_ ?_); focus (first | omega | (simp; done) | (simp; omega)))))⟩

set_option maxHeartbeats 400000 in
theorem worse_ok (b : Nat) (hb : b = 0) (w : World) :
    Calls Try.prog 45 #[.int .i64 b, .int .i64 0] w fun e w' => e = .returned (.int .i64 0) ∧ w = w' := by
  subst hb
  go_enter Try.func45, Try.ntmps45
  go_wp2
  go_ret
  exact ⟨rfl, rfl⟩

set_option maxHeartbeats 400000 in
theorem set_made (n a c : Nat) (w : World) (hr : RankOk n a c) :
    Calls Try.prog 36 #[.agg #[.int .u32 n, .int .u32 a, .int .u32 c]] w fun e w' => ∃ pb : Nat, e = .returned (.tuple #[.pointer (some ⟨pb, 0, none⟩), .int .i64 0]) ∧ w.heap.size ≤ pb ∧
      w'.cell? ⟨pb, 0, none⟩ = some (.iface 120 (.agg #[.int .u32 n, .int .u32 a, .int .u32 c])) ∧ Below w.heap.size w w' := by
  go_enter Try.func36, Try.ntmps36
  go_wp2_with (first | (go_at_call 53; refine (check_ok n a c _ hr).mono ?_; rintro e w1 ⟨rfl, hb1⟩; obtain ⟨hc1, hf1⟩ := bcell hb1; have hz1 := hb1.size; (try simp only [World.size_alloc] at hz1)) | (go_at_call 48; go_in))
  go_ret2
  exact ⟨w1.heap.size, rfl, by omega, by simp, Ball (by omega) (Below.trans (by repeat (first | with_reducible exact Below.refl _ _ | with_reducible assumption | with_reducible refine below_drewN ?_ _ | with_reducible refine Below.drew ?_ | ((with_reducible refine Bset ?_ ?_); focus (first | omega | (simp; done) | (simp; omega))) | ((with_reducible refine Ball ?_ ?_); focus (first | omega | (simp; done) | (simp; omega))))) (hb1.mono (by simp; try omega)))⟩

theorem core_made (w : World) :
    Calls Try.prog 28 #[] w fun e w' => ∃ pb : Nat, e = .returned (.pointer (some ⟨pb, 0, none⟩)) ∧ w.heap.size ≤ pb ∧
      w'.cell? ⟨pb, 0, none⟩ = some (.iface 105 (.agg #[])) ∧ Below w.heap.size w w' := by
  go_enter Try.func28, Try.ntmps28
  go_wp2
  go_ret
  exact ⟨_, rfl, Nat.le_refl _, by simp, (by repeat (first | with_reducible exact Below.refl _ _ | with_reducible assumption | with_reducible refine below_drewN ?_ _ | with_reducible refine Below.drew ?_ | ((with_reducible refine Bset ?_ ?_); focus (first | omega | (simp; done) | (simp; omega))) | ((with_reducible refine Ball ?_ ?_); focus (first | omega | (simp; done) | (simp; omega)))))⟩

end Go.Proofs.Ytjmggfpomnnegaa
