/-
  The program Set: what each of its calls answers.
-/
import Derived.Test.YtjmggfpomnnegaaNums
import Derived.Deep.RegionHeld3
namespace Go.Proofs.Ytjmggfpomnnegaa
open Go.RowKit
set_option maxRecDepth 100000
@[go_sem] theorem m_set_start (n a c : Value) (w : World) : (method 257 120 (.agg #[n, a, c]) "sluice/peels.start").run Try.prog w = .ok (87, .agg #[n, a, c]) w := by kernel_rfl
@[go_sem] theorem m_set_sink (n a c : Value) (w : World) : (method 257 120 (.agg #[n, a, c]) "sluice/peels.sink").run Try.prog w = .ok (86, .agg #[n, a, c]) w := by kernel_rfl
@[go_sem] theorem m_set_turn (n a c : Value) (w : World) : (method 257 120 (.agg #[n, a, c]) "sluice/peels.turn").run Try.prog w = .ok (88, .agg #[n, a, c]) w := by kernel_rfl
@[go_sem] theorem m_set_fold (n a c : Value) (w : World) : (method 257 120 (.agg #[n, a, c]) "sluice/peels.fold").run Try.prog w = .ok (85, .agg #[n, a, c]) w := by kernel_rfl
@[go_sem] theorem m_set_scatter (n a c : Value) (w : World) : (method 257 120 (.agg #[n, a, c]) "sluice/peels.scatter").run Try.prog w = .ok (97, .agg #[n, a, c]) w := by kernel_rfl
@[go_sem] theorem m_set_apply (n a c : Value) (w : World) : (method 257 120 (.agg #[n, a, c]) "sluice/peels.apply").run Try.prog w = .ok (96, .agg #[n, a, c]) w := by kernel_rfl

def tellsV (n a c s1 v : Nat) (loop : Bool) (flag : Nat) : Nat × Nat × Bool :=
  if loop = true ∨ 1 < s1 then (0, 0, false) else if s1 = 1 then (18446744073709551615, flag, true) else ((a * v + c) % n, 0, true)

set_option maxHeartbeats 400000 in
theorem tells_any (n a c s0 s1 s2 s3 s4 s5 s6 s7 v flag : Nat) (loop : Bool) (w : World) (hr : RankOk n a c) (hv : v < n) :
    Calls Try.prog 94 #[.agg #[.int .u32 n, .int .u32 a, .int .u32 c], .agg #[.int .u64 s0, .int .u64 s1, .int .u64 s2, .int .u64 s3, .int .u64 s4, .int .u64 s5, .int .u64 s6, .int .u64 s7], .int .u32 v, .bool loop, .int .u64 flag] w fun e w' =>
      e = .returned (.tuple #[.int .u64 (tellsV n a c s1 v loop flag).1, .int .u64 (tellsV n a c s1 v loop flag).2.1, .bool (tellsV n a c s1 v loop flag).2.2, .int .i64 0]) ∧ Below w.heap.size w w' := by
  by_cases h1 : loop = true ∨ 1 < s1
  · have hT : tellsV n a c s1 v loop flag = (0, 0, false) := by unfold tellsV; rw [if_pos h1]
    rw [hT]
    clear hT
    cases loop
    · have h2 : 1 < s1 := by simpa using h1
      clear h1
      go_enter Try.func94, Try.ntmps94
      go_wp2
      refine bodyPost_ret (v := .tuple #[.int .u64 0, .int .u64 0, .bool false, .int .i64 0]) (by simp [results, Try.results94, go_sem]) rfl ⟨rfl, (by repeat (first | with_reducible exact Below.refl _ _ | with_reducible assumption | with_reducible refine below_drewN ?_ _ | with_reducible refine Below.drew ?_ | ((with_reducible refine Bset ?_ ?_); focus (first | omega | (simp; done) | (simp; omega))) | ((with_reducible refine Ball ?_ ?_); focus (first | omega | (simp; done) | (simp; omega)))))⟩
    · clear h1
      go_enter Try.func94, Try.ntmps94
      go_wp2
      refine bodyPost_ret (v := .tuple #[.int .u64 0, .int .u64 0, .bool false, .int .i64 0]) (by simp [results, Try.results94, go_sem]) rfl ⟨rfl, (by repeat (first | with_reducible exact Below.refl _ _ | with_reducible assumption | with_reducible refine below_drewN ?_ _ | with_reducible refine Below.drew ?_ | ((with_reducible refine Bset ?_ ?_); focus (first | omega | (simp; done) | (simp; omega))) | ((with_reducible refine Ball ?_ ?_); focus (first | omega | (simp; done) | (simp; omega)))))⟩
  · obtain rfl : loop = false := by cases loop; rfl; exact absurd (Or.inl rfl) h1
    have h2 : ¬ 1 < s1 := fun h => h1 (Or.inr h)
    by_cases h3 : s1 = 1
    · have hT : tellsV n a c s1 v false flag = (18446744073709551615, flag, true) := by unfold tellsV; rw [if_neg h1, if_pos h3]
      rw [hT]
      clear hT h1 h2
      subst h3
      go_enter Try.func94, Try.ntmps94
      go_wp2
      refine bodyPost_ret (v := .tuple #[.int .u64 18446744073709551615, .int .u64 flag, .bool true, .int .i64 0]) (by simp [results, Try.results94, go_sem]) rfl ⟨rfl, (by repeat (first | with_reducible exact Below.refl _ _ | with_reducible assumption | with_reducible refine below_drewN ?_ _ | with_reducible refine Below.drew ?_ | ((with_reducible refine Bset ?_ ?_); focus (first | omega | (simp; done) | (simp; omega))) | ((with_reducible refine Ball ?_ ?_); focus (first | omega | (simp; done) | (simp; omega)))))⟩
    · have hT : tellsV n a c s1 v false flag = ((a * v + c) % n, 0, true) := by unfold tellsV; rw [if_neg h1, if_neg h3]
      rw [hT]
      clear hT h1
      obtain rfl : s1 = 0 := by omega
      clear h2 h3
      generalize hp : (a * v + c) % n = p
      have hp1 : p < n := by rw [← hp]; exact Nat.mod_lt _ hr.1
      have hp2 : IntKind.u64.wrap (p : Int) = p := by rw [IntKind.wrap_u64]; have := hr.2.1; omega
      have HP := Lib.hid hp
      clear hp
      go_enter Try.func94, Try.ntmps94
      go_wp2_with (go_at_call 95; refine (place_ok n a c v _ hr hv).mono ?_; rintro e w1 ⟨rfl, hb1⟩; rw [HP.out])
      have hbb : Below w.heap.size w w1 := Below.trans (by repeat (first | with_reducible exact Below.refl _ _ | with_reducible assumption | with_reducible refine below_drewN ?_ _ | with_reducible refine Below.drew ?_ | ((with_reducible refine Bset ?_ ?_); focus (first | omega | (simp; done) | (simp; omega))) | ((with_reducible refine Ball ?_ ?_); focus (first | omega | (simp; done) | (simp; omega))))) (hb1.mono (by simp; omega))
      refine bodyPost_ret (v := .tuple #[.int .u64 p, .int .u64 0, .bool true, .int .i64 0]) (by simp [results, Try.results94, go_sem]) rfl ⟨rfl, (by repeat (first | with_reducible exact Below.refl _ _ | with_reducible assumption | with_reducible refine below_drewN ?_ _ | with_reducible refine Below.drew ?_ | ((with_reducible refine Bset ?_ ?_); focus (first | omega | (simp; done) | (simp; omega))) | ((with_reducible refine Ball ?_ ?_); focus (first | omega | (simp; done) | (simp; omega)))))⟩

set_option maxHeartbeats 400000 in
theorem scat_any (n a c k0 k1 k2 k3 s0 s1 s2 s3 s4 s5 s6 s7 v : Nat) (loop : Bool) (w : World) (hr : RankOk n a c) (hv : v < n) :
    Calls Try.prog 97 #[.agg #[.int .u32 n, .int .u32 a, .int .u32 c], .agg #[.int .u64 k0, .int .u64 k1, .int .u64 k2, .int .u64 k3], .agg #[.int .u64 s0, .int .u64 s1, .int .u64 s2, .int .u64 s3, .int .u64 s4, .int .u64 s5, .int .u64 s6, .int .u64 s7], .int .u32 v, .bool loop] w fun e w' =>
      e = .returned (.tuple #[.int .u64 (tellsV n a c s1 v loop 1).1, .int .u64 (tellsV n a c s1 v loop 1).2.1, .bool (tellsV n a c s1 v loop 1).2.2, .int .i64 0]) ∧ Below w.heap.size w w' := by
  go_enter Try.func97, Try.ntmps97
  go_wp2_with (go_at_call 94; refine (tells_any n a c _ _ _ _ _ _ _ _ v _ loop _ hr hv).mono ?_; rintro e w1 ⟨rfl, hb1⟩)
  have hbb : Below w.heap.size w w1 := Below.trans (by repeat (first | with_reducible exact Below.refl _ _ | with_reducible assumption | with_reducible refine below_drewN ?_ _ | with_reducible refine Below.drew ?_ | ((with_reducible refine Bset ?_ ?_); focus (first | omega | (simp; done) | (simp; omega))) | ((with_reducible refine Ball ?_ ?_); focus (first | omega | (simp; done) | (simp; omega))))) (hb1.mono (by simp; omega))
  refine bodyPost_ret (v := .tuple #[.int .u64 (tellsV n a c s1 v loop 1).1, .int .u64 (tellsV n a c s1 v loop 1).2.1, .bool (tellsV n a c s1 v loop 1).2.2, .int .i64 0]) (by simp [results, Try.results97, go_sem]) rfl ⟨rfl, (by repeat (first | with_reducible exact Below.refl _ _ | with_reducible assumption | with_reducible refine below_drewN ?_ _ | with_reducible refine Below.drew ?_ | ((with_reducible refine Bset ?_ ?_); focus (first | omega | (simp; done) | (simp; omega))) | ((with_reducible refine Ball ?_ ?_); focus (first | omega | (simp; done) | (simp; omega)))))⟩

set_option maxHeartbeats 400000 in
theorem first_any (n a c s0 s1 s2 s3 s4 s5 s6 s7 v : Nat) (w : World) (hr : RankOk n a c) (hv : v < n) :
    Calls Try.prog 92 #[.agg #[.int .u32 n, .int .u32 a, .int .u32 c], .int .u32 v, .agg #[.int .u64 s0, .int .u64 s1, .int .u64 s2, .int .u64 s3, .int .u64 s4, .int .u64 s5, .int .u64 s6, .int .u64 s7]] w fun e w' =>
      e = .returned (.tuple #[.bool (decide ((a * v + c) % n < s2)), .int .i64 0]) ∧ Below w.heap.size w w' := by
  generalize hp : (a * v + c) % n = p
  have hp1 : p < n := by rw [← hp]; exact Nat.mod_lt _ hr.1
  have hp2 : IntKind.u64.wrap (p : Int) = p := by rw [IntKind.wrap_u64]; have := hr.2.1; omega
  have HP := Lib.hid hp
  clear hp
  go_enter Try.func92, Try.ntmps92
  go_wp2_with (go_at_call 95; refine (place_ok n a c v _ hr hv).mono ?_; rintro e w1 ⟨rfl, hb1⟩; rw [HP.out]; obtain ⟨hc1, hf1⟩ := bcell hb1)
  have hbb : Below w.heap.size w w1 := Below.trans (by repeat (first | with_reducible exact Below.refl _ _ | with_reducible assumption | with_reducible refine below_drewN ?_ _ | with_reducible refine Below.drew ?_ | ((with_reducible refine Bset ?_ ?_); focus (first | omega | (simp; done) | (simp; omega))) | ((with_reducible refine Ball ?_ ?_); focus (first | omega | (simp; done) | (simp; omega))))) (hb1.mono (by simp; omega))
  go_ret2
  exact ⟨rfl, hbb⟩

/-- Apply of Set: the new words 0 and 1, and whether it changed. -/
def applyV (n a c v s0 s1 s2 s3 : Nat) : Nat × Nat × Bool :=
  if s1 ≠ 0 then (s0, 2, false) else if s3 ≠ 0 then (0, 2, true) else if (a * v + c) % n < s2 then (1, 1, true) else (0, 0, false)

set_option maxHeartbeats 800000 in
theorem apply_any (n a c k0 k1 k2 k3 s0 s1 s2 s3 s4 s5 s6 s7 v : Nat) (w : World) (hr : RankOk n a c) (hv : v < n) :
    Calls Try.prog 96 #[.agg #[.int .u32 n, .int .u32 a, .int .u32 c], .agg #[.int .u64 k0, .int .u64 k1, .int .u64 k2, .int .u64 k3], .int .u32 v, .agg #[.int .u64 s0, .int .u64 s1, .int .u64 s2, .int .u64 s3, .int .u64 s4, .int .u64 s5, .int .u64 s6, .int .u64 s7]] w fun e w' =>
      e = .returned (.tuple #[.agg #[.int .u64 (applyV n a c v s0 s1 s2 s3).1, .int .u64 (applyV n a c v s0 s1 s2 s3).2.1, .int .u64 18446744073709551615, .int .u64 0, .int .u64 0, .int .u64 0, .int .u64 0, .int .u64 0], .bool (applyV n a c v s0 s1 s2 s3).2.2, .int .i64 0]) ∧ Below w.heap.size w w' := by
  generalize hq : decide ((a * v + c) % n < s2) = q
  have hA : applyV n a c v s0 s1 s2 s3 = if s1 ≠ 0 then (s0, 2, false) else if s3 ≠ 0 then (0, 2, true) else if q = true then (1, 1, true) else (0, 0, false) := by
    unfold applyV; rw [← hq]; simp
  have HQ := Lib.hid hq
  clear hq
  by_cases h1 : s1 = 0
  · subst h1
    by_cases h3 : s3 = 0
    · subst h3
      cases q
      · simp at hA
        rw [hA]
        clear hA
        go_enter Try.func96, Try.ntmps96
        go_wp2_with (go_at_call 92; refine (first_any n a c _ _ _ _ _ _ _ _ v _ hr hv).mono ?_; rintro e w1 ⟨rfl, hb1⟩; rw [HQ.out]; obtain ⟨hc1, hf1⟩ := bcell hb1; have hz1 := hb1.size; (try simp only [World.size_alloc] at hz1))
        have hbb : Below w.heap.size w w1 := Below.trans (by repeat (first | with_reducible exact Below.refl _ _ | with_reducible assumption | with_reducible refine below_drewN ?_ _ | with_reducible refine Below.drew ?_ | ((with_reducible refine Bset ?_ ?_); focus (first | omega | (simp; done) | (simp; omega))) | ((with_reducible refine Ball ?_ ?_); focus (first | omega | (simp; done) | (simp; omega))))) (hb1.mono (by simp; omega))
        refine bodyPost_ret (v := .tuple #[.agg #[.int .u64 0, .int .u64 0, .int .u64 18446744073709551615, .int .u64 0, .int .u64 0, .int .u64 0, .int .u64 0, .int .u64 0], .bool false, .int .i64 0]) (by simp [results, Try.results96, go_sem, hc1]) rfl ⟨rfl, (by repeat (first | with_reducible exact Below.refl _ _ | with_reducible assumption | with_reducible refine below_drewN ?_ _ | with_reducible refine Below.drew ?_ | ((with_reducible refine Bset ?_ ?_); focus (first | omega | (simp; done) | (simp; omega))) | ((with_reducible refine Ball ?_ ?_); focus (first | omega | (simp; done) | (simp; omega)))))⟩
      · simp at hA
        rw [hA]
        clear hA
        go_enter Try.func96, Try.ntmps96
        go_wp2_with (go_at_call 92; refine (first_any n a c _ _ _ _ _ _ _ _ v _ hr hv).mono ?_; rintro e w1 ⟨rfl, hb1⟩; rw [HQ.out]; obtain ⟨hc1, hf1⟩ := bcell hb1; have hz1 := hb1.size; (try simp only [World.size_alloc] at hz1))
        have hbb : Below w.heap.size w w1 := Below.trans (by repeat (first | with_reducible exact Below.refl _ _ | with_reducible assumption | with_reducible refine below_drewN ?_ _ | with_reducible refine Below.drew ?_ | ((with_reducible refine Bset ?_ ?_); focus (first | omega | (simp; done) | (simp; omega))) | ((with_reducible refine Ball ?_ ?_); focus (first | omega | (simp; done) | (simp; omega))))) (hb1.mono (by simp; omega))
        refine bodyPost_ret (v := .tuple #[.agg #[.int .u64 1, .int .u64 1, .int .u64 18446744073709551615, .int .u64 0, .int .u64 0, .int .u64 0, .int .u64 0, .int .u64 0], .bool true, .int .i64 0]) (by simp [results, Try.results96, go_sem, hc1]) rfl ⟨rfl, (by repeat (first | with_reducible exact Below.refl _ _ | with_reducible assumption | with_reducible refine below_drewN ?_ _ | with_reducible refine Below.drew ?_ | ((with_reducible refine Bset ?_ ?_); focus (first | omega | (simp; done) | (simp; omega))) | ((with_reducible refine Ball ?_ ?_); focus (first | omega | (simp; done) | (simp; omega)))))⟩
    · have h3' : ((s3 : Int) != 0) = true := by simp; omega
      rw [if_neg (by simp), if_pos h3] at hA
      rw [hA]
      clear hA
      go_enter Try.func96, Try.ntmps96
      go_wp2_with (go_at_call 92; refine (first_any n a c _ _ _ _ _ _ _ _ v _ hr hv).mono ?_; rintro e w1 ⟨rfl, hb1⟩; rw [HQ.out]; obtain ⟨hc1, hf1⟩ := bcell hb1; have hz1 := hb1.size; (try simp only [World.size_alloc] at hz1))
      have hbb : Below w.heap.size w w1 := Below.trans (by repeat (first | with_reducible exact Below.refl _ _ | with_reducible assumption | with_reducible refine below_drewN ?_ _ | with_reducible refine Below.drew ?_ | ((with_reducible refine Bset ?_ ?_); focus (first | omega | (simp; done) | (simp; omega))) | ((with_reducible refine Ball ?_ ?_); focus (first | omega | (simp; done) | (simp; omega))))) (hb1.mono (by simp; omega))
      refine bodyPost_ret (v := .tuple #[.agg #[.int .u64 0, .int .u64 2, .int .u64 18446744073709551615, .int .u64 0, .int .u64 0, .int .u64 0, .int .u64 0, .int .u64 0], .bool true, .int .i64 0]) (by simp [results, Try.results96, go_sem, hc1]) rfl ⟨rfl, (by repeat (first | with_reducible exact Below.refl _ _ | with_reducible assumption | with_reducible refine below_drewN ?_ _ | with_reducible refine Below.drew ?_ | ((with_reducible refine Bset ?_ ?_); focus (first | omega | (simp; done) | (simp; omega))) | ((with_reducible refine Ball ?_ ?_); focus (first | omega | (simp; done) | (simp; omega)))))⟩
  · have h1' : ((s1 : Int) != 0) = true := by simp; omega
    rw [if_pos h1] at hA
    rw [hA]
    clear hA
    go_enter Try.func96, Try.ntmps96
    go_wp2_with (go_at_call 92; refine (first_any n a c _ _ _ _ _ _ _ _ v _ hr hv).mono ?_; rintro e w1 ⟨rfl, hb1⟩; rw [HQ.out]; obtain ⟨hc1, hf1⟩ := bcell hb1; have hz1 := hb1.size; (try simp only [World.size_alloc] at hz1))
    have hbb : Below w.heap.size w w1 := Below.trans (by repeat (first | with_reducible exact Below.refl _ _ | with_reducible assumption | with_reducible refine below_drewN ?_ _ | with_reducible refine Below.drew ?_ | ((with_reducible refine Bset ?_ ?_); focus (first | omega | (simp; done) | (simp; omega))) | ((with_reducible refine Ball ?_ ?_); focus (first | omega | (simp; done) | (simp; omega))))) (hb1.mono (by simp; omega))
    refine bodyPost_ret (v := .tuple #[.agg #[.int .u64 s0, .int .u64 2, .int .u64 18446744073709551615, .int .u64 0, .int .u64 0, .int .u64 0, .int .u64 0, .int .u64 0], .bool false, .int .i64 0]) (by simp [results, Try.results96, go_sem, hc1]) rfl ⟨rfl, (by repeat (first | with_reducible exact Below.refl _ _ | with_reducible assumption | with_reducible refine below_drewN ?_ _ | with_reducible refine Below.drew ?_ | ((with_reducible refine Bset ?_ ?_); focus (first | omega | (simp; done) | (simp; omega))) | ((with_reducible refine Ball ?_ ?_); focus (first | omega | (simp; done) | (simp; omega)))))⟩

set_option maxHeartbeats 400000 in
theorem fold_any (n a c : Nat) (g0 g1 g2 g3 g4 g5 g6 g7 s0 s1 s2 s3 s4 s5 s6 s7 : Nat) (w : World) (hg : g0 ≤ 4294967295) :
    Calls Try.prog 85 #[.agg #[.int .u32 n, .int .u32 a, .int .u32 c], .agg #[.int .u64 g0, .int .u64 g1, .int .u64 g2, .int .u64 g3, .int .u64 g4, .int .u64 g5, .int .u64 g6, .int .u64 g7], .agg #[.int .u64 s0, .int .u64 s1, .int .u64 s2, .int .u64 s3, .int .u64 s4, .int .u64 s5, .int .u64 s6, .int .u64 s7]] w fun e w' =>
      e = .returned (.agg #[.int .u64 (if s1 = 0 then g0 + 1 else g0 : Nat), .int .u64 g1, .int .u64 g2, .int .u64 g3, .int .u64 g4, .int .u64 g5, .int .u64 g6, .int .u64 g7]) ∧ Below w.heap.size w w' := by
  by_cases h1 : s1 = 0
  · rw [if_pos h1]
    subst h1
    have hw : IntKind.u64.wrap ((g0 : Int) + 1) = ((g0 + 1 : Nat) : Int) := by rw [IntKind.wrap_u64]; omega
    go_enter Try.func85, Try.ntmps85
    go_wp2
    refine bodyPost_ret (v := .agg #[.int .u64 (g0 + 1 : Nat), .int .u64 g1, .int .u64 g2, .int .u64 g3, .int .u64 g4, .int .u64 g5, .int .u64 g6, .int .u64 g7]) (by simp [results, Try.results85, go_sem]) rfl ⟨rfl, (by repeat (first | with_reducible exact Below.refl _ _ | with_reducible assumption | with_reducible refine below_drewN ?_ _ | with_reducible refine Below.drew ?_ | ((with_reducible refine Bset ?_ ?_); focus (first | omega | (simp; done) | (simp; omega))) | ((with_reducible refine Ball ?_ ?_); focus (first | omega | (simp; done) | (simp; omega)))))⟩
  · rw [if_neg h1]
    have h1' : ((s1 : Int) == 0) = false := by simp; omega
    go_enter Try.func85, Try.ntmps85
    go_wp2
    refine bodyPost_ret (v := .agg #[.int .u64 g0, .int .u64 g1, .int .u64 g2, .int .u64 g3, .int .u64 g4, .int .u64 g5, .int .u64 g6, .int .u64 g7]) (by simp [results, Try.results85, go_sem]) rfl ⟨rfl, (by repeat (first | with_reducible exact Below.refl _ _ | with_reducible assumption | with_reducible refine below_drewN ?_ _ | with_reducible refine Below.drew ?_ | ((with_reducible refine Bset ?_ ?_); focus (first | omega | (simp; done) | (simp; omega))) | ((with_reducible refine Ball ?_ ?_); focus (first | omega | (simp; done) | (simp; omega)))))⟩

set_option maxHeartbeats 400000 in
theorem turn_any (n a c : Nat) (k0 k1 k2 k3 g0 g1 g2 g3 g4 g5 g6 g7 : Nat) (w : World) :
    Calls Try.prog 88 #[.agg #[.int .u32 n, .int .u32 a, .int .u32 c], .agg #[.int .u64 k0, .int .u64 k1, .int .u64 k2, .int .u64 k3], .agg #[.int .u64 g0, .int .u64 g1, .int .u64 g2, .int .u64 g3, .int .u64 g4, .int .u64 g5, .int .u64 g6, .int .u64 g7]] w fun e w' =>
      e = .returned (.tuple #[.agg #[.int .u64 k0, .int .u64 k1, .int .u64 k2, .int .u64 k3], .bool ((g0 : Int) == 0)]) ∧ Below w.heap.size w w' := by
  go_enter Try.func88, Try.ntmps88
  go_wp2
  go_region
  all_goals (try go_wp2)
  all_goals
    refine bodyPost_ret (v := .tuple #[.agg #[.int .u64 k0, .int .u64 k1, .int .u64 k2, .int .u64 k3], .bool ((g0 : Int) == 0)]) (by simp [results, Try.results88, go_sem]) rfl ⟨rfl, (by repeat (first | with_reducible exact Below.refl _ _ | with_reducible assumption | with_reducible refine below_drewN ?_ _ | with_reducible refine Below.drew ?_ | ((with_reducible refine Bset ?_ ?_); focus (first | omega | (simp; done) | (simp; omega))) | ((with_reducible refine Ball ?_ ?_); focus (first | omega | (simp; done) | (simp; omega)))))⟩

theorem sink_any (n a c : Value) (w : World) :
    Calls Try.prog 86 #[.agg #[n, a, c]] w fun e w' =>
      e = .returned (.agg #[.int .i64 2, .int .i64 1, .int .i64 3, .int .i64 7]) ∧ Below w.heap.size w w' := by
  go_enter Try.func86, Try.ntmps86
  go_wp2
  refine bodyPost_ret (v := .agg #[.int .i64 2, .int .i64 1, .int .i64 3, .int .i64 7]) (by simp [results, Try.results86, go_sem]) rfl ⟨rfl, (by repeat (first | with_reducible exact Below.refl _ _ | with_reducible assumption | with_reducible refine below_drewN ?_ _ | with_reducible refine Below.drew ?_ | ((with_reducible refine Bset ?_ ?_); focus (first | omega | (simp; done) | (simp; omega))) | ((with_reducible refine Ball ?_ ?_); focus (first | omega | (simp; done) | (simp; omega)))))⟩
end Go.Proofs.Ytjmggfpomnnegaa
