/-
  What stands ahead of an audit: the constructor, the desk.
-/
import Derived.Test.YtohmeobfiomfdaaSit
namespace Go.Proofs.Ytohmeobfiomfdaa
open Go.RowKit
set_option maxRecDepth 100000

@[go_sem] theorem m_plan (w : World) : (method 268 101 (.agg #[]) "sluice/knots.plan").run Try.prog w = .ok (93, .agg #[]) w := by kernel_rfl

set_option maxHeartbeats 1000000 in
theorem kmade_any (w : World) : Calls Try.prog 71 #[.iface 101 (.agg #[])] w fun e w' => (∃ pb : Nat, e = .returned (.pointer (some ⟨pb, 0, none⟩))) ∧ Below w.heap.size w w' := by
  go_enter Try.func71, Try.ntmps71
  go_wp2
  go_region_held3 (fun wz => w.heap.size ≤ wz.heap.size ∧ Hid (Below w.heap.size w wz))
    (first | (go_split_ands; with_reducible exact ⟨by assumption, by assumption⟩) | (go_split_ands; with_reducible exact keep2_call (by assumption) (by assumption) hb2) | (go_split_ands; with_reducible exact keep2_alloc (by assumption) (by assumption) _) | exact ⟨Nat.le_refl _, Lib.hid (Below.drew (Below.refl _ _))⟩)
    (((with_reducible refine Calls.mono (plan_any _) ?_); rintro e w2 ⟨⟨x0, x1, x2, x3, x4, x5, x6, x7, rfl⟩, hb2⟩))
  all_goals
    (go_wp2
     go_ret
     exact ⟨⟨_, rfl⟩, Ball (by have := hb2.size; exact this) (Below.trans (Below.drew (Below.refl w.heap.size w)) hb2)⟩)

theorem q1 (d : Nat) (f : Fn) (fx fy : Array Value) (w : World) : (Op.equalIn (d + 1) 40 (.func f fx fy) .nilFunc).run Try.prog w = .ok false w := by
  simp [Op.equalIn, run_underlying Try.underlying40]
@[go_sem] theorem qF (f : Fn) (fx fy : Array Value) (w : World) : (binOp .eql 40 (.func f fx fy) .nilFunc).run Try.prog w = .ok (.bool false) w := by
  simp only [binOp]
  simp [Op.equal, Op.maxDepth, q1 9999]

def sizeErr (n : Nat) : Nat := if n < 1 ∨ 2147483647 < n then 2 else 0

set_option maxHeartbeats 400000 in
theorem whole_any (n : Nat) (w : World) : Calls Try.prog 64 #[.int .u32 n, .iface 101 (.agg #[])] w fun e w' => (∃ p : Option Addr, e = .returned (.tuple #[.pointer p, .int .i64 (sizeErr n)])) ∧ Below w.heap.size w w' := by
  by_cases h : n < 1 ∨ 2147483647 < n
  · have hs : sizeErr n = 2 := by unfold sizeErr; rw [if_pos h]
    rw [hs]
    clear hs
    by_cases h1 : n = 0
    · subst h1
      clear h
      go_enter Try.func64, Try.ntmps64
      go_wp2
      go_ret2
      exact ⟨⟨_, rfl⟩, (by repeat (first | with_reducible exact Below.refl _ _ | with_reducible assumption | with_reducible refine below_drewN ?_ _ | with_reducible refine Below.drew ?_ | ((with_reducible refine Bset ?_ ?_); focus (first | omega | (simp; done) | (simp; omega))) | ((with_reducible refine Ball ?_ ?_); focus (first | omega | (simp; done) | (simp; omega)))))⟩
    · have h1' : ((n : Int) == 0) = false := by rw [beq_eq_false_iff_ne]; omega
      have h2' : (2147483647 : Int) < n := by omega
      clear h h1
      go_enter Try.func64, Try.ntmps64
      go_wp2
      go_ret2
      exact ⟨⟨_, rfl⟩, (by repeat (first | with_reducible exact Below.refl _ _ | with_reducible assumption | with_reducible refine below_drewN ?_ _ | with_reducible refine Below.drew ?_ | ((with_reducible refine Bset ?_ ?_); focus (first | omega | (simp; done) | (simp; omega))) | ((with_reducible refine Ball ?_ ?_); focus (first | omega | (simp; done) | (simp; omega)))))⟩
  · have hs : sizeErr n = 0 := by unfold sizeErr; rw [if_neg h]
    rw [hs]
    clear hs
    have h1' : ((n : Int) == 0) = false := by rw [beq_eq_false_iff_ne]; omega
    have h2' : ¬ (2147483647 : Int) < n := by omega
    clear h
    go_enter Try.func64, Try.ntmps64
    go_wp2_with (go_at_call 71; refine (kmade_any _).mono ?_; rintro e w1 ⟨⟨pb, rfl⟩, hb1⟩)
    go_ret2
    exact ⟨⟨_, rfl⟩, hb1⟩

theorem scc_any (n : Nat) (w : World) : Calls Try.prog 31 #[.int .u32 n] w fun e w' => (∃ p : Option Addr, e = .returned (.tuple #[.pointer p, .int .i64 (sizeErr n)])) ∧ Below w.heap.size w w' := by
  go_enter Try.func31, Try.ntmps31
  go_wp2_with (go_at_call 64; refine (whole_any n _).mono ?_; rintro e w1 ⟨⟨pb, rfl⟩, hb1⟩)
  go_ret2
  exact ⟨⟨_, rfl⟩, hb1⟩

theorem made_any (p : Option Addr) (x : Int) (w : World) : Calls Try.prog 30 #[.pointer p, .int .i64 x] w fun e w' => e = .returned (.int .i64 x) ∧ w = w' := by
  go_enter Try.func30, Try.ntmps30
  go_wp2
  go_ret
  exact ⟨rfl, rfl⟩

def sitErr (mk n len : Nat) (room need : Int) : Nat := if mk ≠ 0 then mk else if len ≠ n then 180 else if room < need then 94 else 0

set_option maxHeartbeats 400000 in
theorem sit_any (n mk len cap : Nat) (kind room need : Int) (f : Fn) (fx fy : Array Value) (a : Option Addr) (w : World) (hn : n ≤ 4294967295) :
    Calls Try.prog 29 #[.int .u32 n, .int .i64 kind, .func f fx fy, .slice a len cap, .int .i64 room, .int .i64 need, .int .i64 mk] w fun e w' =>
      (sitErr mk n len room need ≠ 0 ∧ e = .returned (.tuple #[.pointer none, .int .i64 (sitErr mk n len room need)]) ∧ w = w') ∨
      (sitErr mk n len room need = 0 ∧ e = .returned (.tuple #[.pointer (some ⟨w.heap.size, 0, none⟩), .int .i64 0]) ∧ w' = w.alloc (.cells #[.int .u32 n, .int .i64 kind, .func f fx fy, .slice a len cap, .bool false, .int .u32 0, .int .i64 0] 75)) := by
  by_cases h1 : mk = 0
  · subst h1
    by_cases h2 : len = n
    · subst h2
      have hw : wrap64 (len : Int) = len := by unfold wrap64; omega
      have h2' : ((len : Int) != (len : Int)) = false := by simp
      by_cases h3 : room < need
      · have hs : sitErr 0 len len room need = 94 := by unfold sitErr; rw [if_neg (by simp), if_neg (by simp), if_pos h3]
        rw [hs]
        clear hs
        go_enter Try.func29, Try.ntmps29
        go_wp2
        go_ret2
        exact Or.inl ⟨by simp, rfl, rfl⟩
      · have hs : sitErr 0 len len room need = 0 := by unfold sitErr; rw [if_neg (by simp), if_neg (by simp), if_neg h3]
        rw [hs]
        clear hs
        go_enter Try.func29, Try.ntmps29
        go_wp2
        go_ret2
        exact ⟨rfl, rfl⟩
    · have hw : wrap64 (n : Int) = n := by unfold wrap64; omega
      have hs : sitErr 0 n len room need = 180 := by unfold sitErr; rw [if_neg (by simp), if_pos h2]
      rw [hs]
      clear hs
      have h2' : ((len : Int) != (n : Int)) = true := by rw [bne_iff_ne]; omega
      clear h2
      go_enter Try.func29, Try.ntmps29
      go_wp2
      go_ret2
      exact Or.inl ⟨by simp, rfl, rfl⟩
  · have hs : sitErr mk n len room need = mk := by unfold sitErr; rw [if_pos h1]
    rw [hs]
    clear hs
    have h1' : ((mk : Int) != 0) = true := by rw [bne_iff_ne]; omega
    go_enter Try.func29, Try.ntmps29
    go_wp2
    go_ret2
    exact Or.inl ⟨h1, rfl, rfl⟩

end Go.Proofs.Ytohmeobfiomfdaa
