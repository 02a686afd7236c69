/-
  The greatest common divisor (program and reference), Check, place, RankOf.
-/
import Derived.Test.YtjmggfpomnnegaaRows
import Derived.WalkKit
import Derived.WalkSpells
import Derived.WalkLawsBesides
import Derived.Deep.QuietTactic
import Derived.BigQuiet
import Derived.Lib.Hide
import Derived.Test.YtjmggfpomnnegaaLaws
namespace Go.Proofs.Ytjmggfpomnnegaa
open Go.RowKit
set_option maxRecDepth 100000

theorem bcell {W w1 : World} (hb : Below W.heap.size W w1) : (∀ b o, b < W.heap.size → w1.cell? ⟨b, o, none⟩ = W.cell? ⟨b, o, none⟩) ∧ (∀ b o, b < W.heap.size → w1.frozen? ⟨b, o, none⟩ = W.frozen? ⟨b, o, none⟩) :=
  ⟨fun b o h => hb.cell (p := ⟨b, o, none⟩) h, fun b o h => hb.frozen (p := ⟨b, o, none⟩) h⟩
theorem Bset {B : Nat} {a w : World} {p : Addr} {u : Value} (hp : B ≤ p.block) (h : Below B a w) : Below B a (w.setCell p u) := h.setCell hp u
theorem Ball {B : Nat} {a w : World} {o : Obj} (hB : B ≤ w.heap.size) (h : Below B a w) : Below B a (w.alloc o) := h.alloc hB o
theorem ret_int {k : IntKind} {a b : Int} (h : a = b) : Ending.returned (.int k a) = .returned (.int k b) := by rw [h]

set_option maxHeartbeats 400000 in
theorem common_any (a b : Nat) (w : World) (ha : a ≤ 4294967295) (hb : b ≤ 4294967295) :
    Calls Try.prog 59 #[.int .u32 a, .int .u32 b] w fun e w' => e = .returned (.int .u32 (Nat.gcd a b)) ∧ ∃ n, w' = w.drewN n := by
  go_enter Try.func59, Try.ntmps59
  go_wp2
  go_loopw [0, 1] (fun x y wr => ∃ p q n : Nat, x = .int .u32 p ∧ y = .int .u32 q ∧ p ≤ 4294967295 ∧ q ≤ 4294967295 ∧ Nat.gcd p q = Nat.gcd a b ∧ wr = w.drewN n) (fun _ y _ => (intOf y).toNat)
  case atStart => exact ⟨a, b, 0, rfl, rfl, ha, hb, rfl, rfl⟩
  case round =>
    obtain ⟨p, q, n, rfl, rfl, hp, hq, hg, rfl⟩ := hrel
    have HG := Lib.hid hg
    clear hg
    by_cases h0 : 0 < q
    · have hne : ¬ q = 0 := by omega
      go_wp2
      go_quiet (fail)
      go_wp2
      go_roundw
      case rel => exact ⟨q, p % q, _, rfl, by go_num, hq, by have := Nat.mod_lt p h0; omega, by rw [← HG.out, Nat.gcd_comm q (p % q), ← Nat.gcd_rec, Nat.gcd_comm], World.drewN_drewN _ _ _⟩
      case measure =>
        have := Nat.mod_lt p h0
        simp only [intOf]
        omega
    · obtain rfl : q = 0 := by omega
      have hg2 : ((p : Nat) : Int) = (Nat.gcd a b : Nat) := by rw [← HG.out]; simp
      have HG2 := Lib.hid hg2
      clear HG hg2
      go_wp2
      go_ret
      exact ⟨ret_int HG2.out, _, rfl⟩


set_option maxHeartbeats 400000 in
theorem divisor_any (a b : Nat) (w : World) (ha : a ≤ 18446744073709551615) (hb : b ≤ 18446744073709551615) :
    Calls Try.prog 42 #[.int .u64 a, .int .u64 b] w fun e w' => e = .returned (.int .u64 (Nat.gcd a b)) ∧ w = w' := by
  go_enter Try.func42, Try.ntmps42
  go_wp2
  go_loop [0, 1, 5] (fun x y _ => ∃ p q : Nat, x = .int .u64 p ∧ y = .int .u64 q ∧ p ≤ 18446744073709551615 ∧ q ≤ 18446744073709551615 ∧ Nat.gcd p q = Nat.gcd a b) (fun _ y _ => (intOf y).toNat)
  case atStart => exact ⟨a, b, rfl, rfl, ha, hb, rfl⟩
  case round =>
    obtain ⟨p, q, rfl, rfl, hp, hq, hg⟩ := hrel
    have HG := Lib.hid hg
    clear hg
    by_cases h0 : 0 < q
    · have hne : ¬ q = 0 := by omega
      go_wp2
      go_round
      case rel => exact ⟨q, p % q, rfl, by go_num, hq, by have := Nat.mod_lt p h0; omega, by rw [← HG.out, Nat.gcd_comm q (p % q), ← Nat.gcd_rec, Nat.gcd_comm]⟩
      case measure =>
        have := Nat.mod_lt p h0
        simp only [intOf]
        omega
    · obtain rfl : q = 0 := by omega
      have hg2 : ((p : Nat) : Int) = (Nat.gcd a b : Nat) := by rw [← HG.out]; simp
      have HG2 := Lib.hid hg2
      clear HG hg2
      go_wp2
      go_ret
      exact ⟨ret_int HG2.out, rfl⟩

/-- An order that is one. -/
def RankOk (n a c : Nat) : Prop := 1 ≤ n ∧ n ≤ 2147483647 ∧ a < n ∧ c < n ∧ Nat.gcd a n = 1

set_option maxHeartbeats 400000 in
theorem check_ok (n a c : Nat) (w : World) (hr : RankOk n a c) :
    Calls Try.prog 53 #[.agg #[.int .u32 n, .int .u32 a, .int .u32 c]] w fun e w' => e = .returned (.int .i64 0) ∧ Below w.heap.size w w' := by
  obtain ⟨h1, h2, h3, h4, h5⟩ := hr
  have HG := Lib.hid h5
  clear h5
  go_enter Try.func53, Try.ntmps53
  have hd : (Value.int .u32 ((Nat.gcd a n : Nat) : Int)) = .int .u32 1 := by rw [HG.out]; rfl
  have HD := Lib.hid hd
  clear HG hd
  go_wp2_with (go_at_call 59; refine (common_any _ _ _ (by omega) (by omega)).mono ?_; rintro e w1 ⟨rfl, nn, rfl⟩; rw [HD.out])
  go_ret
  exact ⟨rfl, (by repeat (first | exact Below.refl _ _ | assumption | refine below_drewN ?_ _ | refine Below.drew ?_ | refine Below.alloc ?_ (by first | omega | (simp; done) | (simp; omega)) _ | refine Below.setCell ?_ (by first | omega | (simp; done) | (simp; omega)) _))⟩

theorem placeVal (n a c v : Nat) (h1 : 1 ≤ n) (h2 : n ≤ 2147483647) (ha : a ≤ 2147483647) (hc : c ≤ 2147483647) (hv : v ≤ 2147483647) :
    (IntKind.u64.wrap (IntKind.u64.wrap ((a : Int) * v) + c)).tmod n % 4294967296 = (((a * v + c) % n : Nat) : Int) := by
  have hm : a * v ≤ 2147483647 * 2147483647 := Nat.mul_le_mul ha hv
  have e1 : IntKind.u64.wrap ((a : Int) * v) = ((a * v : Nat) : Int) := by
    rw [← Int.natCast_mul]
    generalize a * v = x at hm ⊢
    rw [IntKind.wrap_u64]
    omega
  rw [e1]
  generalize a * v = x at hm ⊢
  have e2 : IntKind.u64.wrap (((x : Nat) : Int) + c) = ((x + c : Nat) : Int) := by
    rw [IntKind.wrap_u64]
    omega
  rw [e2, ← Int.ofNat_tmod]
  have : (x + c) % n < n := Nat.mod_lt _ h1
  generalize (x + c) % n = y at this ⊢
  omega

set_option maxHeartbeats 400000 in
theorem place_ok (n a c v : Nat) (w : World) (hr : RankOk n a c) (hv : v < n) :
    Calls Try.prog 95 #[.agg #[.int .u32 n, .int .u32 a, .int .u32 c], .int .u32 v] w fun e w' => e = .returned (.tuple #[.int .u32 ((a * v + c) % n : Nat), .int .i64 0]) ∧ Below w.heap.size w w' := by
  obtain ⟨h1, h2, h3, h4, h5⟩ := hr
  clear h5
  go_enter Try.func95, Try.ntmps95
  go_wp2_with fail
  go_ret2
  exact ⟨congrArg (fun x => Ending.returned (.tuple #[.int .u32 x, .int .i64 0])) (placeVal n a c v h1 h2 (by omega) (by omega) (by omega)), (by repeat (first | exact Below.refl _ _ | assumption | refine below_drewN ?_ _ | refine Below.drew ?_ | refine Below.alloc ?_ (by first | omega | (simp; done) | (simp; omega)) _ | refine Below.setCell ?_ (by first | omega | (simp; done) | (simp; omega)) _))⟩

theorem gcd_one_lt {n a : Nat} (h : Nat.gcd a n ≠ 1) : a ≠ 1 := by
  rintro rfl; simp at h

def rankMeas (n a : Nat) : Nat := if a ≤ 1 then 1 - a else n + 1 - a

theorem rankMeas_step {n a : Nat} (ha : a < n) (h : Nat.gcd a n ≠ 1) : rankMeas n ((a + 1) % n) < rankMeas n a := by
  have hn : n ≠ 1 := by rintro rfl; exact h (Nat.gcd_one_right a)
  have hne := gcd_one_lt h
  by_cases he : a + 1 = n
  · rw [he, Nat.mod_self]
    unfold rankMeas
    by_cases h2 : n = 2
    · omega
    · rw [if_pos (by omega), if_neg (by omega)]; omega
  · rw [Nat.mod_eq_of_lt (by omega)]
    unfold rankMeas
    by_cases h0 : a = 0
    · subst h0; simp
    · rw [if_neg (by omega), if_neg (by omega)]; omega

set_option maxHeartbeats 400000 in
theorem rankOf_any (n seed : Nat) (w : World) (h1 : 1 ≤ n) (h2 : n ≤ 2147483647) (hs : seed ≤ 18446744073709551615) :
    Calls Try.prog 32 #[.int .u32 n, .int .u64 seed] w fun e w' => ∃ a c : Nat, e = .returned (.tuple #[.agg #[.int .u32 n, .int .u32 a, .int .u32 c], .int .i64 0]) ∧ RankOk n a c ∧ Below w.heap.size w w' := by
  have hn0 : ¬ n = 0 := by omega
  go_enter Try.func32, Try.ntmps32
  go_wp2
  go_loop [6] (fun x => ∃ a : Nat, x = .int .u64 a ∧ a < n) (fun x => rankMeas n (intOf x).toNat)
  case atStart => exact ⟨seed / 4294967296 % n, by simp, Nat.mod_lt _ h1⟩
  case round =>
    obtain ⟨a, rfl, ha⟩ := hrel
    have hwrap : IntKind.u64.wrap ((a : Int) + 1) = ((a + 1 : Nat) : Int) := by rw [IntKind.wrap_u64]; omega
    by_cases hg : Nat.gcd a n = 1
    · have hgi : ((Nat.gcd a n : Nat) : Int) = 1 := by rw [hg]; rfl
      have HG := Lib.hid hgi
      clear hgi
      go_wp2_with fail
      refine (divisor_any _ _ _ (by omega) (by omega)).mono ?_
      rintro e w1 ⟨rfl, rfl⟩
      rw [HG.out]
      go_wp2
      refine bodyPost_ret (v := .tuple #[.agg #[.int .u32 n, .int .u32 a, .int .u32 (seed % n : Nat)], .int .i64 0]) ?_ rfl ⟨a, seed % n, rfl, ⟨h1, h2, ha, Nat.mod_lt _ h1, hg⟩, (by repeat (first | exact Below.refl _ _ | assumption | refine below_drewN ?_ _ | refine Below.drew ?_ | refine Below.alloc ?_ (by first | omega | (simp; done) | (simp; omega)) _ | refine Below.setCell ?_ (by first | omega | (simp; done) | (simp; omega)) _))⟩
      have hm := Nat.mod_lt seed (by omega : n > 0)
      have he : (seed : Int) % n % 4294967296 = seed % n := by
        rw [← Int.natCast_emod]
        omega
      simp [results, Try.results32, go_sem, he]
    · have hne : (((Nat.gcd a n : Nat) : Int) != 1) = true := by simp; omega
      go_wp2_with fail
      refine (divisor_any _ _ _ (by omega) (by omega)).mono ?_
      rintro e w1 ⟨rfl, rfl⟩
      generalize hgg : Nat.gcd a n = g at hne
      have HG := Lib.hid hgg
      clear hgg
      go_wp2
      go_round
      case rel => exact ⟨(a + 1) % n, by simp, Nat.mod_lt _ h1⟩
      case measure =>
        have he : (((a : Int) + 1) % n).toNat = (a + 1) % n := by
          have : ((a : Int) + 1) % n = (((a + 1) % n : Nat) : Int) := by simp
          rw [this, Int.toNat_natCast]
        simp only [intOf, he, Int.toNat_natCast]
        exact rankMeas_step ha hg

set_option maxHeartbeats 400000 in
theorem size_any (many seed : Nat) (w : World) (hs : seed ≤ 18446744073709551615) :
    Calls Try.prog 35 #[.int .u32 many, .int .u64 seed] w fun e w' => ∃ n a c : Nat, e = .returned (.tuple #[.int .u32 n, .agg #[.int .u32 n, .int .u32 a, .int .u32 c]]) ∧ n = 1 + many % 24 ∧ RankOk n a c ∧ Below w.heap.size w w' := by
  go_enter Try.func35, Try.ntmps35
  obtain ⟨n, hn⟩ : ∃ n : Nat, n = 1 + many % 24 := ⟨_, rfl⟩
  have he : (1 + (many : Int) % 24) = (n : Int) := by omega
  have HE := Lib.hid he
  have hn1 : 1 ≤ n := by omega
  have hn2 : n ≤ 2147483647 := by omega
  clear he
  go_wp2_with fail
  rw [HE.out]
  refine (rankOf_any n seed _ hn1 hn2 hs).mono ?_
  rintro e w1 ⟨a, c, rfl, hr, hb1⟩
  obtain ⟨hc1, hf1⟩ := bcell hb1
  have hz1 := hb1.size
  rw [World.size_alloc] at hz1
  have hz2 : w.heap.size < w1.heap.size := by omega
  go_wp2
  have hbb : Below w.heap.size w w1 := ((Below.refl _ _).alloc (Nat.le_refl _) _).trans (hb1.mono (by simp))
  go_region
  all_goals (try go_wp2)
  all_goals
    (refine bodyPost_ret (v := .tuple #[.int .u32 n, .agg #[.int .u32 n, .int .u32 a, .int .u32 c]]) (by simp [results, Try.results35, go_sem, HE.out, hc1, hz2]) rfl ⟨n, a, c, rfl, hn, hr, (by repeat (first | exact Below.refl _ _ | assumption | refine below_drewN ?_ _ | refine Below.drew ?_ | refine Below.alloc ?_ (by first | omega | (simp; done) | (simp; omega)) _ | refine Below.setCell ?_ (by first | omega | (simp; done) | (simp; omega)) _))⟩)

end Go.Proofs.Ytjmggfpomnnegaa
