/-
  Walks for PeelsNames: what each function answers of a nil program, and the law itself.
-/
import Derived.Test.YtjmggfpomnnegaaRows
import Derived.WalkKit
import Derived.WalkSpells
import Derived.WalkLawsBesides
import Derived.Test.YtjmggfpomnnegaaLaws
namespace Go.Proofs.Ytjmggfpomnnegaa
open Go.RowKit
set_option maxRecDepth 100000
theorem Try.info23 : (Try.prog.info? 23).map (fun i => (i.zero, i.size, i.bytes)) = some (some (.int .u64 0), 1, 8) := by kernel_rfl
@[go_sem] theorem Try.eq25 (w : World) (d : Nat) (a0 a1 a2 a3 a4 a5 a6 a7 b0 b1 b2 b3 b4 b5 b6 b7 : Int) : (Op.equalIn (d + 2) 25 (.agg #[.int .u64 a0, .int .u64 a1, .int .u64 a2, .int .u64 a3, .int .u64 a4, .int .u64 a5, .int .u64 a6, .int .u64 a7]) (.agg #[.int .u64 b0, .int .u64 b1, .int .u64 b2, .int .u64 b3, .int .u64 b4, .int .u64 b5, .int .u64 b6, .int .u64 b7])).run Try.prog w = .ok (a0 == b0 && (a1 == b1 && (a2 == b2 && (a3 == b3 && (a4 == b4 && (a5 == b5 && (a6 == b6 && (a7 == b7)))))))) w := by
  obtain ⟨i, hi, _, hs, _⟩ := info_parts Try.info23
  exact run_equalIn_arr8 w d 25 23 .u64 a0 a1 a2 a3 a4 a5 a6 a7 b0 b1 b2 b3 b4 b5 b6 b7 Try.underlying25 Try.underlying23 hi hs
@[go_sem] theorem Try.eq35 (w : World) (d : Nat) (a0 a1 a2 a3 b0 b1 b2 b3 : Int) : (Op.equalIn (d + 2) 35 (.agg #[.int .u64 a0, .int .u64 a1, .int .u64 a2, .int .u64 a3]) (.agg #[.int .u64 b0, .int .u64 b1, .int .u64 b2, .int .u64 b3])).run Try.prog w = .ok (a0 == b0 && (a1 == b1 && (a2 == b2 && (a3 == b3)))) w := by
  obtain ⟨i, hi, _, hs, _⟩ := info_parts Try.info23
  exact run_equalIn_arr4 w d 35 23 .u64 a0 a1 a2 a3 b0 b1 b2 b3 Try.underlying35 Try.underlying23 hi hs

set_option maxHeartbeats 1000000 in
theorem start_nil (v a b : Value) (w : World) :
    Calls Try.prog 9 #[.pointer none, v, .agg #[a, b]] w fun e w' => e = .returned (.tuple #[.agg #[.int .u64 0, .int .u64 0, .int .u64 0, .int .u64 0, .int .u64 0, .int .u64 0, .int .u64 0, .int .u64 0], .int .i64 1]) ∧ Below w.heap.size w w' := by
  go_enter Try.func9, Try.ntmps9
  go_wp2
  refine bodyPost_ret (v := .tuple #[.agg #[.int .u64 0, .int .u64 0, .int .u64 0, .int .u64 0, .int .u64 0, .int .u64 0, .int .u64 0, .int .u64 0], .int .i64 1]) (by simp [results, Try.results9, go_sem]) rfl ⟨rfl, (by repeat (first | exact Below.refl _ _ | refine Below.alloc ?_ (by first | omega | (simp; done) | (simp; omega)) _ | refine Below.setCell ?_ (by first | omega | (simp; done) | (simp; omega)) _ | refine Below.drew ?_))⟩

set_option maxHeartbeats 1000000 in
theorem scatter_nil (c0 c1 c2 c3 s0 s1 s2 s3 s4 s5 s6 s7 e0 e1 e2 b : Value) (w : World) :
    Calls Try.prog 10 #[.pointer none, .agg #[c0, c1, c2, c3], .agg #[s0, s1, s2, s3, s4, s5, s6, s7], .agg #[e0, e1, e2], b] w fun e w' => e = .returned (.tuple #[.int .u64 0, .int .u64 0, .bool false, .int .i64 1]) ∧ Below w.heap.size w w' := by
  go_enter Try.func10, Try.ntmps10
  go_wp2
  refine bodyPost_ret (v := .tuple #[.int .u64 0, .int .u64 0, .bool false, .int .i64 1]) (by simp [results, Try.results10, go_sem]) rfl ⟨rfl, (by repeat (first | exact Below.refl _ _ | refine Below.alloc ?_ (by first | omega | (simp; done) | (simp; omega)) _ | refine Below.setCell ?_ (by first | omega | (simp; done) | (simp; omega)) _ | refine Below.drew ?_))⟩

set_option maxHeartbeats 1000000 in
theorem apply_nil (c0 c1 c2 c3 a0 a1 a2 a3 a4 a5 a6 a7 s0 s1 s2 s3 s4 s5 s6 s7 v : Value) (w : World) :
    Calls Try.prog 11 #[.pointer none, .agg #[c0, c1, c2, c3], .agg #[a0, a1, a2, a3, a4, a5, a6, a7], v, .agg #[s0, s1, s2, s3, s4, s5, s6, s7]] w fun e w' => e = .returned (.tuple #[.agg #[.int .u64 0, .int .u64 0, .int .u64 0, .int .u64 0, .int .u64 0, .int .u64 0, .int .u64 0, .int .u64 0], .bool false, .int .i64 1]) ∧ Below w.heap.size w w' := by
  go_enter Try.func11, Try.ntmps11
  go_wp2
  refine bodyPost_ret (v := .tuple #[.agg #[.int .u64 0, .int .u64 0, .int .u64 0, .int .u64 0, .int .u64 0, .int .u64 0, .int .u64 0, .int .u64 0], .bool false, .int .i64 1]) (by simp [results, Try.results11, go_sem]) rfl ⟨rfl, (by repeat (first | exact Below.refl _ _ | refine Below.alloc ?_ (by first | omega | (simp; done) | (simp; omega)) _ | refine Below.setCell ?_ (by first | omega | (simp; done) | (simp; omega)) _ | refine Below.drew ?_))⟩

set_option maxHeartbeats 1000000 in
theorem fold_nil (c0 c1 c2 c3 a0 a1 a2 a3 a4 a5 a6 a7 s0 s1 s2 s3 s4 s5 s6 s7 v : Value) (w : World) :
    Calls Try.prog 12 #[.pointer none, .agg #[c0, c1, c2, c3], .agg #[a0, a1, a2, a3, a4, a5, a6, a7], v, .agg #[s0, s1, s2, s3, s4, s5, s6, s7]] w fun e w' => e = .returned (.tuple #[.agg #[.int .u64 0, .int .u64 0, .int .u64 0, .int .u64 0, .int .u64 0, .int .u64 0, .int .u64 0, .int .u64 0], .int .i64 1]) ∧ Below w.heap.size w w' := by
  go_enter Try.func12, Try.ntmps12
  go_wp2
  refine bodyPost_ret (v := .tuple #[.agg #[.int .u64 0, .int .u64 0, .int .u64 0, .int .u64 0, .int .u64 0, .int .u64 0, .int .u64 0, .int .u64 0], .int .i64 1]) (by simp [results, Try.results12, go_sem]) rfl ⟨rfl, (by repeat (first | exact Below.refl _ _ | refine Below.alloc ?_ (by first | omega | (simp; done) | (simp; omega)) _ | refine Below.setCell ?_ (by first | omega | (simp; done) | (simp; omega)) _ | refine Below.drew ?_))⟩

set_option maxHeartbeats 1000000 in
theorem turn_nil (c0 c1 c2 c3 a0 a1 a2 a3 a4 a5 a6 a7 v r : Value) (w : World) :
    Calls Try.prog 13 #[.pointer none, .agg #[c0, c1, c2, c3], .agg #[a0, a1, a2, a3, a4, a5, a6, a7], v, r] w fun e w' => e = .returned (.tuple #[.agg #[.int .u64 0, .int .u64 0, .int .u64 0, .int .u64 0], .bool false, .int .i64 1]) ∧ Below w.heap.size w w' := by
  go_enter Try.func13, Try.ntmps13
  go_wp2
  refine bodyPost_ret (v := .tuple #[.agg #[.int .u64 0, .int .u64 0, .int .u64 0, .int .u64 0], .bool false, .int .i64 1]) (by simp [results, Try.results13, go_sem]) rfl ⟨rfl, (by repeat (first | exact Below.refl _ _ | refine Below.alloc ?_ (by first | omega | (simp; done) | (simp; omega)) _ | refine Below.setCell ?_ (by first | omega | (simp; done) | (simp; omega)) _ | refine Below.drew ?_))⟩

set_option maxHeartbeats 1000000 in
theorem words_nil  (w : World) :
    Calls Try.prog 15 #[.pointer none] w fun e w' => e = .returned (.int .i64 0) ∧ Below w.heap.size w w' := by
  go_enter Try.func15, Try.ntmps15
  go_wp2
  refine bodyPost_ret (v := .int .i64 0) (by simp [results, Try.results15, go_sem]) rfl ⟨rfl, (by repeat (first | exact Below.refl _ _ | refine Below.alloc ?_ (by first | omega | (simp; done) | (simp; omega)) _ | refine Below.setCell ?_ (by first | omega | (simp; done) | (simp; omega)) _ | refine Below.drew ?_))⟩

set_option maxHeartbeats 1000000 in
theorem both_nil  (w : World) :
    Calls Try.prog 16 #[.pointer none] w fun e w' => e = .returned (.bool false) ∧ Below w.heap.size w w' := by
  go_enter Try.func16, Try.ntmps16
  go_wp2
  refine bodyPost_ret (v := .bool false) (by simp [results, Try.results16, go_sem]) rfl ⟨rfl, (by repeat (first | exact Below.refl _ _ | refine Below.alloc ?_ (by first | omega | (simp; done) | (simp; omega)) _ | refine Below.setCell ?_ (by first | omega | (simp; done) | (simp; omega)) _ | refine Below.drew ?_))⟩

set_option maxHeartbeats 1000000 in
theorem sink_nil  (w : World) :
    Calls Try.prog 17 #[.pointer none] w fun e w' => e = .returned (.agg #[.int .i64 0, .int .i64 0, .int .i64 0, .int .i64 0]) ∧ Below w.heap.size w w' := by
  go_enter Try.func17, Try.ntmps17
  go_wp2
  refine bodyPost_ret (v := .agg #[.int .i64 0, .int .i64 0, .int .i64 0, .int .i64 0]) (by simp [results, Try.results17, go_sem]) rfl ⟨rfl, (by repeat (first | exact Below.refl _ _ | refine Below.alloc ?_ (by first | omega | (simp; done) | (simp; omega)) _ | refine Below.setCell ?_ (by first | omega | (simp; done) | (simp; omega)) _ | refine Below.drew ?_))⟩

theorem bcell {W w1 : World} (hb : Below W.heap.size W w1) : (∀ b o, b < W.heap.size → w1.cell? ⟨b, o, none⟩ = W.cell? ⟨b, o, none⟩) ∧ (∀ b o, b < W.heap.size → w1.frozen? ⟨b, o, none⟩ = W.frozen? ⟨b, o, none⟩) :=
  ⟨fun b o h => hb.cell (p := ⟨b, o, none⟩) h, fun b o h => hb.frozen (p := ⟨b, o, none⟩) h⟩
theorem num_any (x : Value) (w : World) : Calls Try.prog 14 #[x] w fun e w' => e = .returned x ∧ w = w' := by
  go_enter Try.func14, Try.ntmps14
  go_wp2
  go_ret
  exact ⟨rfl, rfl⟩
set_option maxHeartbeats 1000000 in
theorem names_any (w : World) :
    Calls Try.prog 3 #[] w fun e w' => e = .returned (.bool true) ∧ Below w.heap.size w w' := by
  go_enter Try.func3, Try.ntmps3
  go_wp2_with (first | (go_at_call 9; refine (start_nil _ _ _ _ ).mono ?_; rintro e w1 ⟨rfl, hb1⟩; obtain ⟨hc1, hf1⟩ := bcell hb1; have hz1 := hb1.size; (try rw [World.size_alloc] at hz1)) | (go_at_call 10; refine (scatter_nil _ _ _ _ _ _ _ _ _ _ _ _ _ _ _ _ _ ).mono ?_; rintro e w2 ⟨rfl, hb2⟩; obtain ⟨hc2, hf2⟩ := bcell hb2; have hz2 := hb2.size; (try rw [World.size_alloc] at hz2); have l12 : w1.heap.size < w2.heap.size := (by omega); have m12 : w1.heap.size ≤ w2.heap.size := (by omega)) | (go_at_call 11; refine (apply_nil _ _ _ _ _ _ _ _ _ _ _ _ _ _ _ _ _ _ _ _ _ _ ).mono ?_; rintro e w3 ⟨rfl, hb3⟩; obtain ⟨hc3, hf3⟩ := bcell hb3; have hz3 := hb3.size; (try rw [World.size_alloc] at hz3); have l13 : w1.heap.size < w3.heap.size := (by omega); have m13 : w1.heap.size ≤ w3.heap.size := (by omega)) | (go_at_call 12; refine (fold_nil _ _ _ _ _ _ _ _ _ _ _ _ _ _ _ _ _ _ _ _ _ _ ).mono ?_; rintro e w4 ⟨rfl, hb4⟩; obtain ⟨hc4, hf4⟩ := bcell hb4; have hz4 := hb4.size; (try rw [World.size_alloc] at hz4); have l14 : w1.heap.size < w4.heap.size := (by omega); have m14 : w1.heap.size ≤ w4.heap.size := (by omega); have l34 : w3.heap.size < w4.heap.size := (by omega); have m34 : w3.heap.size ≤ w4.heap.size := (by omega)) | (go_at_call 13; refine (turn_nil _ _ _ _ _ _ _ _ _ _ _ _ _ _ _ ).mono ?_; rintro e w5 ⟨rfl, hb5⟩; obtain ⟨hc5, hf5⟩ := bcell hb5; have hz5 := hb5.size; (try rw [World.size_alloc] at hz5); have l15 : w1.heap.size < w5.heap.size := (by omega); have m15 : w1.heap.size ≤ w5.heap.size := (by omega); have l35 : w3.heap.size < w5.heap.size := (by omega); have m35 : w3.heap.size ≤ w5.heap.size := (by omega); have l45 : w4.heap.size < w5.heap.size := (by omega); have m45 : w4.heap.size ≤ w5.heap.size := (by omega)) | (go_at_call 15; refine (words_nil _ ).mono ?_; rintro e w6 ⟨rfl, hb6⟩; obtain ⟨hc6, hf6⟩ := bcell hb6; have hz6 := hb6.size; (try rw [World.size_alloc] at hz6); have l16 : w1.heap.size < w6.heap.size := (by omega); have m16 : w1.heap.size ≤ w6.heap.size := (by omega); have l36 : w3.heap.size < w6.heap.size := (by omega); have m36 : w3.heap.size ≤ w6.heap.size := (by omega); have l46 : w4.heap.size < w6.heap.size := (by omega); have m46 : w4.heap.size ≤ w6.heap.size := (by omega); have l56 : w5.heap.size < w6.heap.size := (by omega); have m56 : w5.heap.size ≤ w6.heap.size := (by omega)) | (go_at_call 16; refine (both_nil _ ).mono ?_; rintro e w7 ⟨rfl, hb7⟩; obtain ⟨hc7, hf7⟩ := bcell hb7; have hz7 := hb7.size; (try rw [World.size_alloc] at hz7); have l17 : w1.heap.size < w7.heap.size := (by omega); have m17 : w1.heap.size ≤ w7.heap.size := (by omega); have l37 : w3.heap.size < w7.heap.size := (by omega); have m37 : w3.heap.size ≤ w7.heap.size := (by omega); have l47 : w4.heap.size < w7.heap.size := (by omega); have m47 : w4.heap.size ≤ w7.heap.size := (by omega); have l57 : w5.heap.size < w7.heap.size := (by omega); have m57 : w5.heap.size ≤ w7.heap.size := (by omega)) | (go_at_call 17; refine (sink_nil _ ).mono ?_; rintro e w8 ⟨rfl, hb8⟩; obtain ⟨hc8, hf8⟩ := bcell hb8; have hz8 := hb8.size; (try rw [World.size_alloc] at hz8); have l18 : w1.heap.size < w8.heap.size := (by omega); have m18 : w1.heap.size ≤ w8.heap.size := (by omega); have l38 : w3.heap.size < w8.heap.size := (by omega); have m38 : w3.heap.size ≤ w8.heap.size := (by omega); have l48 : w4.heap.size < w8.heap.size := (by omega); have m48 : w4.heap.size ≤ w8.heap.size := (by omega); have l58 : w5.heap.size < w8.heap.size := (by omega); have m58 : w5.heap.size ≤ w8.heap.size := (by omega)) | (go_at_call 14; refine (num_any _ _).mono ?_; rintro e w9 ⟨rfl, rfl⟩))
  go_ret
  refine ⟨rfl, ?_⟩
  repeat (first | exact Below.refl _ _ | exact hb1 | refine Below.trans ?_ (hb8.mono (by first | omega | (simp; omega))) | refine Below.trans ?_ (hb7.mono (by first | omega | (simp; omega))) | refine Below.trans ?_ (hb6.mono (by first | omega | (simp; omega))) | refine Below.trans ?_ (hb5.mono (by first | omega | (simp; omega))) | refine Below.trans ?_ (hb4.mono (by first | omega | (simp; omega))) | refine Below.trans ?_ (hb3.mono (by first | omega | (simp; omega))) | refine Below.trans ?_ (hb2.mono (by first | omega | (simp; omega))) | refine Below.alloc ?_ (by first | omega | (simp; done) | (simp; omega)) _ | refine Below.setCell ?_ (by first | omega | (simp; done) | (simp; omega)) _ | refine Below.drew ?_)
end Go.Proofs.Ytjmggfpomnnegaa
