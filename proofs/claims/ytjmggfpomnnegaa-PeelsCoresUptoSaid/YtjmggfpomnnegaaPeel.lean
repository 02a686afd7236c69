/-
  (*Peel).Start, Scatter, Apply, Fold, Turn, Sink of Set and of Core: their methods' contracts are premises.
-/
import Derived.Test.YtjmggfpomnnegaaSet
namespace Go.Proofs.Ytjmggfpomnnegaa
open Go.RowKit
set_option maxRecDepth 100000
@[go_sem] theorem m_core_start (w : World) : (method 257 105 (.agg #[]) "sluice/peels.start").run Try.prog w = .ok (82, .agg #[]) w := by kernel_rfl
@[go_sem] theorem m_core_sink (w : World) : (method 257 105 (.agg #[]) "sluice/peels.sink").run Try.prog w = .ok (81, .agg #[]) w := by kernel_rfl
@[go_sem] theorem m_core_turn (w : World) : (method 257 105 (.agg #[]) "sluice/peels.turn").run Try.prog w = .ok (83, .agg #[]) w := by kernel_rfl
@[go_sem] theorem m_core_fold (w : World) : (method 257 105 (.agg #[]) "sluice/peels.fold").run Try.prog w = .ok (79, .agg #[]) w := by kernel_rfl
@[go_sem] theorem m_core_scatter (w : World) : (method 257 105 (.agg #[]) "sluice/peels.scatter").run Try.prog w = .ok (80, .agg #[]) w := by kernel_rfl
@[go_sem] theorem m_core_apply (w : World) : (method 257 105 (.agg #[]) "sluice/peels.apply").run Try.prog w = .ok (78, .agg #[]) w := by kernel_rfl

set_option maxHeartbeats 1000000 in
theorem set_start (pb : Nat) (n a c : Value) (v o i : Value) (x0 x1 x2 x3 x4 x5 x6 x7 : Nat) (w : World) (hp : w.cell? ⟨pb, 0, none⟩ = some (.iface 120 (.agg #[n, a, c])))
    (hF : ∀ w, Calls Try.prog 87 #[.agg #[n, a, c], v, .agg #[o, i]] w fun e w' => e = .returned (.tuple #[.agg #[.int .u64 x0, .int .u64 x1, .int .u64 x2, .int .u64 x3, .int .u64 x4, .int .u64 x5, .int .u64 x6, .int .u64 x7], .int .i64 0]) ∧ Below w.heap.size w w') :
    Calls Try.prog 9 #[.pointer (some ⟨pb, 0, none⟩), v, .agg #[o, i]] w fun e w' => e = .returned (.tuple #[.agg #[.int .u64 x0, .int .u64 x1, .int .u64 x2, .int .u64 x3, .int .u64 x4, .int .u64 x5, .int .u64 x6, .int .u64 x7], .int .i64 0]) ∧ Below w.heap.size w w' := by
  have hpb := World.block_lt_of_cell? w _ hp
  simp only [] at hpb
  have hne0 : ¬ pb = w.heap.size := by omega
  have hnf0 : ¬ w.heap.size = pb := by omega
  have hnl0 : pb ≤ w.heap.size := by omega
  have hnt0 : pb < w.heap.size := by omega
  have hne1 : ¬ pb = w.heap.size + 1 := by omega
  have hnf1 : ¬ w.heap.size + 1 = pb := by omega
  have hnl1 : pb ≤ w.heap.size + 1 := by omega
  have hnt1 : pb < w.heap.size + 1 := by omega
  have HF := Lib.hid hF
  clear hF
  go_enter Try.func9, Try.ntmps9
  go_wp2_with fail
  go_region_held3 (fun w1 => w1.cell? ⟨pb, 0, none⟩ = some (.iface 120 (.agg #[n, a, c])) ∧ w1.cell? ⟨w.heap.size, 0, none⟩ = some o ∧ w1.cell? ⟨w.heap.size, 1, none⟩ = some i) (first | (go_keep; done) | ((repeat' apply And.intro) <;> (first | with_reducible assumption | (go_simp; done))) | (go_split_ands; (repeat' apply And.intro) <;> (first | with_reducible assumption | (go_simp; done))) | (go_split_ands; (repeat' apply And.intro) <;> (rw [hb2.cell (by first | omega | (simp; done) | (simp; omega))]; first | with_reducible assumption | (simp; done)))) ((refine (HF.out _).mono ?_; rintro e w2 ⟨rfl, hb2⟩; obtain ⟨hc2, hf2⟩ := bcell hb2; have hz2 := hb2.size; (try simp only [World.size_alloc] at hz2)))
  go_wp2
  have d0 : w2.cell? ⟨w.heap.size + 1, 0, none⟩ = some (.int .u64 0) := by rw [hc2 _ _ (by simp)]; go_simp
  have d1 : w2.cell? ⟨w.heap.size + 1, 1, none⟩ = some (.int .u64 0) := by rw [hc2 _ _ (by simp)]; go_simp
  have d2 : w2.cell? ⟨w.heap.size + 1, 2, none⟩ = some (.int .u64 0) := by rw [hc2 _ _ (by simp)]; go_simp
  have d3 : w2.cell? ⟨w.heap.size + 1, 3, none⟩ = some (.int .u64 0) := by rw [hc2 _ _ (by simp)]; go_simp
  have d4 : w2.cell? ⟨w.heap.size + 1, 4, none⟩ = some (.int .u64 0) := by rw [hc2 _ _ (by simp)]; go_simp
  have d5 : w2.cell? ⟨w.heap.size + 1, 5, none⟩ = some (.int .u64 0) := by rw [hc2 _ _ (by simp)]; go_simp
  have d6 : w2.cell? ⟨w.heap.size + 1, 6, none⟩ = some (.int .u64 0) := by rw [hc2 _ _ (by simp)]; go_simp
  have d7 : w2.cell? ⟨w.heap.size + 1, 7, none⟩ = some (.int .u64 0) := by rw [hc2 _ _ (by simp)]; go_simp
  have hbb : Below w.heap.size w w2 := Below.trans (by repeat (first | with_reducible exact Below.refl _ _ | with_reducible assumption | with_reducible refine below_drewN ?_ _ | with_reducible refine Below.drew ?_ | ((with_reducible refine Bset ?_ ?_); focus (first | omega | (simp; done) | (simp; omega))) | ((with_reducible refine Ball ?_ ?_); focus (first | omega | (simp; done) | (simp; omega))))) (hb2.mono (by simp; try omega))
  refine bodyPost_ret (v := .tuple #[.agg #[.int .u64 x0, .int .u64 x1, .int .u64 x2, .int .u64 x3, .int .u64 x4, .int .u64 x5, .int .u64 x6, .int .u64 x7], .int .i64 0]) (by simp (maxDischargeDepth := 8) [results, Try.results9, go_sem, d0, d1, d2, d3, d4, d5, d6, d7]) rfl ⟨rfl, (by repeat (first | with_reducible exact Below.refl _ _ | with_reducible assumption | with_reducible refine below_drewN ?_ _ | with_reducible refine Below.drew ?_ | ((with_reducible refine Bset ?_ ?_); focus (first | omega | (simp; done) | (simp; omega))) | ((with_reducible refine Ball ?_ ?_); focus (first | omega | (simp; done) | (simp; omega)))))⟩

set_option maxHeartbeats 1000000 in
theorem set_apply (pb : Nat) (n a c : Value) (v : Value) (k0 k1 k2 k3 g0 g1 g2 g3 g4 g5 g6 g7 s0 s1 s2 s3 s4 s5 s6 s7 x0 x1 x2 x3 x4 x5 x6 x7 : Nat) (b : Bool) (w : World) (hp : w.cell? ⟨pb, 0, none⟩ = some (.iface 120 (.agg #[n, a, c])))
    (hF : ∀ w, Calls Try.prog 96 #[.agg #[n, a, c], .agg #[.int .u64 k0, .int .u64 k1, .int .u64 k2, .int .u64 k3], v, .agg #[.int .u64 s0, .int .u64 s1, .int .u64 s2, .int .u64 s3, .int .u64 s4, .int .u64 s5, .int .u64 s6, .int .u64 s7]] w fun e w' => e = .returned (.tuple #[.agg #[.int .u64 x0, .int .u64 x1, .int .u64 x2, .int .u64 x3, .int .u64 x4, .int .u64 x5, .int .u64 x6, .int .u64 x7], .bool b, .int .i64 0]) ∧ Below w.heap.size w w') :
    Calls Try.prog 11 #[.pointer (some ⟨pb, 0, none⟩), .agg #[.int .u64 k0, .int .u64 k1, .int .u64 k2, .int .u64 k3], .agg #[.int .u64 g0, .int .u64 g1, .int .u64 g2, .int .u64 g3, .int .u64 g4, .int .u64 g5, .int .u64 g6, .int .u64 g7], v, .agg #[.int .u64 s0, .int .u64 s1, .int .u64 s2, .int .u64 s3, .int .u64 s4, .int .u64 s5, .int .u64 s6, .int .u64 s7]] w fun e w' => e = .returned (.tuple #[.agg #[.int .u64 x0, .int .u64 x1, .int .u64 x2, .int .u64 x3, .int .u64 x4, .int .u64 x5, .int .u64 x6, .int .u64 x7], .bool b, .int .i64 0]) ∧ Below w.heap.size w w' := by
  have hpb := World.block_lt_of_cell? w _ hp
  simp only [] at hpb
  have hne0 : ¬ pb = w.heap.size := by omega
  have hnf0 : ¬ w.heap.size = pb := by omega
  have hnl0 : pb ≤ w.heap.size := by omega
  have hnt0 : pb < w.heap.size := by omega
  have hne1 : ¬ pb = w.heap.size + 1 := by omega
  have hnf1 : ¬ w.heap.size + 1 = pb := by omega
  have hnl1 : pb ≤ w.heap.size + 1 := by omega
  have hnt1 : pb < w.heap.size + 1 := by omega
  have hne2 : ¬ pb = w.heap.size + 1 + 1 := by omega
  have hnf2 : ¬ w.heap.size + 1 + 1 = pb := by omega
  have hnl2 : pb ≤ w.heap.size + 1 + 1 := by omega
  have hnt2 : pb < w.heap.size + 1 + 1 := by omega
  have hne3 : ¬ pb = w.heap.size + 1 + 1 + 1 := by omega
  have hnf3 : ¬ w.heap.size + 1 + 1 + 1 = pb := by omega
  have hnl3 : pb ≤ w.heap.size + 1 + 1 + 1 := by omega
  have hnt3 : pb < w.heap.size + 1 + 1 + 1 := by omega
  have HF := Lib.hid hF
  clear hF
  go_enter Try.func11, Try.ntmps11
  go_wp2_with fail
  go_region_held3 (fun w1 => w1.cell? ⟨pb, 0, none⟩ = some (.iface 120 (.agg #[n, a, c])) ∧ w1.cell? ⟨w.heap.size, 0, none⟩ = some (.int .u64 k0) ∧ w1.cell? ⟨w.heap.size, 1, none⟩ = some (.int .u64 k1) ∧ w1.cell? ⟨w.heap.size, 2, none⟩ = some (.int .u64 k2) ∧ w1.cell? ⟨w.heap.size, 3, none⟩ = some (.int .u64 k3) ∧ w1.cell? ⟨w.heap.size + 1 + 1, 0, none⟩ = some (.int .u64 s0) ∧ w1.cell? ⟨w.heap.size + 1 + 1, 1, none⟩ = some (.int .u64 s1) ∧ w1.cell? ⟨w.heap.size + 1 + 1, 2, none⟩ = some (.int .u64 s2) ∧ w1.cell? ⟨w.heap.size + 1 + 1, 3, none⟩ = some (.int .u64 s3) ∧ w1.cell? ⟨w.heap.size + 1 + 1, 4, none⟩ = some (.int .u64 s4) ∧ w1.cell? ⟨w.heap.size + 1 + 1, 5, none⟩ = some (.int .u64 s5) ∧ w1.cell? ⟨w.heap.size + 1 + 1, 6, none⟩ = some (.int .u64 s6) ∧ w1.cell? ⟨w.heap.size + 1 + 1, 7, none⟩ = some (.int .u64 s7)) (first | (go_keep; done) | ((repeat' apply And.intro) <;> (first | with_reducible assumption | (go_simp; done))) | (go_split_ands; (repeat' apply And.intro) <;> (first | with_reducible assumption | (go_simp; done))) | (go_split_ands; (repeat' apply And.intro) <;> (rw [hb2.cell (by first | omega | (simp; done) | (simp; omega))]; first | with_reducible assumption | (simp; done)))) ((refine (HF.out _).mono ?_; rintro e w2 ⟨rfl, hb2⟩; obtain ⟨hc2, hf2⟩ := bcell hb2; have hz2 := hb2.size; (try simp only [World.size_alloc] at hz2)))
  go_wp2
  have d0 : w2.cell? ⟨w.heap.size + 1 + 1 + 1, 0, none⟩ = some (.int .u64 0) := by rw [hc2 _ _ (by simp)]; go_simp
  have d1 : w2.cell? ⟨w.heap.size + 1 + 1 + 1, 1, none⟩ = some (.int .u64 0) := by rw [hc2 _ _ (by simp)]; go_simp
  have d2 : w2.cell? ⟨w.heap.size + 1 + 1 + 1, 2, none⟩ = some (.int .u64 0) := by rw [hc2 _ _ (by simp)]; go_simp
  have d3 : w2.cell? ⟨w.heap.size + 1 + 1 + 1, 3, none⟩ = some (.int .u64 0) := by rw [hc2 _ _ (by simp)]; go_simp
  have d4 : w2.cell? ⟨w.heap.size + 1 + 1 + 1, 4, none⟩ = some (.int .u64 0) := by rw [hc2 _ _ (by simp)]; go_simp
  have d5 : w2.cell? ⟨w.heap.size + 1 + 1 + 1, 5, none⟩ = some (.int .u64 0) := by rw [hc2 _ _ (by simp)]; go_simp
  have d6 : w2.cell? ⟨w.heap.size + 1 + 1 + 1, 6, none⟩ = some (.int .u64 0) := by rw [hc2 _ _ (by simp)]; go_simp
  have d7 : w2.cell? ⟨w.heap.size + 1 + 1 + 1, 7, none⟩ = some (.int .u64 0) := by rw [hc2 _ _ (by simp)]; go_simp
  have hbb : Below w.heap.size w w2 := Below.trans (by repeat (first | with_reducible exact Below.refl _ _ | with_reducible assumption | with_reducible refine below_drewN ?_ _ | with_reducible refine Below.drew ?_ | ((with_reducible refine Bset ?_ ?_); focus (first | omega | (simp; done) | (simp; omega))) | ((with_reducible refine Ball ?_ ?_); focus (first | omega | (simp; done) | (simp; omega))))) (hb2.mono (by simp; try omega))
  refine bodyPost_ret (v := .tuple #[.agg #[.int .u64 x0, .int .u64 x1, .int .u64 x2, .int .u64 x3, .int .u64 x4, .int .u64 x5, .int .u64 x6, .int .u64 x7], .bool b, .int .i64 0]) (by simp (maxDischargeDepth := 8) [results, Try.results11, go_sem, d0, d1, d2, d3, d4, d5, d6, d7]) rfl ⟨rfl, (by repeat (first | with_reducible exact Below.refl _ _ | with_reducible assumption | with_reducible refine below_drewN ?_ _ | with_reducible refine Below.drew ?_ | ((with_reducible refine Bset ?_ ?_); focus (first | omega | (simp; done) | (simp; omega))) | ((with_reducible refine Ball ?_ ?_); focus (first | omega | (simp; done) | (simp; omega)))))⟩

set_option maxHeartbeats 1000000 in
theorem set_fold (pb : Nat) (n a c : Value) (v : Value) (k0 k1 k2 k3 g0 g1 g2 g3 g4 g5 g6 g7 s0 s1 s2 s3 s4 s5 s6 s7 x0 x1 x2 x3 x4 x5 x6 x7 : Nat) (w : World) (hp : w.cell? ⟨pb, 0, none⟩ = some (.iface 120 (.agg #[n, a, c])))
    (hF : ∀ w, Calls Try.prog 85 #[.agg #[n, a, c], .agg #[.int .u64 g0, .int .u64 g1, .int .u64 g2, .int .u64 g3, .int .u64 g4, .int .u64 g5, .int .u64 g6, .int .u64 g7], .agg #[.int .u64 s0, .int .u64 s1, .int .u64 s2, .int .u64 s3, .int .u64 s4, .int .u64 s5, .int .u64 s6, .int .u64 s7]] w fun e w' => e = .returned (.agg #[.int .u64 x0, .int .u64 x1, .int .u64 x2, .int .u64 x3, .int .u64 x4, .int .u64 x5, .int .u64 x6, .int .u64 x7]) ∧ Below w.heap.size w w') :
    Calls Try.prog 12 #[.pointer (some ⟨pb, 0, none⟩), .agg #[.int .u64 k0, .int .u64 k1, .int .u64 k2, .int .u64 k3], .agg #[.int .u64 g0, .int .u64 g1, .int .u64 g2, .int .u64 g3, .int .u64 g4, .int .u64 g5, .int .u64 g6, .int .u64 g7], v, .agg #[.int .u64 s0, .int .u64 s1, .int .u64 s2, .int .u64 s3, .int .u64 s4, .int .u64 s5, .int .u64 s6, .int .u64 s7]] w fun e w' => e = .returned (.tuple #[.agg #[.int .u64 x0, .int .u64 x1, .int .u64 x2, .int .u64 x3, .int .u64 x4, .int .u64 x5, .int .u64 x6, .int .u64 x7], .int .i64 0]) ∧ Below w.heap.size w w' := by
  have hpb := World.block_lt_of_cell? w _ hp
  simp only [] at hpb
  have hne0 : ¬ pb = w.heap.size := by omega
  have hnf0 : ¬ w.heap.size = pb := by omega
  have hnl0 : pb ≤ w.heap.size := by omega
  have hnt0 : pb < w.heap.size := by omega
  have hne1 : ¬ pb = w.heap.size + 1 := by omega
  have hnf1 : ¬ w.heap.size + 1 = pb := by omega
  have hnl1 : pb ≤ w.heap.size + 1 := by omega
  have hnt1 : pb < w.heap.size + 1 := by omega
  have hne2 : ¬ pb = w.heap.size + 1 + 1 := by omega
  have hnf2 : ¬ w.heap.size + 1 + 1 = pb := by omega
  have hnl2 : pb ≤ w.heap.size + 1 + 1 := by omega
  have hnt2 : pb < w.heap.size + 1 + 1 := by omega
  have hne3 : ¬ pb = w.heap.size + 1 + 1 + 1 := by omega
  have hnf3 : ¬ w.heap.size + 1 + 1 + 1 = pb := by omega
  have hnl3 : pb ≤ w.heap.size + 1 + 1 + 1 := by omega
  have hnt3 : pb < w.heap.size + 1 + 1 + 1 := by omega
  have HF := Lib.hid hF
  clear hF
  go_enter Try.func12, Try.ntmps12
  go_wp2_with fail
  go_region_held3 (fun w1 => w1.cell? ⟨pb, 0, none⟩ = some (.iface 120 (.agg #[n, a, c])) ∧ w1.cell? ⟨w.heap.size + 1, 0, none⟩ = some (.int .u64 g0) ∧ w1.cell? ⟨w.heap.size + 1, 1, none⟩ = some (.int .u64 g1) ∧ w1.cell? ⟨w.heap.size + 1, 2, none⟩ = some (.int .u64 g2) ∧ w1.cell? ⟨w.heap.size + 1, 3, none⟩ = some (.int .u64 g3) ∧ w1.cell? ⟨w.heap.size + 1, 4, none⟩ = some (.int .u64 g4) ∧ w1.cell? ⟨w.heap.size + 1, 5, none⟩ = some (.int .u64 g5) ∧ w1.cell? ⟨w.heap.size + 1, 6, none⟩ = some (.int .u64 g6) ∧ w1.cell? ⟨w.heap.size + 1, 7, none⟩ = some (.int .u64 g7) ∧ w1.cell? ⟨w.heap.size + 1 + 1, 0, none⟩ = some (.int .u64 s0) ∧ w1.cell? ⟨w.heap.size + 1 + 1, 1, none⟩ = some (.int .u64 s1) ∧ w1.cell? ⟨w.heap.size + 1 + 1, 2, none⟩ = some (.int .u64 s2) ∧ w1.cell? ⟨w.heap.size + 1 + 1, 3, none⟩ = some (.int .u64 s3) ∧ w1.cell? ⟨w.heap.size + 1 + 1, 4, none⟩ = some (.int .u64 s4) ∧ w1.cell? ⟨w.heap.size + 1 + 1, 5, none⟩ = some (.int .u64 s5) ∧ w1.cell? ⟨w.heap.size + 1 + 1, 6, none⟩ = some (.int .u64 s6) ∧ w1.cell? ⟨w.heap.size + 1 + 1, 7, none⟩ = some (.int .u64 s7)) (first | (go_keep; done) | ((repeat' apply And.intro) <;> (first | with_reducible assumption | (go_simp; done))) | (go_split_ands; (repeat' apply And.intro) <;> (first | with_reducible assumption | (go_simp; done))) | (go_split_ands; (repeat' apply And.intro) <;> (rw [hb2.cell (by first | omega | (simp; done) | (simp; omega))]; first | with_reducible assumption | (simp; done)))) ((refine (HF.out _).mono ?_; rintro e w2 ⟨rfl, hb2⟩; obtain ⟨hc2, hf2⟩ := bcell hb2; have hz2 := hb2.size; (try simp only [World.size_alloc] at hz2)))
  go_wp2
  have d0 : w2.cell? ⟨w.heap.size + 1 + 1 + 1, 0, none⟩ = some (.int .u64 0) := by rw [hc2 _ _ (by simp)]; go_simp
  have d1 : w2.cell? ⟨w.heap.size + 1 + 1 + 1, 1, none⟩ = some (.int .u64 0) := by rw [hc2 _ _ (by simp)]; go_simp
  have d2 : w2.cell? ⟨w.heap.size + 1 + 1 + 1, 2, none⟩ = some (.int .u64 0) := by rw [hc2 _ _ (by simp)]; go_simp
  have d3 : w2.cell? ⟨w.heap.size + 1 + 1 + 1, 3, none⟩ = some (.int .u64 0) := by rw [hc2 _ _ (by simp)]; go_simp
  have d4 : w2.cell? ⟨w.heap.size + 1 + 1 + 1, 4, none⟩ = some (.int .u64 0) := by rw [hc2 _ _ (by simp)]; go_simp
  have d5 : w2.cell? ⟨w.heap.size + 1 + 1 + 1, 5, none⟩ = some (.int .u64 0) := by rw [hc2 _ _ (by simp)]; go_simp
  have d6 : w2.cell? ⟨w.heap.size + 1 + 1 + 1, 6, none⟩ = some (.int .u64 0) := by rw [hc2 _ _ (by simp)]; go_simp
  have d7 : w2.cell? ⟨w.heap.size + 1 + 1 + 1, 7, none⟩ = some (.int .u64 0) := by rw [hc2 _ _ (by simp)]; go_simp
  have hbb : Below w.heap.size w w2 := Below.trans (by repeat (first | with_reducible exact Below.refl _ _ | with_reducible assumption | with_reducible refine below_drewN ?_ _ | with_reducible refine Below.drew ?_ | ((with_reducible refine Bset ?_ ?_); focus (first | omega | (simp; done) | (simp; omega))) | ((with_reducible refine Ball ?_ ?_); focus (first | omega | (simp; done) | (simp; omega))))) (hb2.mono (by simp; try omega))
  refine bodyPost_ret (v := .tuple #[.agg #[.int .u64 x0, .int .u64 x1, .int .u64 x2, .int .u64 x3, .int .u64 x4, .int .u64 x5, .int .u64 x6, .int .u64 x7], .int .i64 0]) (by simp (maxDischargeDepth := 8) [results, Try.results12, go_sem, d0, d1, d2, d3, d4, d5, d6, d7]) rfl ⟨rfl, (by repeat (first | with_reducible exact Below.refl _ _ | with_reducible assumption | with_reducible refine below_drewN ?_ _ | with_reducible refine Below.drew ?_ | ((with_reducible refine Bset ?_ ?_); focus (first | omega | (simp; done) | (simp; omega))) | ((with_reducible refine Ball ?_ ?_); focus (first | omega | (simp; done) | (simp; omega)))))⟩

set_option maxHeartbeats 1000000 in
theorem set_turn (pb : Nat) (n a c : Value) (v r : Value) (k0 k1 k2 k3 g0 g1 g2 g3 g4 g5 g6 g7 y0 y1 y2 y3 : Nat) (b : Bool) (w : World) (hp : w.cell? ⟨pb, 0, none⟩ = some (.iface 120 (.agg #[n, a, c])))
    (hF : ∀ w, Calls Try.prog 88 #[.agg #[n, a, c], .agg #[.int .u64 k0, .int .u64 k1, .int .u64 k2, .int .u64 k3], .agg #[.int .u64 g0, .int .u64 g1, .int .u64 g2, .int .u64 g3, .int .u64 g4, .int .u64 g5, .int .u64 g6, .int .u64 g7]] w fun e w' => e = .returned (.tuple #[.agg #[.int .u64 y0, .int .u64 y1, .int .u64 y2, .int .u64 y3], .bool b]) ∧ Below w.heap.size w w') :
    Calls Try.prog 13 #[.pointer (some ⟨pb, 0, none⟩), .agg #[.int .u64 k0, .int .u64 k1, .int .u64 k2, .int .u64 k3], .agg #[.int .u64 g0, .int .u64 g1, .int .u64 g2, .int .u64 g3, .int .u64 g4, .int .u64 g5, .int .u64 g6, .int .u64 g7], v, r] w fun e w' => e = .returned (.tuple #[.agg #[.int .u64 y0, .int .u64 y1, .int .u64 y2, .int .u64 y3], .bool b, .int .i64 0]) ∧ Below w.heap.size w w' := by
  have hpb := World.block_lt_of_cell? w _ hp
  simp only [] at hpb
  have hne0 : ¬ pb = w.heap.size := by omega
  have hnf0 : ¬ w.heap.size = pb := by omega
  have hnl0 : pb ≤ w.heap.size := by omega
  have hnt0 : pb < w.heap.size := by omega
  have hne1 : ¬ pb = w.heap.size + 1 := by omega
  have hnf1 : ¬ w.heap.size + 1 = pb := by omega
  have hnl1 : pb ≤ w.heap.size + 1 := by omega
  have hnt1 : pb < w.heap.size + 1 := by omega
  have hne2 : ¬ pb = w.heap.size + 1 + 1 := by omega
  have hnf2 : ¬ w.heap.size + 1 + 1 = pb := by omega
  have hnl2 : pb ≤ w.heap.size + 1 + 1 := by omega
  have hnt2 : pb < w.heap.size + 1 + 1 := by omega
  have HF := Lib.hid hF
  clear hF
  go_enter Try.func13, Try.ntmps13
  go_wp2_with fail
  go_region_held3 (fun w1 => w1.cell? ⟨pb, 0, none⟩ = some (.iface 120 (.agg #[n, a, c])) ∧ w1.cell? ⟨w.heap.size, 0, none⟩ = some (.int .u64 k0) ∧ w1.cell? ⟨w.heap.size, 1, none⟩ = some (.int .u64 k1) ∧ w1.cell? ⟨w.heap.size, 2, none⟩ = some (.int .u64 k2) ∧ w1.cell? ⟨w.heap.size, 3, none⟩ = some (.int .u64 k3) ∧ w1.cell? ⟨w.heap.size + 1, 0, none⟩ = some (.int .u64 g0) ∧ w1.cell? ⟨w.heap.size + 1, 1, none⟩ = some (.int .u64 g1) ∧ w1.cell? ⟨w.heap.size + 1, 2, none⟩ = some (.int .u64 g2) ∧ w1.cell? ⟨w.heap.size + 1, 3, none⟩ = some (.int .u64 g3) ∧ w1.cell? ⟨w.heap.size + 1, 4, none⟩ = some (.int .u64 g4) ∧ w1.cell? ⟨w.heap.size + 1, 5, none⟩ = some (.int .u64 g5) ∧ w1.cell? ⟨w.heap.size + 1, 6, none⟩ = some (.int .u64 g6) ∧ w1.cell? ⟨w.heap.size + 1, 7, none⟩ = some (.int .u64 g7)) (first | (go_keep; done) | ((repeat' apply And.intro) <;> (first | with_reducible assumption | (go_simp; done))) | (go_split_ands; (repeat' apply And.intro) <;> (first | with_reducible assumption | (go_simp; done))) | (go_split_ands; (repeat' apply And.intro) <;> (rw [hb2.cell (by first | omega | (simp; done) | (simp; omega))]; first | with_reducible assumption | (simp; done)))) ((refine (HF.out _).mono ?_; rintro e w2 ⟨rfl, hb2⟩; obtain ⟨hc2, hf2⟩ := bcell hb2; have hz2 := hb2.size; (try simp only [World.size_alloc] at hz2)))
  go_wp2
  have d0 : w2.cell? ⟨w.heap.size + 1 + 1, 0, none⟩ = some (.int .u64 0) := by rw [hc2 _ _ (by simp)]; go_simp
  have d1 : w2.cell? ⟨w.heap.size + 1 + 1, 1, none⟩ = some (.int .u64 0) := by rw [hc2 _ _ (by simp)]; go_simp
  have d2 : w2.cell? ⟨w.heap.size + 1 + 1, 2, none⟩ = some (.int .u64 0) := by rw [hc2 _ _ (by simp)]; go_simp
  have d3 : w2.cell? ⟨w.heap.size + 1 + 1, 3, none⟩ = some (.int .u64 0) := by rw [hc2 _ _ (by simp)]; go_simp
  have hbb : Below w.heap.size w w2 := Below.trans (by repeat (first | with_reducible exact Below.refl _ _ | with_reducible assumption | with_reducible refine below_drewN ?_ _ | with_reducible refine Below.drew ?_ | ((with_reducible refine Bset ?_ ?_); focus (first | omega | (simp; done) | (simp; omega))) | ((with_reducible refine Ball ?_ ?_); focus (first | omega | (simp; done) | (simp; omega))))) (hb2.mono (by simp; try omega))
  refine bodyPost_ret (v := .tuple #[.agg #[.int .u64 y0, .int .u64 y1, .int .u64 y2, .int .u64 y3], .bool b, .int .i64 0]) (by simp (maxDischargeDepth := 8) [results, Try.results13, go_sem, d0, d1, d2, d3]) rfl ⟨rfl, (by repeat (first | with_reducible exact Below.refl _ _ | with_reducible assumption | with_reducible refine below_drewN ?_ _ | with_reducible refine Below.drew ?_ | ((with_reducible refine Bset ?_ ?_); focus (first | omega | (simp; done) | (simp; omega))) | ((with_reducible refine Ball ?_ ?_); focus (first | omega | (simp; done) | (simp; omega)))))⟩

set_option maxHeartbeats 1000000 in
theorem set_sink (pb : Nat) (n a c : Value) (xa xb xc xd : Nat) (w : World) (hp : w.cell? ⟨pb, 0, none⟩ = some (.iface 120 (.agg #[n, a, c])))
    (hF : ∀ w, Calls Try.prog 86 #[.agg #[n, a, c]] w fun e w' => e = .returned (.agg #[.int .i64 xa, .int .i64 xb, .int .i64 xc, .int .i64 xd]) ∧ Below w.heap.size w w') :
    Calls Try.prog 17 #[.pointer (some ⟨pb, 0, none⟩)] w fun e w' => e = .returned (.agg #[.int .i64 xa, .int .i64 xb, .int .i64 xc, .int .i64 xd]) ∧ Below w.heap.size w w' := by
  have hpb := World.block_lt_of_cell? w _ hp
  simp only [] at hpb
  have hne0 : ¬ pb = w.heap.size := by omega
  have hnf0 : ¬ w.heap.size = pb := by omega
  have hnl0 : pb ≤ w.heap.size := by omega
  have hnt0 : pb < w.heap.size := by omega
  have HF := Lib.hid hF
  clear hF
  go_enter Try.func17, Try.ntmps17
  go_wp2_with ((refine (HF.out _).mono ?_; rintro e w2 ⟨rfl, hb2⟩; obtain ⟨hc2, hf2⟩ := bcell hb2; have hz2 := hb2.size; (try simp only [World.size_alloc] at hz2)))
  have d0 : w2.cell? ⟨w.heap.size, 0, none⟩ = some (.int .i64 0) := by rw [hc2 _ _ (by simp)]; go_simp
  have d1 : w2.cell? ⟨w.heap.size, 1, none⟩ = some (.int .i64 0) := by rw [hc2 _ _ (by simp)]; go_simp
  have d2 : w2.cell? ⟨w.heap.size, 2, none⟩ = some (.int .i64 0) := by rw [hc2 _ _ (by simp)]; go_simp
  have d3 : w2.cell? ⟨w.heap.size, 3, none⟩ = some (.int .i64 0) := by rw [hc2 _ _ (by simp)]; go_simp
  have hbb : Below w.heap.size w w2 := Below.trans (by repeat (first | with_reducible exact Below.refl _ _ | with_reducible assumption | with_reducible refine below_drewN ?_ _ | with_reducible refine Below.drew ?_ | ((with_reducible refine Bset ?_ ?_); focus (first | omega | (simp; done) | (simp; omega))) | ((with_reducible refine Ball ?_ ?_); focus (first | omega | (simp; done) | (simp; omega))))) (hb2.mono (by simp; try omega))
  refine bodyPost_ret (v := .agg #[.int .i64 xa, .int .i64 xb, .int .i64 xc, .int .i64 xd]) (by simp (maxDischargeDepth := 8) [results, Try.results17, go_sem, d0, d1, d2, d3]) rfl ⟨rfl, (by repeat (first | with_reducible exact Below.refl _ _ | with_reducible assumption | with_reducible refine below_drewN ?_ _ | with_reducible refine Below.drew ?_ | ((with_reducible refine Bset ?_ ?_); focus (first | omega | (simp; done) | (simp; omega))) | ((with_reducible refine Ball ?_ ?_); focus (first | omega | (simp; done) | (simp; omega)))))⟩

set_option maxHeartbeats 1000000 in
theorem set_scatter_false (pb : Nat) (n a c : Value) (k0 k1 k2 k3 s0 s1 s2 s3 s4 s5 s6 s7 e0 e1 e2 : Nat) (p1 p2 : Nat) (b : Bool) (w : World) (hp : w.cell? ⟨pb, 0, none⟩ = some (.iface 120 (.agg #[n, a, c])))
    (hF : ∀ w, Calls Try.prog 97 #[.agg #[n, a, c], .agg #[.int .u64 k0, .int .u64 k1, .int .u64 k2, .int .u64 k3], .agg #[.int .u64 s0, .int .u64 s1, .int .u64 s2, .int .u64 s3, .int .u64 s4, .int .u64 s5, .int .u64 s6, .int .u64 s7], .int .u32 e0, .bool ((e0 : Int) == e1)] w fun e w' => e = .returned (.tuple #[.int .u64 p1, .int .u64 p2, .bool b, .int .i64 0]) ∧ Below w.heap.size w w') :
    Calls Try.prog 10 #[.pointer (some ⟨pb, 0, none⟩), .agg #[.int .u64 k0, .int .u64 k1, .int .u64 k2, .int .u64 k3], .agg #[.int .u64 s0, .int .u64 s1, .int .u64 s2, .int .u64 s3, .int .u64 s4, .int .u64 s5, .int .u64 s6, .int .u64 s7], .agg #[.int .u32 e0, .int .u32 e1, .int .u32 e2], .bool false] w fun e w' => e = .returned (.tuple #[.int .u64 p1, .int .u64 p2, .bool b, .int .i64 0]) ∧ Below w.heap.size w w' := by
  have hpb := World.block_lt_of_cell? w _ hp
  simp only [] at hpb
  have hne0 : ¬ pb = w.heap.size := by omega
  have hnf0 : ¬ w.heap.size = pb := by omega
  have hnl0 : pb ≤ w.heap.size := by omega
  have hnt0 : pb < w.heap.size := by omega
  have hne1 : ¬ pb = w.heap.size + 1 := by omega
  have hnf1 : ¬ w.heap.size + 1 = pb := by omega
  have hnl1 : pb ≤ w.heap.size + 1 := by omega
  have hnt1 : pb < w.heap.size + 1 := by omega
  have hne2 : ¬ pb = w.heap.size + 1 + 1 := by omega
  have hnf2 : ¬ w.heap.size + 1 + 1 = pb := by omega
  have hnl2 : pb ≤ w.heap.size + 1 + 1 := by omega
  have hnt2 : pb < w.heap.size + 1 + 1 := by omega
  have HF := Lib.hid hF
  clear hF
  go_enter Try.func10, Try.ntmps10
  go_wp2_with fail
  go_region_held3 (fun w1 => w1.cell? ⟨pb, 0, none⟩ = some (.iface 120 (.agg #[n, a, c])) ∧ w1.cell? ⟨w.heap.size, 0, none⟩ = some (.int .u64 k0) ∧ w1.cell? ⟨w.heap.size, 1, none⟩ = some (.int .u64 k1) ∧ w1.cell? ⟨w.heap.size, 2, none⟩ = some (.int .u64 k2) ∧ w1.cell? ⟨w.heap.size, 3, none⟩ = some (.int .u64 k3) ∧ w1.cell? ⟨w.heap.size + 1, 0, none⟩ = some (.int .u64 s0) ∧ w1.cell? ⟨w.heap.size + 1, 1, none⟩ = some (.int .u64 s1) ∧ w1.cell? ⟨w.heap.size + 1, 2, none⟩ = some (.int .u64 s2) ∧ w1.cell? ⟨w.heap.size + 1, 3, none⟩ = some (.int .u64 s3) ∧ w1.cell? ⟨w.heap.size + 1, 4, none⟩ = some (.int .u64 s4) ∧ w1.cell? ⟨w.heap.size + 1, 5, none⟩ = some (.int .u64 s5) ∧ w1.cell? ⟨w.heap.size + 1, 6, none⟩ = some (.int .u64 s6) ∧ w1.cell? ⟨w.heap.size + 1, 7, none⟩ = some (.int .u64 s7) ∧ w1.cell? ⟨w.heap.size + 1 + 1, 0, none⟩ = some (.int .u32 e0) ∧ w1.cell? ⟨w.heap.size + 1 + 1, 1, none⟩ = some (.int .u32 e1) ∧ w1.cell? ⟨w.heap.size + 1 + 1, 2, none⟩ = some (.int .u32 e2)) (first | (go_keep; done) | ((repeat' apply And.intro) <;> (first | with_reducible assumption | (go_simp; done))) | (go_split_ands; (repeat' apply And.intro) <;> (first | with_reducible assumption | (go_simp; done))) | (go_split_ands; (repeat' apply And.intro) <;> (rw [hb2.cell (by first | omega | (simp; done) | (simp; omega))]; first | with_reducible assumption | (simp; done)))) ((refine (HF.out _).mono ?_; rintro e w2 ⟨rfl, hb2⟩; obtain ⟨hc2, hf2⟩ := bcell hb2; have hz2 := hb2.size; (try simp only [World.size_alloc] at hz2)))
  go_wp2
  have hbb : Below w.heap.size w w2 := Below.trans (by repeat (first | with_reducible exact Below.refl _ _ | with_reducible assumption | with_reducible refine below_drewN ?_ _ | with_reducible refine Below.drew ?_ | ((with_reducible refine Bset ?_ ?_); focus (first | omega | (simp; done) | (simp; omega))) | ((with_reducible refine Ball ?_ ?_); focus (first | omega | (simp; done) | (simp; omega))))) (hb2.mono (by simp; try omega))
  refine bodyPost_ret (v := .tuple #[.int .u64 p1, .int .u64 p2, .bool b, .int .i64 0]) (by simp (maxDischargeDepth := 8) [results, Try.results10, go_sem]) rfl ⟨rfl, (by repeat (first | with_reducible exact Below.refl _ _ | with_reducible assumption | with_reducible refine below_drewN ?_ _ | with_reducible refine Below.drew ?_ | ((with_reducible refine Bset ?_ ?_); focus (first | omega | (simp; done) | (simp; omega))) | ((with_reducible refine Ball ?_ ?_); focus (first | omega | (simp; done) | (simp; omega)))))⟩

set_option maxHeartbeats 1000000 in
theorem set_scatter_true (pb : Nat) (n a c : Value) (k0 k1 k2 k3 s0 s1 s2 s3 s4 s5 s6 s7 e0 e1 e2 : Nat) (p1 p2 : Nat) (b : Bool) (w : World) (hp : w.cell? ⟨pb, 0, none⟩ = some (.iface 120 (.agg #[n, a, c])))
    (hF : ∀ w, Calls Try.prog 97 #[.agg #[n, a, c], .agg #[.int .u64 k0, .int .u64 k1, .int .u64 k2, .int .u64 k3], .agg #[.int .u64 s0, .int .u64 s1, .int .u64 s2, .int .u64 s3, .int .u64 s4, .int .u64 s5, .int .u64 s6, .int .u64 s7], .int .u32 e1, .bool ((e0 : Int) == e1)] w fun e w' => e = .returned (.tuple #[.int .u64 p1, .int .u64 p2, .bool b, .int .i64 0]) ∧ Below w.heap.size w w') :
    Calls Try.prog 10 #[.pointer (some ⟨pb, 0, none⟩), .agg #[.int .u64 k0, .int .u64 k1, .int .u64 k2, .int .u64 k3], .agg #[.int .u64 s0, .int .u64 s1, .int .u64 s2, .int .u64 s3, .int .u64 s4, .int .u64 s5, .int .u64 s6, .int .u64 s7], .agg #[.int .u32 e0, .int .u32 e1, .int .u32 e2], .bool true] w fun e w' => e = .returned (.tuple #[.int .u64 p1, .int .u64 p2, .bool b, .int .i64 0]) ∧ Below w.heap.size w w' := by
  have hpb := World.block_lt_of_cell? w _ hp
  simp only [] at hpb
  have hne0 : ¬ pb = w.heap.size := by omega
  have hnf0 : ¬ w.heap.size = pb := by omega
  have hnl0 : pb ≤ w.heap.size := by omega
  have hnt0 : pb < w.heap.size := by omega
  have hne1 : ¬ pb = w.heap.size + 1 := by omega
  have hnf1 : ¬ w.heap.size + 1 = pb := by omega
  have hnl1 : pb ≤ w.heap.size + 1 := by omega
  have hnt1 : pb < w.heap.size + 1 := by omega
  have hne2 : ¬ pb = w.heap.size + 1 + 1 := by omega
  have hnf2 : ¬ w.heap.size + 1 + 1 = pb := by omega
  have hnl2 : pb ≤ w.heap.size + 1 + 1 := by omega
  have hnt2 : pb < w.heap.size + 1 + 1 := by omega
  have HF := Lib.hid hF
  clear hF
  go_enter Try.func10, Try.ntmps10
  go_wp2_with fail
  go_region_held3 (fun w1 => w1.cell? ⟨pb, 0, none⟩ = some (.iface 120 (.agg #[n, a, c])) ∧ w1.cell? ⟨w.heap.size, 0, none⟩ = some (.int .u64 k0) ∧ w1.cell? ⟨w.heap.size, 1, none⟩ = some (.int .u64 k1) ∧ w1.cell? ⟨w.heap.size, 2, none⟩ = some (.int .u64 k2) ∧ w1.cell? ⟨w.heap.size, 3, none⟩ = some (.int .u64 k3) ∧ w1.cell? ⟨w.heap.size + 1, 0, none⟩ = some (.int .u64 s0) ∧ w1.cell? ⟨w.heap.size + 1, 1, none⟩ = some (.int .u64 s1) ∧ w1.cell? ⟨w.heap.size + 1, 2, none⟩ = some (.int .u64 s2) ∧ w1.cell? ⟨w.heap.size + 1, 3, none⟩ = some (.int .u64 s3) ∧ w1.cell? ⟨w.heap.size + 1, 4, none⟩ = some (.int .u64 s4) ∧ w1.cell? ⟨w.heap.size + 1, 5, none⟩ = some (.int .u64 s5) ∧ w1.cell? ⟨w.heap.size + 1, 6, none⟩ = some (.int .u64 s6) ∧ w1.cell? ⟨w.heap.size + 1, 7, none⟩ = some (.int .u64 s7) ∧ w1.cell? ⟨w.heap.size + 1 + 1, 0, none⟩ = some (.int .u32 e0) ∧ w1.cell? ⟨w.heap.size + 1 + 1, 1, none⟩ = some (.int .u32 e1) ∧ w1.cell? ⟨w.heap.size + 1 + 1, 2, none⟩ = some (.int .u32 e2)) (first | (go_keep; done) | ((repeat' apply And.intro) <;> (first | with_reducible assumption | (go_simp; done))) | (go_split_ands; (repeat' apply And.intro) <;> (first | with_reducible assumption | (go_simp; done))) | (go_split_ands; (repeat' apply And.intro) <;> (rw [hb2.cell (by first | omega | (simp; done) | (simp; omega))]; first | with_reducible assumption | (simp; done)))) ((refine (HF.out _).mono ?_; rintro e w2 ⟨rfl, hb2⟩; obtain ⟨hc2, hf2⟩ := bcell hb2; have hz2 := hb2.size; (try simp only [World.size_alloc] at hz2)))
  go_wp2
  have hbb : Below w.heap.size w w2 := Below.trans (by repeat (first | with_reducible exact Below.refl _ _ | with_reducible assumption | with_reducible refine below_drewN ?_ _ | with_reducible refine Below.drew ?_ | ((with_reducible refine Bset ?_ ?_); focus (first | omega | (simp; done) | (simp; omega))) | ((with_reducible refine Ball ?_ ?_); focus (first | omega | (simp; done) | (simp; omega))))) (hb2.mono (by simp; try omega))
  refine bodyPost_ret (v := .tuple #[.int .u64 p1, .int .u64 p2, .bool b, .int .i64 0]) (by simp (maxDischargeDepth := 8) [results, Try.results10, go_sem]) rfl ⟨rfl, (by repeat (first | with_reducible exact Below.refl _ _ | with_reducible assumption | with_reducible refine below_drewN ?_ _ | with_reducible refine Below.drew ?_ | ((with_reducible refine Bset ?_ ?_); focus (first | omega | (simp; done) | (simp; omega))) | ((with_reducible refine Ball ?_ ?_); focus (first | omega | (simp; done) | (simp; omega)))))⟩

set_option maxHeartbeats 1000000 in
theorem core_start (pb : Nat) (v o i : Value) (x0 x1 x2 x3 x4 x5 x6 x7 : Nat) (w : World) (hp : w.cell? ⟨pb, 0, none⟩ = some (.iface 105 (.agg #[])))
    (hF : ∀ w, Calls Try.prog 82 #[.agg #[], v, .agg #[o, i]] w fun e w' => e = .returned (.tuple #[.agg #[.int .u64 x0, .int .u64 x1, .int .u64 x2, .int .u64 x3, .int .u64 x4, .int .u64 x5, .int .u64 x6, .int .u64 x7], .int .i64 0]) ∧ Below w.heap.size w w') :
    Calls Try.prog 9 #[.pointer (some ⟨pb, 0, none⟩), v, .agg #[o, i]] w fun e w' => e = .returned (.tuple #[.agg #[.int .u64 x0, .int .u64 x1, .int .u64 x2, .int .u64 x3, .int .u64 x4, .int .u64 x5, .int .u64 x6, .int .u64 x7], .int .i64 0]) ∧ Below w.heap.size w w' := by
  have hpb := World.block_lt_of_cell? w _ hp
  simp only [] at hpb
  have hne0 : ¬ pb = w.heap.size := by omega
  have hnf0 : ¬ w.heap.size = pb := by omega
  have hnl0 : pb ≤ w.heap.size := by omega
  have hnt0 : pb < w.heap.size := by omega
  have hne1 : ¬ pb = w.heap.size + 1 := by omega
  have hnf1 : ¬ w.heap.size + 1 = pb := by omega
  have hnl1 : pb ≤ w.heap.size + 1 := by omega
  have hnt1 : pb < w.heap.size + 1 := by omega
  have HF := Lib.hid hF
  clear hF
  go_enter Try.func9, Try.ntmps9
  go_wp2_with fail
  go_region_held3 (fun w1 => w1.cell? ⟨pb, 0, none⟩ = some (.iface 105 (.agg #[])) ∧ w1.cell? ⟨w.heap.size, 0, none⟩ = some o ∧ w1.cell? ⟨w.heap.size, 1, none⟩ = some i) (first | (go_keep; done) | ((repeat' apply And.intro) <;> (first | with_reducible assumption | (go_simp; done))) | (go_split_ands; (repeat' apply And.intro) <;> (first | with_reducible assumption | (go_simp; done))) | (go_split_ands; (repeat' apply And.intro) <;> (rw [hb2.cell (by first | omega | (simp; done) | (simp; omega))]; first | with_reducible assumption | (simp; done)))) ((refine (HF.out _).mono ?_; rintro e w2 ⟨rfl, hb2⟩; obtain ⟨hc2, hf2⟩ := bcell hb2; have hz2 := hb2.size; (try simp only [World.size_alloc] at hz2)))
  go_wp2
  have d0 : w2.cell? ⟨w.heap.size + 1, 0, none⟩ = some (.int .u64 0) := by rw [hc2 _ _ (by simp)]; go_simp
  have d1 : w2.cell? ⟨w.heap.size + 1, 1, none⟩ = some (.int .u64 0) := by rw [hc2 _ _ (by simp)]; go_simp
  have d2 : w2.cell? ⟨w.heap.size + 1, 2, none⟩ = some (.int .u64 0) := by rw [hc2 _ _ (by simp)]; go_simp
  have d3 : w2.cell? ⟨w.heap.size + 1, 3, none⟩ = some (.int .u64 0) := by rw [hc2 _ _ (by simp)]; go_simp
  have d4 : w2.cell? ⟨w.heap.size + 1, 4, none⟩ = some (.int .u64 0) := by rw [hc2 _ _ (by simp)]; go_simp
  have d5 : w2.cell? ⟨w.heap.size + 1, 5, none⟩ = some (.int .u64 0) := by rw [hc2 _ _ (by simp)]; go_simp
  have d6 : w2.cell? ⟨w.heap.size + 1, 6, none⟩ = some (.int .u64 0) := by rw [hc2 _ _ (by simp)]; go_simp
  have d7 : w2.cell? ⟨w.heap.size + 1, 7, none⟩ = some (.int .u64 0) := by rw [hc2 _ _ (by simp)]; go_simp
  have hbb : Below w.heap.size w w2 := Below.trans (by repeat (first | with_reducible exact Below.refl _ _ | with_reducible assumption | with_reducible refine below_drewN ?_ _ | with_reducible refine Below.drew ?_ | ((with_reducible refine Bset ?_ ?_); focus (first | omega | (simp; done) | (simp; omega))) | ((with_reducible refine Ball ?_ ?_); focus (first | omega | (simp; done) | (simp; omega))))) (hb2.mono (by simp; try omega))
  refine bodyPost_ret (v := .tuple #[.agg #[.int .u64 x0, .int .u64 x1, .int .u64 x2, .int .u64 x3, .int .u64 x4, .int .u64 x5, .int .u64 x6, .int .u64 x7], .int .i64 0]) (by simp (maxDischargeDepth := 8) [results, Try.results9, go_sem, d0, d1, d2, d3, d4, d5, d6, d7]) rfl ⟨rfl, (by repeat (first | with_reducible exact Below.refl _ _ | with_reducible assumption | with_reducible refine below_drewN ?_ _ | with_reducible refine Below.drew ?_ | ((with_reducible refine Bset ?_ ?_); focus (first | omega | (simp; done) | (simp; omega))) | ((with_reducible refine Ball ?_ ?_); focus (first | omega | (simp; done) | (simp; omega)))))⟩

set_option maxHeartbeats 1000000 in
theorem core_apply (pb : Nat) (v : Value) (k0 k1 k2 k3 g0 g1 g2 g3 g4 g5 g6 g7 s0 s1 s2 s3 s4 s5 s6 s7 x0 x1 x2 x3 x4 x5 x6 x7 : Nat) (b : Bool) (w : World) (hp : w.cell? ⟨pb, 0, none⟩ = some (.iface 105 (.agg #[])))
    (hF : ∀ w, Calls Try.prog 78 #[.agg #[], .agg #[.int .u64 k0, .int .u64 k1, .int .u64 k2, .int .u64 k3], v, .agg #[.int .u64 s0, .int .u64 s1, .int .u64 s2, .int .u64 s3, .int .u64 s4, .int .u64 s5, .int .u64 s6, .int .u64 s7]] w fun e w' => e = .returned (.tuple #[.agg #[.int .u64 x0, .int .u64 x1, .int .u64 x2, .int .u64 x3, .int .u64 x4, .int .u64 x5, .int .u64 x6, .int .u64 x7], .bool b, .int .i64 0]) ∧ Below w.heap.size w w') :
    Calls Try.prog 11 #[.pointer (some ⟨pb, 0, none⟩), .agg #[.int .u64 k0, .int .u64 k1, .int .u64 k2, .int .u64 k3], .agg #[.int .u64 g0, .int .u64 g1, .int .u64 g2, .int .u64 g3, .int .u64 g4, .int .u64 g5, .int .u64 g6, .int .u64 g7], v, .agg #[.int .u64 s0, .int .u64 s1, .int .u64 s2, .int .u64 s3, .int .u64 s4, .int .u64 s5, .int .u64 s6, .int .u64 s7]] w fun e w' => e = .returned (.tuple #[.agg #[.int .u64 x0, .int .u64 x1, .int .u64 x2, .int .u64 x3, .int .u64 x4, .int .u64 x5, .int .u64 x6, .int .u64 x7], .bool b, .int .i64 0]) ∧ Below w.heap.size w w' := by
  have hpb := World.block_lt_of_cell? w _ hp
  simp only [] at hpb
  have hne0 : ¬ pb = w.heap.size := by omega
  have hnf0 : ¬ w.heap.size = pb := by omega
  have hnl0 : pb ≤ w.heap.size := by omega
  have hnt0 : pb < w.heap.size := by omega
  have hne1 : ¬ pb = w.heap.size + 1 := by omega
  have hnf1 : ¬ w.heap.size + 1 = pb := by omega
  have hnl1 : pb ≤ w.heap.size + 1 := by omega
  have hnt1 : pb < w.heap.size + 1 := by omega
  have hne2 : ¬ pb = w.heap.size + 1 + 1 := by omega
  have hnf2 : ¬ w.heap.size + 1 + 1 = pb := by omega
  have hnl2 : pb ≤ w.heap.size + 1 + 1 := by omega
  have hnt2 : pb < w.heap.size + 1 + 1 := by omega
  have hne3 : ¬ pb = w.heap.size + 1 + 1 + 1 := by omega
  have hnf3 : ¬ w.heap.size + 1 + 1 + 1 = pb := by omega
  have hnl3 : pb ≤ w.heap.size + 1 + 1 + 1 := by omega
  have hnt3 : pb < w.heap.size + 1 + 1 + 1 := by omega
  have HF := Lib.hid hF
  clear hF
  go_enter Try.func11, Try.ntmps11
  go_wp2_with fail
  go_region_held3 (fun w1 => w1.cell? ⟨pb, 0, none⟩ = some (.iface 105 (.agg #[])) ∧ w1.cell? ⟨w.heap.size, 0, none⟩ = some (.int .u64 k0) ∧ w1.cell? ⟨w.heap.size, 1, none⟩ = some (.int .u64 k1) ∧ w1.cell? ⟨w.heap.size, 2, none⟩ = some (.int .u64 k2) ∧ w1.cell? ⟨w.heap.size, 3, none⟩ = some (.int .u64 k3) ∧ w1.cell? ⟨w.heap.size + 1 + 1, 0, none⟩ = some (.int .u64 s0) ∧ w1.cell? ⟨w.heap.size + 1 + 1, 1, none⟩ = some (.int .u64 s1) ∧ w1.cell? ⟨w.heap.size + 1 + 1, 2, none⟩ = some (.int .u64 s2) ∧ w1.cell? ⟨w.heap.size + 1 + 1, 3, none⟩ = some (.int .u64 s3) ∧ w1.cell? ⟨w.heap.size + 1 + 1, 4, none⟩ = some (.int .u64 s4) ∧ w1.cell? ⟨w.heap.size + 1 + 1, 5, none⟩ = some (.int .u64 s5) ∧ w1.cell? ⟨w.heap.size + 1 + 1, 6, none⟩ = some (.int .u64 s6) ∧ w1.cell? ⟨w.heap.size + 1 + 1, 7, none⟩ = some (.int .u64 s7)) (first | (go_keep; done) | ((repeat' apply And.intro) <;> (first | with_reducible assumption | (go_simp; done))) | (go_split_ands; (repeat' apply And.intro) <;> (first | with_reducible assumption | (go_simp; done))) | (go_split_ands; (repeat' apply And.intro) <;> (rw [hb2.cell (by first | omega | (simp; done) | (simp; omega))]; first | with_reducible assumption | (simp; done)))) ((refine (HF.out _).mono ?_; rintro e w2 ⟨rfl, hb2⟩; obtain ⟨hc2, hf2⟩ := bcell hb2; have hz2 := hb2.size; (try simp only [World.size_alloc] at hz2)))
  go_wp2
  have d0 : w2.cell? ⟨w.heap.size + 1 + 1 + 1, 0, none⟩ = some (.int .u64 0) := by rw [hc2 _ _ (by simp)]; go_simp
  have d1 : w2.cell? ⟨w.heap.size + 1 + 1 + 1, 1, none⟩ = some (.int .u64 0) := by rw [hc2 _ _ (by simp)]; go_simp
  have d2 : w2.cell? ⟨w.heap.size + 1 + 1 + 1, 2, none⟩ = some (.int .u64 0) := by rw [hc2 _ _ (by simp)]; go_simp
  have d3 : w2.cell? ⟨w.heap.size + 1 + 1 + 1, 3, none⟩ = some (.int .u64 0) := by rw [hc2 _ _ (by simp)]; go_simp
  have d4 : w2.cell? ⟨w.heap.size + 1 + 1 + 1, 4, none⟩ = some (.int .u64 0) := by rw [hc2 _ _ (by simp)]; go_simp
  have d5 : w2.cell? ⟨w.heap.size + 1 + 1 + 1, 5, none⟩ = some (.int .u64 0) := by rw [hc2 _ _ (by simp)]; go_simp
  have d6 : w2.cell? ⟨w.heap.size + 1 + 1 + 1, 6, none⟩ = some (.int .u64 0) := by rw [hc2 _ _ (by simp)]; go_simp
  have d7 : w2.cell? ⟨w.heap.size + 1 + 1 + 1, 7, none⟩ = some (.int .u64 0) := by rw [hc2 _ _ (by simp)]; go_simp
  have hbb : Below w.heap.size w w2 := Below.trans (by repeat (first | with_reducible exact Below.refl _ _ | with_reducible assumption | with_reducible refine below_drewN ?_ _ | with_reducible refine Below.drew ?_ | ((with_reducible refine Bset ?_ ?_); focus (first | omega | (simp; done) | (simp; omega))) | ((with_reducible refine Ball ?_ ?_); focus (first | omega | (simp; done) | (simp; omega))))) (hb2.mono (by simp; try omega))
  refine bodyPost_ret (v := .tuple #[.agg #[.int .u64 x0, .int .u64 x1, .int .u64 x2, .int .u64 x3, .int .u64 x4, .int .u64 x5, .int .u64 x6, .int .u64 x7], .bool b, .int .i64 0]) (by simp (maxDischargeDepth := 8) [results, Try.results11, go_sem, d0, d1, d2, d3, d4, d5, d6, d7]) rfl ⟨rfl, (by repeat (first | with_reducible exact Below.refl _ _ | with_reducible assumption | with_reducible refine below_drewN ?_ _ | with_reducible refine Below.drew ?_ | ((with_reducible refine Bset ?_ ?_); focus (first | omega | (simp; done) | (simp; omega))) | ((with_reducible refine Ball ?_ ?_); focus (first | omega | (simp; done) | (simp; omega)))))⟩

set_option maxHeartbeats 1000000 in
theorem core_fold (pb : Nat) (v : Value) (k0 k1 k2 k3 g0 g1 g2 g3 g4 g5 g6 g7 s0 s1 s2 s3 s4 s5 s6 s7 x0 x1 x2 x3 x4 x5 x6 x7 : Nat) (w : World) (hp : w.cell? ⟨pb, 0, none⟩ = some (.iface 105 (.agg #[])))
    (hF : ∀ w, Calls Try.prog 79 #[.agg #[], .agg #[.int .u64 g0, .int .u64 g1, .int .u64 g2, .int .u64 g3, .int .u64 g4, .int .u64 g5, .int .u64 g6, .int .u64 g7], .agg #[.int .u64 s0, .int .u64 s1, .int .u64 s2, .int .u64 s3, .int .u64 s4, .int .u64 s5, .int .u64 s6, .int .u64 s7]] w fun e w' => e = .returned (.agg #[.int .u64 x0, .int .u64 x1, .int .u64 x2, .int .u64 x3, .int .u64 x4, .int .u64 x5, .int .u64 x6, .int .u64 x7]) ∧ Below w.heap.size w w') :
    Calls Try.prog 12 #[.pointer (some ⟨pb, 0, none⟩), .agg #[.int .u64 k0, .int .u64 k1, .int .u64 k2, .int .u64 k3], .agg #[.int .u64 g0, .int .u64 g1, .int .u64 g2, .int .u64 g3, .int .u64 g4, .int .u64 g5, .int .u64 g6, .int .u64 g7], v, .agg #[.int .u64 s0, .int .u64 s1, .int .u64 s2, .int .u64 s3, .int .u64 s4, .int .u64 s5, .int .u64 s6, .int .u64 s7]] w fun e w' => e = .returned (.tuple #[.agg #[.int .u64 x0, .int .u64 x1, .int .u64 x2, .int .u64 x3, .int .u64 x4, .int .u64 x5, .int .u64 x6, .int .u64 x7], .int .i64 0]) ∧ Below w.heap.size w w' := by
  have hpb := World.block_lt_of_cell? w _ hp
  simp only [] at hpb
  have hne0 : ¬ pb = w.heap.size := by omega
  have hnf0 : ¬ w.heap.size = pb := by omega
  have hnl0 : pb ≤ w.heap.size := by omega
  have hnt0 : pb < w.heap.size := by omega
  have hne1 : ¬ pb = w.heap.size + 1 := by omega
  have hnf1 : ¬ w.heap.size + 1 = pb := by omega
  have hnl1 : pb ≤ w.heap.size + 1 := by omega
  have hnt1 : pb < w.heap.size + 1 := by omega
  have hne2 : ¬ pb = w.heap.size + 1 + 1 := by omega
  have hnf2 : ¬ w.heap.size + 1 + 1 = pb := by omega
  have hnl2 : pb ≤ w.heap.size + 1 + 1 := by omega
  have hnt2 : pb < w.heap.size + 1 + 1 := by omega
  have hne3 : ¬ pb = w.heap.size + 1 + 1 + 1 := by omega
  have hnf3 : ¬ w.heap.size + 1 + 1 + 1 = pb := by omega
  have hnl3 : pb ≤ w.heap.size + 1 + 1 + 1 := by omega
  have hnt3 : pb < w.heap.size + 1 + 1 + 1 := by omega
  have HF := Lib.hid hF
  clear hF
  go_enter Try.func12, Try.ntmps12
  go_wp2_with fail
  go_region_held3 (fun w1 => w1.cell? ⟨pb, 0, none⟩ = some (.iface 105 (.agg #[])) ∧ w1.cell? ⟨w.heap.size + 1, 0, none⟩ = some (.int .u64 g0) ∧ w1.cell? ⟨w.heap.size + 1, 1, none⟩ = some (.int .u64 g1) ∧ w1.cell? ⟨w.heap.size + 1, 2, none⟩ = some (.int .u64 g2) ∧ w1.cell? ⟨w.heap.size + 1, 3, none⟩ = some (.int .u64 g3) ∧ w1.cell? ⟨w.heap.size + 1, 4, none⟩ = some (.int .u64 g4) ∧ w1.cell? ⟨w.heap.size + 1, 5, none⟩ = some (.int .u64 g5) ∧ w1.cell? ⟨w.heap.size + 1, 6, none⟩ = some (.int .u64 g6) ∧ w1.cell? ⟨w.heap.size + 1, 7, none⟩ = some (.int .u64 g7) ∧ w1.cell? ⟨w.heap.size + 1 + 1, 0, none⟩ = some (.int .u64 s0) ∧ w1.cell? ⟨w.heap.size + 1 + 1, 1, none⟩ = some (.int .u64 s1) ∧ w1.cell? ⟨w.heap.size + 1 + 1, 2, none⟩ = some (.int .u64 s2) ∧ w1.cell? ⟨w.heap.size + 1 + 1, 3, none⟩ = some (.int .u64 s3) ∧ w1.cell? ⟨w.heap.size + 1 + 1, 4, none⟩ = some (.int .u64 s4) ∧ w1.cell? ⟨w.heap.size + 1 + 1, 5, none⟩ = some (.int .u64 s5) ∧ w1.cell? ⟨w.heap.size + 1 + 1, 6, none⟩ = some (.int .u64 s6) ∧ w1.cell? ⟨w.heap.size + 1 + 1, 7, none⟩ = some (.int .u64 s7)) (first | (go_keep; done) | ((repeat' apply And.intro) <;> (first | with_reducible assumption | (go_simp; done))) | (go_split_ands; (repeat' apply And.intro) <;> (first | with_reducible assumption | (go_simp; done))) | (go_split_ands; (repeat' apply And.intro) <;> (rw [hb2.cell (by first | omega | (simp; done) | (simp; omega))]; first | with_reducible assumption | (simp; done)))) ((refine (HF.out _).mono ?_; rintro e w2 ⟨rfl, hb2⟩; obtain ⟨hc2, hf2⟩ := bcell hb2; have hz2 := hb2.size; (try simp only [World.size_alloc] at hz2)))
  go_wp2
  have d0 : w2.cell? ⟨w.heap.size + 1 + 1 + 1, 0, none⟩ = some (.int .u64 0) := by rw [hc2 _ _ (by simp)]; go_simp
  have d1 : w2.cell? ⟨w.heap.size + 1 + 1 + 1, 1, none⟩ = some (.int .u64 0) := by rw [hc2 _ _ (by simp)]; go_simp
  have d2 : w2.cell? ⟨w.heap.size + 1 + 1 + 1, 2, none⟩ = some (.int .u64 0) := by rw [hc2 _ _ (by simp)]; go_simp
  have d3 : w2.cell? ⟨w.heap.size + 1 + 1 + 1, 3, none⟩ = some (.int .u64 0) := by rw [hc2 _ _ (by simp)]; go_simp
  have d4 : w2.cell? ⟨w.heap.size + 1 + 1 + 1, 4, none⟩ = some (.int .u64 0) := by rw [hc2 _ _ (by simp)]; go_simp
  have d5 : w2.cell? ⟨w.heap.size + 1 + 1 + 1, 5, none⟩ = some (.int .u64 0) := by rw [hc2 _ _ (by simp)]; go_simp
  have d6 : w2.cell? ⟨w.heap.size + 1 + 1 + 1, 6, none⟩ = some (.int .u64 0) := by rw [hc2 _ _ (by simp)]; go_simp
  have d7 : w2.cell? ⟨w.heap.size + 1 + 1 + 1, 7, none⟩ = some (.int .u64 0) := by rw [hc2 _ _ (by simp)]; go_simp
  have hbb : Below w.heap.size w w2 := Below.trans (by repeat (first | with_reducible exact Below.refl _ _ | with_reducible assumption | with_reducible refine below_drewN ?_ _ | with_reducible refine Below.drew ?_ | ((with_reducible refine Bset ?_ ?_); focus (first | omega | (simp; done) | (simp; omega))) | ((with_reducible refine Ball ?_ ?_); focus (first | omega | (simp; done) | (simp; omega))))) (hb2.mono (by simp; try omega))
  refine bodyPost_ret (v := .tuple #[.agg #[.int .u64 x0, .int .u64 x1, .int .u64 x2, .int .u64 x3, .int .u64 x4, .int .u64 x5, .int .u64 x6, .int .u64 x7], .int .i64 0]) (by simp (maxDischargeDepth := 8) [results, Try.results12, go_sem, d0, d1, d2, d3, d4, d5, d6, d7]) rfl ⟨rfl, (by repeat (first | with_reducible exact Below.refl _ _ | with_reducible assumption | with_reducible refine below_drewN ?_ _ | with_reducible refine Below.drew ?_ | ((with_reducible refine Bset ?_ ?_); focus (first | omega | (simp; done) | (simp; omega))) | ((with_reducible refine Ball ?_ ?_); focus (first | omega | (simp; done) | (simp; omega)))))⟩

set_option maxHeartbeats 1000000 in
theorem core_turn (pb : Nat) (v r : Value) (k0 k1 k2 k3 g0 g1 g2 g3 g4 g5 g6 g7 y0 y1 y2 y3 : Nat) (b : Bool) (w : World) (hp : w.cell? ⟨pb, 0, none⟩ = some (.iface 105 (.agg #[])))
    (hF : ∀ w, Calls Try.prog 83 #[.agg #[], .agg #[.int .u64 k0, .int .u64 k1, .int .u64 k2, .int .u64 k3], .agg #[.int .u64 g0, .int .u64 g1, .int .u64 g2, .int .u64 g3, .int .u64 g4, .int .u64 g5, .int .u64 g6, .int .u64 g7]] w fun e w' => e = .returned (.tuple #[.agg #[.int .u64 y0, .int .u64 y1, .int .u64 y2, .int .u64 y3], .bool b]) ∧ Below w.heap.size w w') :
    Calls Try.prog 13 #[.pointer (some ⟨pb, 0, none⟩), .agg #[.int .u64 k0, .int .u64 k1, .int .u64 k2, .int .u64 k3], .agg #[.int .u64 g0, .int .u64 g1, .int .u64 g2, .int .u64 g3, .int .u64 g4, .int .u64 g5, .int .u64 g6, .int .u64 g7], v, r] w fun e w' => e = .returned (.tuple #[.agg #[.int .u64 y0, .int .u64 y1, .int .u64 y2, .int .u64 y3], .bool b, .int .i64 0]) ∧ Below w.heap.size w w' := by
  have hpb := World.block_lt_of_cell? w _ hp
  simp only [] at hpb
  have hne0 : ¬ pb = w.heap.size := by omega
  have hnf0 : ¬ w.heap.size = pb := by omega
  have hnl0 : pb ≤ w.heap.size := by omega
  have hnt0 : pb < w.heap.size := by omega
  have hne1 : ¬ pb = w.heap.size + 1 := by omega
  have hnf1 : ¬ w.heap.size + 1 = pb := by omega
  have hnl1 : pb ≤ w.heap.size + 1 := by omega
  have hnt1 : pb < w.heap.size + 1 := by omega
  have hne2 : ¬ pb = w.heap.size + 1 + 1 := by omega
  have hnf2 : ¬ w.heap.size + 1 + 1 = pb := by omega
  have hnl2 : pb ≤ w.heap.size + 1 + 1 := by omega
  have hnt2 : pb < w.heap.size + 1 + 1 := by omega
  have HF := Lib.hid hF
  clear hF
  go_enter Try.func13, Try.ntmps13
  go_wp2_with fail
  go_region_held3 (fun w1 => w1.cell? ⟨pb, 0, none⟩ = some (.iface 105 (.agg #[])) ∧ w1.cell? ⟨w.heap.size, 0, none⟩ = some (.int .u64 k0) ∧ w1.cell? ⟨w.heap.size, 1, none⟩ = some (.int .u64 k1) ∧ w1.cell? ⟨w.heap.size, 2, none⟩ = some (.int .u64 k2) ∧ w1.cell? ⟨w.heap.size, 3, none⟩ = some (.int .u64 k3) ∧ w1.cell? ⟨w.heap.size + 1, 0, none⟩ = some (.int .u64 g0) ∧ w1.cell? ⟨w.heap.size + 1, 1, none⟩ = some (.int .u64 g1) ∧ w1.cell? ⟨w.heap.size + 1, 2, none⟩ = some (.int .u64 g2) ∧ w1.cell? ⟨w.heap.size + 1, 3, none⟩ = some (.int .u64 g3) ∧ w1.cell? ⟨w.heap.size + 1, 4, none⟩ = some (.int .u64 g4) ∧ w1.cell? ⟨w.heap.size + 1, 5, none⟩ = some (.int .u64 g5) ∧ w1.cell? ⟨w.heap.size + 1, 6, none⟩ = some (.int .u64 g6) ∧ w1.cell? ⟨w.heap.size + 1, 7, none⟩ = some (.int .u64 g7)) (first | (go_keep; done) | ((repeat' apply And.intro) <;> (first | with_reducible assumption | (go_simp; done))) | (go_split_ands; (repeat' apply And.intro) <;> (first | with_reducible assumption | (go_simp; done))) | (go_split_ands; (repeat' apply And.intro) <;> (rw [hb2.cell (by first | omega | (simp; done) | (simp; omega))]; first | with_reducible assumption | (simp; done)))) ((refine (HF.out _).mono ?_; rintro e w2 ⟨rfl, hb2⟩; obtain ⟨hc2, hf2⟩ := bcell hb2; have hz2 := hb2.size; (try simp only [World.size_alloc] at hz2)))
  go_wp2
  have d0 : w2.cell? ⟨w.heap.size + 1 + 1, 0, none⟩ = some (.int .u64 0) := by rw [hc2 _ _ (by simp)]; go_simp
  have d1 : w2.cell? ⟨w.heap.size + 1 + 1, 1, none⟩ = some (.int .u64 0) := by rw [hc2 _ _ (by simp)]; go_simp
  have d2 : w2.cell? ⟨w.heap.size + 1 + 1, 2, none⟩ = some (.int .u64 0) := by rw [hc2 _ _ (by simp)]; go_simp
  have d3 : w2.cell? ⟨w.heap.size + 1 + 1, 3, none⟩ = some (.int .u64 0) := by rw [hc2 _ _ (by simp)]; go_simp
  have hbb : Below w.heap.size w w2 := Below.trans (by repeat (first | with_reducible exact Below.refl _ _ | with_reducible assumption | with_reducible refine below_drewN ?_ _ | with_reducible refine Below.drew ?_ | ((with_reducible refine Bset ?_ ?_); focus (first | omega | (simp; done) | (simp; omega))) | ((with_reducible refine Ball ?_ ?_); focus (first | omega | (simp; done) | (simp; omega))))) (hb2.mono (by simp; try omega))
  refine bodyPost_ret (v := .tuple #[.agg #[.int .u64 y0, .int .u64 y1, .int .u64 y2, .int .u64 y3], .bool b, .int .i64 0]) (by simp (maxDischargeDepth := 8) [results, Try.results13, go_sem, d0, d1, d2, d3]) rfl ⟨rfl, (by repeat (first | with_reducible exact Below.refl _ _ | with_reducible assumption | with_reducible refine below_drewN ?_ _ | with_reducible refine Below.drew ?_ | ((with_reducible refine Bset ?_ ?_); focus (first | omega | (simp; done) | (simp; omega))) | ((with_reducible refine Ball ?_ ?_); focus (first | omega | (simp; done) | (simp; omega)))))⟩

set_option maxHeartbeats 1000000 in
theorem core_sink (pb : Nat) (xa xb xc xd : Nat) (w : World) (hp : w.cell? ⟨pb, 0, none⟩ = some (.iface 105 (.agg #[])))
    (hF : ∀ w, Calls Try.prog 81 #[.agg #[]] w fun e w' => e = .returned (.agg #[.int .i64 xa, .int .i64 xb, .int .i64 xc, .int .i64 xd]) ∧ Below w.heap.size w w') :
    Calls Try.prog 17 #[.pointer (some ⟨pb, 0, none⟩)] w fun e w' => e = .returned (.agg #[.int .i64 xa, .int .i64 xb, .int .i64 xc, .int .i64 xd]) ∧ Below w.heap.size w w' := by
  have hpb := World.block_lt_of_cell? w _ hp
  simp only [] at hpb
  have hne0 : ¬ pb = w.heap.size := by omega
  have hnf0 : ¬ w.heap.size = pb := by omega
  have hnl0 : pb ≤ w.heap.size := by omega
  have hnt0 : pb < w.heap.size := by omega
  have HF := Lib.hid hF
  clear hF
  go_enter Try.func17, Try.ntmps17
  go_wp2_with ((refine (HF.out _).mono ?_; rintro e w2 ⟨rfl, hb2⟩; obtain ⟨hc2, hf2⟩ := bcell hb2; have hz2 := hb2.size; (try simp only [World.size_alloc] at hz2)))
  have d0 : w2.cell? ⟨w.heap.size, 0, none⟩ = some (.int .i64 0) := by rw [hc2 _ _ (by simp)]; go_simp
  have d1 : w2.cell? ⟨w.heap.size, 1, none⟩ = some (.int .i64 0) := by rw [hc2 _ _ (by simp)]; go_simp
  have d2 : w2.cell? ⟨w.heap.size, 2, none⟩ = some (.int .i64 0) := by rw [hc2 _ _ (by simp)]; go_simp
  have d3 : w2.cell? ⟨w.heap.size, 3, none⟩ = some (.int .i64 0) := by rw [hc2 _ _ (by simp)]; go_simp
  have hbb : Below w.heap.size w w2 := Below.trans (by repeat (first | with_reducible exact Below.refl _ _ | with_reducible assumption | with_reducible refine below_drewN ?_ _ | with_reducible refine Below.drew ?_ | ((with_reducible refine Bset ?_ ?_); focus (first | omega | (simp; done) | (simp; omega))) | ((with_reducible refine Ball ?_ ?_); focus (first | omega | (simp; done) | (simp; omega))))) (hb2.mono (by simp; try omega))
  refine bodyPost_ret (v := .agg #[.int .i64 xa, .int .i64 xb, .int .i64 xc, .int .i64 xd]) (by simp (maxDischargeDepth := 8) [results, Try.results17, go_sem, d0, d1, d2, d3]) rfl ⟨rfl, (by repeat (first | with_reducible exact Below.refl _ _ | with_reducible assumption | with_reducible refine below_drewN ?_ _ | with_reducible refine Below.drew ?_ | ((with_reducible refine Bset ?_ ?_); focus (first | omega | (simp; done) | (simp; omega))) | ((with_reducible refine Ball ?_ ?_); focus (first | omega | (simp; done) | (simp; omega)))))⟩

set_option maxHeartbeats 1000000 in
theorem core_scatter_false (pb : Nat) (k0 k1 k2 k3 s0 s1 s2 s3 s4 s5 s6 s7 e0 e1 e2 : Nat) (p1 p2 : Nat) (b : Bool) (w : World) (hp : w.cell? ⟨pb, 0, none⟩ = some (.iface 105 (.agg #[])))
    (hF : ∀ w, Calls Try.prog 80 #[.agg #[], .agg #[.int .u64 k0, .int .u64 k1, .int .u64 k2, .int .u64 k3], .agg #[.int .u64 s0, .int .u64 s1, .int .u64 s2, .int .u64 s3, .int .u64 s4, .int .u64 s5, .int .u64 s6, .int .u64 s7], .int .u32 e0, .bool ((e0 : Int) == e1)] w fun e w' => e = .returned (.tuple #[.int .u64 p1, .int .u64 p2, .bool b, .int .i64 0]) ∧ Below w.heap.size w w') :
    Calls Try.prog 10 #[.pointer (some ⟨pb, 0, none⟩), .agg #[.int .u64 k0, .int .u64 k1, .int .u64 k2, .int .u64 k3], .agg #[.int .u64 s0, .int .u64 s1, .int .u64 s2, .int .u64 s3, .int .u64 s4, .int .u64 s5, .int .u64 s6, .int .u64 s7], .agg #[.int .u32 e0, .int .u32 e1, .int .u32 e2], .bool false] w fun e w' => e = .returned (.tuple #[.int .u64 p1, .int .u64 p2, .bool b, .int .i64 0]) ∧ Below w.heap.size w w' := by
  have hpb := World.block_lt_of_cell? w _ hp
  simp only [] at hpb
  have hne0 : ¬ pb = w.heap.size := by omega
  have hnf0 : ¬ w.heap.size = pb := by omega
  have hnl0 : pb ≤ w.heap.size := by omega
  have hnt0 : pb < w.heap.size := by omega
  have hne1 : ¬ pb = w.heap.size + 1 := by omega
  have hnf1 : ¬ w.heap.size + 1 = pb := by omega
  have hnl1 : pb ≤ w.heap.size + 1 := by omega
  have hnt1 : pb < w.heap.size + 1 := by omega
  have hne2 : ¬ pb = w.heap.size + 1 + 1 := by omega
  have hnf2 : ¬ w.heap.size + 1 + 1 = pb := by omega
  have hnl2 : pb ≤ w.heap.size + 1 + 1 := by omega
  have hnt2 : pb < w.heap.size + 1 + 1 := by omega
  have HF := Lib.hid hF
  clear hF
  go_enter Try.func10, Try.ntmps10
  go_wp2_with fail
  go_region_held3 (fun w1 => w1.cell? ⟨pb, 0, none⟩ = some (.iface 105 (.agg #[])) ∧ w1.cell? ⟨w.heap.size, 0, none⟩ = some (.int .u64 k0) ∧ w1.cell? ⟨w.heap.size, 1, none⟩ = some (.int .u64 k1) ∧ w1.cell? ⟨w.heap.size, 2, none⟩ = some (.int .u64 k2) ∧ w1.cell? ⟨w.heap.size, 3, none⟩ = some (.int .u64 k3) ∧ w1.cell? ⟨w.heap.size + 1, 0, none⟩ = some (.int .u64 s0) ∧ w1.cell? ⟨w.heap.size + 1, 1, none⟩ = some (.int .u64 s1) ∧ w1.cell? ⟨w.heap.size + 1, 2, none⟩ = some (.int .u64 s2) ∧ w1.cell? ⟨w.heap.size + 1, 3, none⟩ = some (.int .u64 s3) ∧ w1.cell? ⟨w.heap.size + 1, 4, none⟩ = some (.int .u64 s4) ∧ w1.cell? ⟨w.heap.size + 1, 5, none⟩ = some (.int .u64 s5) ∧ w1.cell? ⟨w.heap.size + 1, 6, none⟩ = some (.int .u64 s6) ∧ w1.cell? ⟨w.heap.size + 1, 7, none⟩ = some (.int .u64 s7) ∧ w1.cell? ⟨w.heap.size + 1 + 1, 0, none⟩ = some (.int .u32 e0) ∧ w1.cell? ⟨w.heap.size + 1 + 1, 1, none⟩ = some (.int .u32 e1) ∧ w1.cell? ⟨w.heap.size + 1 + 1, 2, none⟩ = some (.int .u32 e2)) (first | (go_keep; done) | ((repeat' apply And.intro) <;> (first | with_reducible assumption | (go_simp; done))) | (go_split_ands; (repeat' apply And.intro) <;> (first | with_reducible assumption | (go_simp; done))) | (go_split_ands; (repeat' apply And.intro) <;> (rw [hb2.cell (by first | omega | (simp; done) | (simp; omega))]; first | with_reducible assumption | (simp; done)))) ((refine (HF.out _).mono ?_; rintro e w2 ⟨rfl, hb2⟩; obtain ⟨hc2, hf2⟩ := bcell hb2; have hz2 := hb2.size; (try simp only [World.size_alloc] at hz2)))
  go_wp2
  have hbb : Below w.heap.size w w2 := Below.trans (by repeat (first | with_reducible exact Below.refl _ _ | with_reducible assumption | with_reducible refine below_drewN ?_ _ | with_reducible refine Below.drew ?_ | ((with_reducible refine Bset ?_ ?_); focus (first | omega | (simp; done) | (simp; omega))) | ((with_reducible refine Ball ?_ ?_); focus (first | omega | (simp; done) | (simp; omega))))) (hb2.mono (by simp; try omega))
  refine bodyPost_ret (v := .tuple #[.int .u64 p1, .int .u64 p2, .bool b, .int .i64 0]) (by simp (maxDischargeDepth := 8) [results, Try.results10, go_sem]) rfl ⟨rfl, (by repeat (first | with_reducible exact Below.refl _ _ | with_reducible assumption | with_reducible refine below_drewN ?_ _ | with_reducible refine Below.drew ?_ | ((with_reducible refine Bset ?_ ?_); focus (first | omega | (simp; done) | (simp; omega))) | ((with_reducible refine Ball ?_ ?_); focus (first | omega | (simp; done) | (simp; omega)))))⟩

set_option maxHeartbeats 1000000 in
theorem core_scatter_true (pb : Nat) (k0 k1 k2 k3 s0 s1 s2 s3 s4 s5 s6 s7 e0 e1 e2 : Nat) (p1 p2 : Nat) (b : Bool) (w : World) (hp : w.cell? ⟨pb, 0, none⟩ = some (.iface 105 (.agg #[])))
    (hF : ∀ w, Calls Try.prog 80 #[.agg #[], .agg #[.int .u64 k0, .int .u64 k1, .int .u64 k2, .int .u64 k3], .agg #[.int .u64 s0, .int .u64 s1, .int .u64 s2, .int .u64 s3, .int .u64 s4, .int .u64 s5, .int .u64 s6, .int .u64 s7], .int .u32 e1, .bool ((e0 : Int) == e1)] w fun e w' => e = .returned (.tuple #[.int .u64 p1, .int .u64 p2, .bool b, .int .i64 0]) ∧ Below w.heap.size w w') :
    Calls Try.prog 10 #[.pointer (some ⟨pb, 0, none⟩), .agg #[.int .u64 k0, .int .u64 k1, .int .u64 k2, .int .u64 k3], .agg #[.int .u64 s0, .int .u64 s1, .int .u64 s2, .int .u64 s3, .int .u64 s4, .int .u64 s5, .int .u64 s6, .int .u64 s7], .agg #[.int .u32 e0, .int .u32 e1, .int .u32 e2], .bool true] w fun e w' => e = .returned (.tuple #[.int .u64 p1, .int .u64 p2, .bool b, .int .i64 0]) ∧ Below w.heap.size w w' := by
  have hpb := World.block_lt_of_cell? w _ hp
  simp only [] at hpb
  have hne0 : ¬ pb = w.heap.size := by omega
  have hnf0 : ¬ w.heap.size = pb := by omega
  have hnl0 : pb ≤ w.heap.size := by omega
  have hnt0 : pb < w.heap.size := by omega
  have hne1 : ¬ pb = w.heap.size + 1 := by omega
  have hnf1 : ¬ w.heap.size + 1 = pb := by omega
  have hnl1 : pb ≤ w.heap.size + 1 := by omega
  have hnt1 : pb < w.heap.size + 1 := by omega
  have hne2 : ¬ pb = w.heap.size + 1 + 1 := by omega
  have hnf2 : ¬ w.heap.size + 1 + 1 = pb := by omega
  have hnl2 : pb ≤ w.heap.size + 1 + 1 := by omega
  have hnt2 : pb < w.heap.size + 1 + 1 := by omega
  have HF := Lib.hid hF
  clear hF
  go_enter Try.func10, Try.ntmps10
  go_wp2_with fail
  go_region_held3 (fun w1 => w1.cell? ⟨pb, 0, none⟩ = some (.iface 105 (.agg #[])) ∧ w1.cell? ⟨w.heap.size, 0, none⟩ = some (.int .u64 k0) ∧ w1.cell? ⟨w.heap.size, 1, none⟩ = some (.int .u64 k1) ∧ w1.cell? ⟨w.heap.size, 2, none⟩ = some (.int .u64 k2) ∧ w1.cell? ⟨w.heap.size, 3, none⟩ = some (.int .u64 k3) ∧ w1.cell? ⟨w.heap.size + 1, 0, none⟩ = some (.int .u64 s0) ∧ w1.cell? ⟨w.heap.size + 1, 1, none⟩ = some (.int .u64 s1) ∧ w1.cell? ⟨w.heap.size + 1, 2, none⟩ = some (.int .u64 s2) ∧ w1.cell? ⟨w.heap.size + 1, 3, none⟩ = some (.int .u64 s3) ∧ w1.cell? ⟨w.heap.size + 1, 4, none⟩ = some (.int .u64 s4) ∧ w1.cell? ⟨w.heap.size + 1, 5, none⟩ = some (.int .u64 s5) ∧ w1.cell? ⟨w.heap.size + 1, 6, none⟩ = some (.int .u64 s6) ∧ w1.cell? ⟨w.heap.size + 1, 7, none⟩ = some (.int .u64 s7) ∧ w1.cell? ⟨w.heap.size + 1 + 1, 0, none⟩ = some (.int .u32 e0) ∧ w1.cell? ⟨w.heap.size + 1 + 1, 1, none⟩ = some (.int .u32 e1) ∧ w1.cell? ⟨w.heap.size + 1 + 1, 2, none⟩ = some (.int .u32 e2)) (first | (go_keep; done) | ((repeat' apply And.intro) <;> (first | with_reducible assumption | (go_simp; done))) | (go_split_ands; (repeat' apply And.intro) <;> (first | with_reducible assumption | (go_simp; done))) | (go_split_ands; (repeat' apply And.intro) <;> (rw [hb2.cell (by first | omega | (simp; done) | (simp; omega))]; first | with_reducible assumption | (simp; done)))) ((refine (HF.out _).mono ?_; rintro e w2 ⟨rfl, hb2⟩; obtain ⟨hc2, hf2⟩ := bcell hb2; have hz2 := hb2.size; (try simp only [World.size_alloc] at hz2)))
  go_wp2
  have hbb : Below w.heap.size w w2 := Below.trans (by repeat (first | with_reducible exact Below.refl _ _ | with_reducible assumption | with_reducible refine below_drewN ?_ _ | with_reducible refine Below.drew ?_ | ((with_reducible refine Bset ?_ ?_); focus (first | omega | (simp; done) | (simp; omega))) | ((with_reducible refine Ball ?_ ?_); focus (first | omega | (simp; done) | (simp; omega))))) (hb2.mono (by simp; try omega))
  refine bodyPost_ret (v := .tuple #[.int .u64 p1, .int .u64 p2, .bool b, .int .i64 0]) (by simp (maxDischargeDepth := 8) [results, Try.results10, go_sem]) rfl ⟨rfl, (by repeat (first | with_reducible exact Below.refl _ _ | with_reducible assumption | with_reducible refine below_drewN ?_ _ | with_reducible refine Below.drew ?_ | ((with_reducible refine Bset ?_ ?_); focus (first | omega | (simp; done) | (simp; omega))) | ((with_reducible refine Ball ?_ ?_); focus (first | omega | (simp; done) | (simp; omega)))))⟩

end Go.Proofs.Ytjmggfpomnnegaa
