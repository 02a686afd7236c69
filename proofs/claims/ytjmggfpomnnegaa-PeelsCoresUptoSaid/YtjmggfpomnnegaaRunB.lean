/-
  run: the first loop: start.
-/
import Derived.Test.YtjmggfpomnnegaaRunA
namespace Go.Proofs.Ytjmggfpomnnegaa
open Go.RowKit
set_option maxRecDepth 100000

set_option maxHeartbeats 4000000 in
theorem run_part1 : run_split.P1 := by
  intro pr I n hpr pb eb eo cap a es flip limit w hlen hn hlim hs i0 hi hz0 hz1 hz2 z0 w1 db hb1 z1 hdb hzw hp1 hE1 hpb1 D hD1 HDG hDl z3 z4 z5 z6
  go_wp2_with fail
  go_loopg [17, 18, 19, 20] n (fun gk bad v _ _ wr => ∃ k : Nat, k + gk = n ∧ v = .int .u32 k ∧ bad = .int .i64 0 ∧ Below w1.heap.size w1 wr ∧ isBlk wr (w1.heap.size + 1) 35 [.int .u64 Ct.zero.k0, .int .u64 Ct.zero.k1, .int .u64 Ct.zero.k2, .int .u64 Ct.zero.k3] ∧
    wr.ownsRow w1.heap.size 25 8 (.slice (some ⟨w1.heap.size, 0, none⟩) n n) n (stCells (startL pr D n k)))
  case atStart =>
    refine ⟨0, by omega, rfl, rfl, (by repeat (first | with_reducible exact Below.refl _ _ | with_reducible assumption | with_reducible refine below_drewN ?_ _ | with_reducible refine Below.drew ?_ | ((with_reducible refine Bset ?_ ?_); focus (first | omega | (simp; done) | (simp; omega))) | ((with_reducible refine Ball ?_ ?_); focus (first | omega | (simp; done) | (simp; omega))))), ?_, ?_⟩
    · have := isBlk.new (w1.alloc (.cells (madeCells #[.int .u64 0, .int .u64 0, .int .u64 0, .int .u64 0, .int .u64 0, .int .u64 0, .int .u64 0, .int .u64 0] (n * 8)) 25)) 35 [.int .u64 Ct.zero.k0, .int .u64 Ct.zero.k1, .int .u64 Ct.zero.k2, .int .u64 Ct.zero.k3]
      rw [World.size_alloc] at this
      exact this
    · have := (World.ownsRow_lit (base := w1.heap.size) (e := 25) (size := 8) w1 (madeCells #[.int .u64 0, .int .u64 0, .int .u64 0, .int .u64 0, .int .u64 0, .int .u64 0, .int .u64 0, .int .u64 0] (n * 8)) n (Nat.le_refl _) (by unfold maxLen; omega) (by rw [size_madeCells])).alloc (.cells #[.int .u64 0, .int .u64 0, .int .u64 0, .int .u64 0] 35)
      rw [madeCells_rep8, ← startL_zero pr D n] at this
      exact this
  case round =>
    obtain ⟨k, hk, rfl, rfl, hbl, hC, hown⟩ := hrel
    have hz := hbl.size
    have hCl := hC.lt
    by_cases hlt : k < n
    · have hd := own_below hD1 hbl hdb.2
      have d0 := hd.cellAt (k * 2) (by omega)
      have d1 := hd.cellAt (k * 2 + 1) (by omega)
      rw [(dgCells_get D k (by omega)).1] at d0
      rw [(dgCells_get D k (by omega)).2] at d1
      have hpr' : wr.cell? ⟨pb, 0, none⟩ = some I := by rw [hbl.cell (p := ⟨pb, 0, none⟩) hpb1]; exact hp1
      have hset := startL_set pr D n k hlt
      have hll := startL_len pr D n k
      have HS := Lib.hid hset
      clear hset hd
      generalize (dgAt D k).o = o at *
      generalize (dgAt D k).i = i at *
      generalize startL pr D n k = ss at *
      have hk0 : (k : Int) < (n : Int) := by omega
      have hk1 : (0 : Int) ≤ (k : Int) := Int.natCast_nonneg _
      have hkw : IntKind.u32.wrap ((k : Int) + 1) = (k : Int) + 1 := by rw [IntKind.wrap_u32]; omega
      go_wp2_with fail
      (with_reducible refine Calls.mono (hpr.start pb k o i _ hpr' hlt) ?_)
      rintro e w2 ⟨rfl, hb2⟩
      have hown2 := own_below hown hb2 (by omega)
      have hC2 := hC.below hb2 hCl
      have hbl2 := hbl.trans (hb2.mono hz)
      have hz2 := hb2.size
      have hff : ∀ j, w2.frozen? ⟨w1.heap.size, j, none⟩ = false := fun j => hown2.frozenAt j
      have hx := stCells_get ss k (by omega)
      obtain ⟨x0, x1, x2, x3, x4, x5, x6, x7⟩ := hx
      rw [← hown2.cellAt (k * 8) (by omega)] at x0
      rw [← hown2.cellAt (k * 8 + 1) (by omega)] at x1
      rw [← hown2.cellAt (k * 8 + 2) (by omega)] at x2
      rw [← hown2.cellAt (k * 8 + 3) (by omega)] at x3
      rw [← hown2.cellAt (k * 8 + 4) (by omega)] at x4
      rw [← hown2.cellAt (k * 8 + 5) (by omega)] at x5
      rw [← hown2.cellAt (k * 8 + 6) (by omega)] at x6
      rw [← hown2.cellAt (k * 8 + 7) (by omega)] at x7
      have hne1 : ¬ w1.heap.size = w2.heap.size := by omega
      have hlt2 : w1.heap.size < w2.heap.size := by omega
      go_wp2_with (first | (go_at_call 45; refine (worse_ok 0 rfl _).mono ?_; rintro e w3 ⟨rfl, rfl⟩))
      go_roundg (gk - 1)
      case measure => omega
      case rel =>
        refine ⟨k + 1, by omega, by go_num, rfl, Ball (by simp; omega) (below_store8 hbl2 (Nat.le_refl _) _ _), ?_, ?_⟩
        · exact (isBlk.old (by unfold isBlk; rw [heap_store8 _ _ _ _ _ (by omega)]; exact hC2) _)
        · have := (own_store8 hown2 k (by omega) (pr.start k o i)).alloc (.cells (pr.start k o i).cells.toArray 25)
          rw [HS.out] at this
          exact this
    · obtain rfl : k = n := by omega
      go_wp2
      go_meet
      exact ⟨rfl, hbl, hC, hown⟩

end Go.Proofs.Ytjmggfpomnnegaa
