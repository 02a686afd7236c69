/-
  The statement's helpers: agree, spare, kept.
-/
import Derived.Test.YtohmeobfiomfdaaStates
namespace Go.Proofs.Ytohmeobfiomfdaa
open Go.RowKit Go.Shelf
set_option maxRecDepth 100000

theorem agree_err (x : Bool) (y z er : Nat) (w : World) (he : er ≠ 0) :
    Calls Try.prog 14 #[.agg #[.bool false, .int .u32 0, .int .i64 0], .int .i64 er, .agg #[.bool x, .int .u32 y, .int .i64 z], .int .i64 er] w fun e w' => e = .returned (.bool true) ∧ Below w.heap.size w w' := by
  have h1 : ((er : Int) != 0) = true := by rw [bne_iff_ne]; omega
  go_enter Try.func14, Try.ntmps14
  go_wp2_with (go_at_call 28; ((with_reducible refine (num_any _ _).mono ?_); rintro e w' ⟨rfl, rfl⟩))
  go_ret
  exact ⟨rfl, (by repeat (first | with_reducible exact Below.refl _ _ | with_reducible assumption | with_reducible refine below_drewN ?_ _ | with_reducible refine Below.drew ?_ | ((with_reducible refine Bset ?_ ?_); focus (first | omega | (simp; done) | (simp; omega))) | ((with_reducible refine Ball ?_ ?_); focus (first | omega | (simp; done) | (simp; omega)))))⟩
theorem agree_ok (x : Bool) (y z : Nat) (w : World) :
    Calls Try.prog 14 #[.agg #[.bool x, .int .u32 y, .int .i64 z], .int .i64 0, .agg #[.bool x, .int .u32 y, .int .i64 z], .int .i64 0] w fun e w' => e = .returned (.bool true) ∧ Below w.heap.size w w' := by
  go_enter Try.func14, Try.ntmps14
  go_wp2_with (go_at_call 28; ((with_reducible refine (num_any _ _).mono ?_); rintro e w' ⟨rfl, rfl⟩))
  go_ret
  exact ⟨rfl, (by repeat (first | with_reducible exact Below.refl _ _ | with_reducible assumption | with_reducible refine below_drewN ?_ _ | with_reducible refine Below.drew ?_ | ((with_reducible refine Bset ?_ ?_); focus (first | omega | (simp; done) | (simp; omega))) | ((with_reducible refine Ball ?_ ?_); focus (first | omega | (simp; done) | (simp; omega)))))⟩

set_option maxHeartbeats 1000000 in
theorem spare_any (rb need : Nat) (l : List Nat) (w : World) (hw : Wds w rb l) (hl : l.length ≤ 5000) (hn : need ≤ 8589934592) (h : ∀ j, need ≤ j → j < l.length → l.getD j 0 = 99) :
    Calls Try.prog 16 #[.slice (some ⟨rb, 0, none⟩) l.length l.length, .int .i64 need] w fun e w' => e = .returned (.bool true) ∧ w = w' := by
  go_enter Try.func16, Try.ntmps16
  go_wp2
  go_loopg [5] (l.length - need) (fun gk i wr => ∃ k : Nat, l.length - k ≤ gk ∧ need ≤ k ∧ k ≤ l.length + need ∧ i = .int .i64 k ∧ w = wr)
  case atStart => exact ⟨need, by omega, by omega, by omega, rfl, rfl⟩
  case round =>
    obtain ⟨k, hk, hk2, hk3, rfl, rfl⟩ := hrel
    by_cases hlt : k < l.length
    · have i1 : (k : Int) < l.length := by omega
      have i2 : (0 : Int) ≤ k := Int.natCast_nonneg _
      have c := hw.c k hlt
      rw [getD_get, h k hk2 hlt] at c
      go_wp2
      go_roundg (gk - 1)
      case measure => omega
      case rel => exact ⟨k + 1, by omega, by omega, by omega, by go_num, rfl⟩
    · have i1 : ¬ (k : Int) < l.length := by omega
      go_wp2
      go_ret
      exact ⟨rfl, rfl⟩

@[go_sem] theorem Try.eq56 (w : World) (a0 a1 a2 a3 a4 a5 a6 a7 b0 b1 b2 b3 b4 b5 b6 b7 : Int) : (Op.equalIn 10000 56 (.agg #[.int .u64 a0, .int .u64 a1, .int .u64 a2, .int .u64 a3, .int .u64 a4, .int .u64 a5, .int .u64 a6, .int .u64 a7]) (.agg #[.int .u64 b0, .int .u64 b1, .int .u64 b2, .int .u64 b3, .int .u64 b4, .int .u64 b5, .int .u64 b6, .int .u64 b7])).run Try.prog w = .ok (a0 == b0 && (a1 == b1 && (a2 == b2 && (a3 == b3 && (a4 == b4 && (a5 == b5 && (a6 == b6 && (a7 == b7)))))))) w := by
  obtain ⟨i, hi, _, hs, _⟩ := info_parts Try.info28
  exact run_equalIn_arr8 w 9998 56 28 .u64 a0 a1 a2 a3 a4 a5 a6 a7 b0 b1 b2 b3 b4 b5 b6 b7 Try.underlying56 Try.underlying28 hi hs

set_option maxHeartbeats 2000000 in
theorem kept_any (g sb so sc cap : Nat) (a : Option Addr) (ss : List St) (w : World) (hm : IsSts w (some ⟨g, 0, none⟩) g 0 (ss ++ [mark 77, mark 78])) (hs : IsSts w a sb so ss) (hl : ss.length ≤ 1048576) (hc : ss.length + 2 ≤ cap) :
    Calls Try.prog 15 #[.slice (some ⟨g, 0, none⟩) ss.length cap, .slice a ss.length sc] w fun e w' => e = .returned (.bool true) ∧ Below w.heap.size w w' := by
  go_enter Try.func15, Try.ntmps15
  go_upto_region 6 with fail
  go_loopg [5] ss.length (fun gk i wr => ∃ k : Nat, k + gk = ss.length ∧ i = .int .i64 k ∧ Below w.heap.size w wr)
  case atStart => exact ⟨0, by omega, rfl, Below.refl _ _⟩
  case round =>
    obtain ⟨k, hk, rfl, hb⟩ := hrel
    have hml : 0 < (ss ++ [mark 77, mark 78]).length := by simp
    have hmr := hm.below hb hm.lt
    have hgl := hmr.lt hml
    by_cases hlt : k < ss.length
    · have i1 : (k : Int) < ss.length := by omega
      have i2 : (0 : Int) ≤ k := Int.natCast_nonneg _
      have hgk : 0 < gk := by omega
      have hsr := hs.below hb hs.lt
      obtain rfl := hsr.ad (by omega)
      have hsl := hsr.lt (by omega)
      have s0 := hsr.c0 k hlt
      have s1 := hsr.c1 k hlt
      have s2 := hsr.c2 k hlt
      have s3 := hsr.c3 k hlt
      have s4 := hsr.c4 k hlt
      have s5 := hsr.c5 k hlt
      have s6 := hsr.c6 k hlt
      have s7 := hsr.c7 k hlt
      have hlen : k < (ss ++ [mark 77, mark 78]).length := by rw [List.length_append]; omega
      have m0 := hmr.c0 k hlen
      have m1 := hmr.c1 k hlen
      have m2 := hmr.c2 k hlen
      have m3 := hmr.c3 k hlen
      have m4 := hmr.c4 k hlen
      have m5 := hmr.c5 k hlen
      have m6 := hmr.c6 k hlen
      have m7 := hmr.c7 k hlen
      rw [List.getElem_append_left hlt] at m0 m1 m2 m3 m4 m5 m6 m7
      simp only [Nat.zero_add] at m0 m1 m2 m3 m4 m5 m6 m7
      generalize ss[k] = s at *
      clear hmr hsr hlen hml
      go_upto_region 4 with fail
      go_quiet (fail)
      go_wp2
      have hb2 : Below w.heap.size w _ := below_drewN hb nq
      go_roundg (gk - 1)
      case measure => omega
      case rel => exact ⟨k + 1, by omega, by go_num, hb2⟩
    · obtain rfl : k = ss.length := by omega
      have n1 : ss.length < (ss ++ [mark 77, mark 78]).length := by simp
      have n2 : ss.length + 1 < (ss ++ [mark 77, mark 78]).length := by simp
      have s0 := hmr.c0 ss.length n1
      have s1 := hmr.c1 ss.length n1
      have s2 := hmr.c2 ss.length n1
      have s3 := hmr.c3 ss.length n1
      have s4 := hmr.c4 ss.length n1
      have s5 := hmr.c5 ss.length n1
      have s6 := hmr.c6 ss.length n1
      have s7 := hmr.c7 ss.length n1
      have m0 := hmr.c0 (ss.length + 1) n2
      have m1 := hmr.c1 (ss.length + 1) n2
      have m2 := hmr.c2 (ss.length + 1) n2
      have m3 := hmr.c3 (ss.length + 1) n2
      have m4 := hmr.c4 (ss.length + 1) n2
      have m5 := hmr.c5 (ss.length + 1) n2
      have m6 := hmr.c6 (ss.length + 1) n2
      have m7 := hmr.c7 (ss.length + 1) n2
      have e1 : (ss ++ [mark 77, mark 78])[ss.length] = mark 77 := by rw [List.getElem_append_right (Nat.le_refl _)]; simp
      have e2 : (ss ++ [mark 77, mark 78])[ss.length + 1] = mark 78 := by rw [List.getElem_append_right (by omega)]; simp
      rw [e1] at s0 s1 s2 s3 s4 s5 s6 s7
      rw [e2] at m0 m1 m2 m3 m4 m5 m6 m7
      simp only [Nat.zero_add, mark] at s0 s1 s2 s3 s4 s5 s6 s7 m0 m1 m2 m3 m4 m5 m6 m7
      have i1 : (0 : Int) ≤ (ss.length : Int) + 2 := by omega
      have i2 : (ss.length : Int) + 2 ≤ cap := by omega
      have i3 : (0 : Int) ≤ (ss.length : Int) := by omega
      clear e1 e2 n1 n2 hmr hml
      go_wp2
      go_ret
      exact ⟨rfl, hb⟩

end Go.Proofs.Ytohmeobfiomfdaa
