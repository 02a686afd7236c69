/-
  The statement's helpers: behind, words, states, asked, agree, kept, spare.
-/
import Derived.Test.YtohmeobfiomfdaaSit2
import Derived.Test.YtohmeobfiomfdaaSccs
namespace Go.Proofs.Ytohmeobfiomfdaa
open Go.RowKit Go.Shelf
set_option maxRecDepth 100000

/-- A number cut to a span from 0 on. -/
def clip (x : Int) (m : Nat) : Nat := (min (max x 0) m).toNat

theorem behind_any (n sl sc el ec : Nat) (sa ea : Option Addr) (beh room : Int) (x5 x6 x7 x8 x9 x10 x11 x12 x13 : Value) (w : World) : Calls Try.prog 10 #[.agg #[.int .u32 n, .slice sa sl sc, .slice ea el ec, .int .i64 beh, .int .i64 room, x5, x6, x7, x8, x9, x10, x11, x12, x13]] w fun e w' => e = .returned (.int .i64 (clip beh 200)) ∧ Below w.heap.size w w' := by
  have hc : ((clip beh 200 : Nat) : Int) = min (max beh 0) 200 := by unfold clip; omega
  rw [hc]
  clear hc
  go_enter Try.func10, Try.ntmps10
  go_wp2
  all_goals
    go_ret
    exact ⟨ret_int (by omega), (by repeat (first | with_reducible exact Below.refl _ _ | with_reducible assumption | with_reducible refine below_drewN ?_ _ | with_reducible refine Below.drew ?_ | ((with_reducible refine Bset ?_ ?_); focus (first | omega | (simp; done) | (simp; omega))) | ((with_reducible refine Ball ?_ ?_); focus (first | omega | (simp; done) | (simp; omega)))))⟩

theorem Try.info28 : (Try.prog.info? 28).map (fun i => (i.zero, i.size, i.bytes)) = some (some (.int .u64 0), 1, 8) := by kernel_rfl
theorem madeCells_u64 (n : Nat) : (madeCells #[.int .u64 0] n).toList = List.replicate n (.int .u64 0) := by
  apply List.ext_getElem
  · simp [madeCells]
  · intro k h1 h2
    simp [madeCells, Nat.mod_one]
theorem Wds.made (w : World) (n : Nat) (T : TypeId) : Wds (w.alloc (.cells (madeCells #[.int .u64 0] n) T)) w.heap.size (List.replicate n 0) := by
  have h : isBlk (w.alloc (.cells (madeCells #[.int .u64 0] n) T)) w.heap.size T (List.replicate n (.int .u64 0)) := by
    have := isBlk.new w T (List.replicate n (.int .u64 0))
    rw [← madeCells_u64, Array.toArray_toList] at this
    rw [← madeCells_u64]
    exact this
  refine ⟨by simp, fun j hj => ?_, fun j => h.frozen j⟩
  rw [h.cell j, List.getElem?_replicate]
  simp only [List.length_replicate] at hj
  rw [if_pos hj, List.getElem_replicate]
  rfl

/-- The first words are 99. -/
def ninety (r k : Nat) : List Nat := List.replicate k 99 ++ List.replicate (r - k) 0
theorem ninety_set {r k : Nat} (h : k < r) : (ninety r k).set k 99 = ninety r (k + 1) := by
  unfold ninety
  apply List.ext_getElem
  · simp; omega
  · intro i h1 h2
    rw [List.getElem_set]
    by_cases hi : k = i
    · subst hi
      rw [if_pos rfl, List.getElem_append_left (by simp), List.getElem_replicate]
    · rw [if_neg hi]
      by_cases h3 : i < k
      · rw [List.getElem_append_left (by simpa using h3), List.getElem_append_left (by simp; omega), List.getElem_replicate, List.getElem_replicate]
      · rw [List.getElem_append_right (by simp; omega), List.getElem_append_right (by simp; omega), List.getElem_replicate, List.getElem_replicate]

set_option maxHeartbeats 1000000 in
theorem words_any (n sl sc el ec : Nat) (sa ea : Option Addr) (beh room : Int) (x5 x6 x7 x8 x9 x10 x11 x12 x13 : Value) (w : World) : Calls Try.prog 7 #[.agg #[.int .u32 n, .slice sa sl sc, .slice ea el ec, .int .i64 beh, .int .i64 room, x5, x6, x7, x8, x9, x10, x11, x12, x13]] w fun e w' => ∃ rb, e = .returned (.slice (some ⟨rb, 0, none⟩) (clip room 5000) (clip room 5000)) ∧ Wds w' rb (List.replicate (clip room 5000) 99) ∧ w.heap.size ≤ rb ∧ Below w.heap.size w w' := by
  obtain ⟨i0, hi, hz0, hz1, hz2⟩ := info_parts Try.info28
  have hc : ((clip room 5000 : Nat) : Int) = min (max room 0) 5000 := by unfold clip; omega
  have hr : clip room 5000 ≤ 5000 := by omega
  have hmk : ∀ w, (Instr.makeSlice 32 (.int .i64 (clip room 5000 : Nat)) (.int .i64 (clip room 5000 : Nat))).run Try.prog w = .ok (.slice (some ⟨w.heap.size, 0, none⟩) (clip room 5000) (clip room 5000)) (w.alloc (.cells (madeCells #[.int .u64 0] (clip room 5000 * 1)) 28)) := by
    intro w
    have := run_make w 32 28 i0 (.int .u64 0) Try.underlying32 hi hz0 .i64 .i64 (clip room 5000) (clip room 5000) (by omega) (by omega) (by rw [hz2]; omega) (by omega)
    rw [hz1] at this
    simp only [Int.toNat_natCast, Value.cells] at this
    exact this
  generalize clip room 5000 = r at *
  have HC := Lib.hid hc
  clear hc
  go_enter Try.func7, Try.ntmps7
  go_upto_region 1 with fail
  go_cut [3] (fun v3 wx => v3 = .int .i64 r ∧ wx = w.alloc (.cells #[.int .u32 n, .slice sa sl sc, .slice ea el ec, .int .i64 beh, .int .i64 room, x5, x6, x7, x8, x9, x10, x11, x12, x13] 30))
  case first =>
    go_wp2
    all_goals
      go_meet
      exact ⟨by rw [HC.out]; congr; omega, rfl⟩
  case rest =>
    obtain ⟨rfl, rfl⟩ := hcut
    go_wp2
    have hw0 := Wds.made (w.alloc (.cells #[.int .u32 n, .slice sa sl sc, .slice ea el ec, .int .i64 beh, .int .i64 room, x5, x6, x7, x8, x9, x10, x11, x12, x13] 30)) r 28
    have hB0 : Below w.heap.size w ((w.alloc (.cells #[.int .u32 n, .slice sa sl sc, .slice ea el ec, .int .i64 beh, .int .i64 room, x5, x6, x7, x8, x9, x10, x11, x12, x13] 30)).alloc (.cells (madeCells #[.int .u64 0] r) 28)) := (by repeat (first | with_reducible exact Below.refl _ _ | with_reducible assumption | with_reducible refine below_drewN ?_ _ | with_reducible refine Below.drew ?_ | ((with_reducible refine Bset ?_ ?_); focus (first | omega | (simp; done) | (simp; omega))) | ((with_reducible refine Ball ?_ ?_); focus (first | omega | (simp; done) | (simp; omega)))))
    rw [World.size_alloc] at hw0
    clear hmk
    obtain ⟨W0, hW0⟩ : ∃ W0, (w.alloc (.cells #[.int .u32 n, .slice sa sl sc, .slice ea el ec, .int .i64 beh, .int .i64 room, x5, x6, x7, x8, x9, x10, x11, x12, x13] 30)).alloc (.cells (madeCells #[.int .u64 0] r) 28) = W0 := ⟨_, rfl⟩
    obtain ⟨rb, hrb⟩ : ∃ rb, w.heap.size + 1 = rb := ⟨_, rfl⟩
    rw [hW0] at hw0 hB0 ⊢
    rw [hrb] at hw0 ⊢
    have hrz : w.heap.size ≤ rb := by omega
    clear hW0 hrb
    go_loopg [5] r (fun gk i wr => ∃ k : Nat, k + gk = r ∧ i = .int .i64 k ∧ Wds wr rb (ninety r k) ∧ Below w.heap.size w wr)
    case atStart => exact ⟨0, by omega, rfl, by simpa [ninety] using hw0, hB0⟩
    case round =>
      clear hw0 hB0
      obtain ⟨k, hk, rfl, hwk, hbk⟩ := hrel
      by_cases hlt : k < r
      · have h1 : (k : Int) < r := by omega
        have h2 : (0 : Int) ≤ k := Int.natCast_nonneg _
        have h3 : (ninety r k).length = r := by simp [ninety]; omega
        have hst := hwk.set k 99 (by omega)
        rw [ninety_set hlt] at hst
        have hb2 : Below w.heap.size w (wr.setCell ⟨rb, k, none⟩ (.int .u64 (99 : Nat))) := Bset hrz hbk
        have c1 := hwk.c k (by omega)
        rw [getD_get] at c1
        have f1 := hwk.f k
        have HN := Lib.hid (And.intro hst hb2)
        have hgk : 0 < gk := by omega
        generalize (ninety r k).getD k 0 = v1 at c1
        clear hst hb2 hwk hbk h3
        go_wp2
        go_roundg (gk - 1)
        case measure => omega
        case rel => exact ⟨k + 1, by omega, by go_num, HN.out⟩
      · obtain rfl : k = r := by omega
        rw [show ninety k k = List.replicate k 99 by simp [ninety]] at hwk
        go_wp2
        go_ret
        exact ⟨rb, rfl, hwk, hrz, hbk⟩

end Go.Proofs.Ytohmeobfiomfdaa
