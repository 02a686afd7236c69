/-
  A forest of vertices: the walk of its functions.
-/
import Derived.Test.YtohmeobfiomfdaaFst1
namespace Go.Proofs.Ytohmeobfiomfdaa
open Go.RowKit Go.Shelf
set_option maxRecDepth 100000

theorem Wds.at {w : World} {rb : Nat} {l : List Nat} (h : Wds w rb l) (j : Nat) (hj : j < l.length) : w.cell? ⟨rb, j, none⟩ = some (.int .u64 (l.getD j 0 : Nat)) := by
  rw [h.c j hj, List.getD_eq_getElem?_getD, List.getElem?_eq_getElem hj, Option.getD_some]

set_option maxHeartbeats 4000000 in
theorem root_any (rb N cs v : Nat) (L : List Nat) (w : World) (hw : Wds w rb L) (hF : Fst L N) (hv : v < N) :
    Calls Try.prog 56 #[.slice (some ⟨rb, 0, none⟩) N cs, .int .u64 v] w fun e w' => ∃ L', e = .returned (.int .u64 (rt L v : Nat)) ∧ Wds w' rb L' ∧ Same L L' N ∧ Chg (fun j => j = rb) w w' := by
  go_enter Try.func56, Try.ntmps56
  go_wp2_with fail
  go_loopg [1] (v + 1) (fun gk i wr => ∃ (u : Nat) (L' : List Nat), u + 1 = gk ∧ i = .int .u64 u ∧ u < N ∧ Hid (rt L u = rt L v) ∧ Hid (Wds wr rb L') ∧ Hid (Same L L' N) ∧ Hid (Chg (fun j => j = rb) w wr))
  case atStart => exact ⟨v, L, rfl, rfl, hv, Lib.hid rfl, Lib.hid hw, Lib.hid (Same.refl hF), Lib.hid (Chg.refl _ _)⟩
  case round =>
    clear hw hF
    obtain ⟨u, L', rfl, rfl, hu, HR, HW, HS, HC⟩ := hrel
    have hlen := HS.out.f.len
    have i1 : (u : Int) < N := by omega
    have i2 : (0 : Int) ≤ u := Int.natCast_nonneg _
    have c0 := HW.out.at u (by omega)
    have f0 := HW.out.f
    have hlt := HW.out.lt
    have hle := HS.out.f.le u hu
    obtain ⟨p, hp⟩ : ∃ p, L'.getD u 0 = p := ⟨_, rfl⟩
    rw [hp] at c0 hle
    by_cases hpu : p = u
    · have h1 : ((p : Int) != (u : Int)) = false := by rw [bne_eq_false_iff_eq]; omega
      have hend : rt L v = u := by
        rw [← HR.out, ← HS.out.rt u hu]
        exact rt_self (by rw [hp]; omega)
      have HE := Lib.hid hend
      clear hend hp hpu HR
      go_wp2
      refine bodyPost_ret (v := .int .u64 u) (by simp (maxDischargeDepth := 8) [results, Try.results56, go_sem]) rfl ?_
      exact ⟨L', by rw [HE.out], HW.out, HS.out, HC.out⟩
    · have h1 : ((p : Int) != (u : Int)) = true := by rw [bne_iff_ne]; omega
      have i3 : (p : Int) < N := by omega
      have i4 : (0 : Int) ≤ p := Int.natCast_nonneg _
      have c1 := HW.out.at p (by omega)
      have hle2 := HS.out.f.le p (by omega)
      have hS2 := HS.out.trans (HS.out.f.halve hu (by rw [hp]; exact hpu))
      have hup : rt L' (L'.getD p 0) = rt L' u := by rw [HS.out.f.up (show p < N by omega), ← hp, HS.out.f.up hu]
      rw [hp] at hS2
      obtain ⟨q, hq⟩ : ∃ q, L'.getD p 0 = q := ⟨_, rfl⟩
      rw [hq] at c1 hS2 hup hle2
      have HS2 := Lib.hid hS2
      have HR2 : Hid (rt L q = rt L v) := Lib.hid (by rw [← HS.out.rt q (by omega), hup, HS.out.rt u hu]; exact HR.out)
      clear hS2 hup hp hq HR
      go_wp2
      go_roundg (q + 1)
      case measure => omega
      case rel => exact ⟨q, L'.set u q, rfl, by go_num, by omega, HR2, Lib.hid (HW.out.set u q (by omega)), HS2, Lib.hid (HC.out.set (Or.inl rfl) _)⟩

set_option maxHeartbeats 4000000 in
theorem newForest_any (rb N cs : Nat) (L : List Nat) (w : World) (hw : Wds w rb L) (hL : N ≤ L.length) (hN : N ≤ 1000000) :
    Calls Try.prog 52 #[.slice (some ⟨rb, 0, none⟩) N cs] w fun e w' => e = .returned (.slice (some ⟨rb, 0, none⟩) N cs) ∧ Wds w' rb (alone L N) ∧ Chg (fun j => j = rb) w w' := by
  go_enter Try.func52, Try.ntmps52
  go_upto_block 0 with fail
  go_wp2_with fail
  go_loopg [3, 6] N (fun gk _ i wr => ∃ k : Nat, k + gk = N ∧ i = .int .i64 k ∧ Hid (Wds wr rb (List.range k ++ L.drop k)) ∧ Hid (Chg (fun j => j = rb) w wr))
  case atStart => exact ⟨0, by omega, rfl, Lib.hid (by simpa using hw), Lib.hid (Chg.refl _ _)⟩
  case round =>
    clear hw
    obtain ⟨k, hk, rfl, HW, HC⟩ := hrel
    by_cases hlt : k < N
    · have i1 : (k : Int) < N := by omega
      have i2 : (0 : Int) ≤ k := Int.natCast_nonneg _
      have hgk : 0 < gk := by omega
      have hlen : (List.range k ++ L.drop k).length = L.length := by simp; omega
      have c0 := HW.out.at k (by omega)
      have f0 := HW.out.f k
      have hwr : IntKind.u64.wrap (k : Int) = (k : Int) := by rw [IntKind.wrap_u64]; omega
      have hset : (List.range k ++ L.drop k).set k k = List.range (k + 1) ++ L.drop (k + 1) := by
        rw [List.set_append_right _ _ (by simp), List.length_range, Nat.sub_self, List.drop_eq_getElem_cons (show k < L.length by omega), List.set_cons_zero, List.range_succ, List.append_assoc]
        rfl
      have HW2 := Lib.hid (HW.out.set k k (by omega))
      rw [hset] at HW2
      clear hset
      go_wp2
      go_roundg (gk - 1)
      case measure => omega
      case rel => exact ⟨k + 1, by omega, by go_num, HW2, Lib.hid (HC.out.set (Or.inl rfl) _)⟩
    · obtain rfl : k = N := by omega
      go_wp2
      refine bodyPost_ret (v := .slice (some ⟨rb, 0, none⟩) k cs) (by simp (maxDischargeDepth := 8) [results, Try.results52, go_sem]) rfl ?_
      exact ⟨rfl, HW.out, HC.out⟩

set_option maxHeartbeats 4000000 in
theorem join_any (rb N cs a b : Nat) (L : List Nat) (w : World) (hw : Wds w rb L) (hF : Fst L N) (ha : a < N) (hb : b < N) :
    Calls Try.prog 54 #[.slice (some ⟨rb, 0, none⟩) N cs, .int .u64 a, .int .u64 b] w fun e w' => (∃ x, e = .returned x) ∧ ∃ L', Wds w' rb L' ∧ Joined L L' N a b ∧ Chg (fun j => j = rb) w w' := by
  go_enter Try.func54, Try.ntmps54
  go_upto_region 1 with (first | (go_at_call 56; ((with_reducible refine (root_any rb N cs a L _ hw hF ha).mono ?_); rintro e w1 ⟨L1, rfl, hw1, hs1, hc1⟩)) | (go_at_call 56; ((with_reducible refine (root_any rb N cs b L1 _ hw1 hs1.f hb).mono ?_); rintro e w2 ⟨L2, rfl, hw2, hs2, hc2⟩)))
  have HS := Lib.hid (hs1.trans hs2)
  have HC := Lib.hid (hc1.trans hc2)
  have hj := HS.out.joined ha hb (HS.out.f.join ha hb)
  rw [HS.out.rt a ha, HS.out.rt b hb] at hj
  have hr2 := hs1.rt b hb
  have la := rt_le L a
  have lb := rt_le L b
  have hlen := HS.out.f.len
  rw [hr2]
  obtain ⟨p, hp⟩ : ∃ p, rt L a = p := ⟨_, rfl⟩
  obtain ⟨q, hq⟩ : ∃ q, rt L b = q := ⟨_, rfl⟩
  rw [hp, hq] at hj
  rw [hp] at la ⊢
  rw [hq] at lb ⊢
  have HJ := Lib.hid hj
  clear hw1 hs1 hs2 hc1 hc2 hr2 hj hw hF hp hq
  have f0 := hw2.f
  rcases Nat.lt_trichotomy p q with h | h | h
  · rw [Nat.max_eq_right (Nat.le_of_lt h), Nat.min_eq_left (Nat.le_of_lt h)] at HJ
    have h1 : (p : Int) ≤ q := by omega
    have h4 : (p : Int) < q := by omega
    have h5 : ¬ (q : Int) < p := by omega
    have h6 : ¬ (q : Int) ≤ p := by omega
    have i1 : (q : Int) < N := by omega
    have i2 : (0 : Int) ≤ q := Int.natCast_nonneg _
    have c0 := hw2.at q (by omega)
    go_wp2
    go_end0
    exact ⟨⟨_, rfl⟩, _, hw2.set q p (by omega), HJ.out, HC.out.set (Or.inl rfl) _⟩
  · subst h
    rw [Nat.max_self, Nat.min_self] at HJ
    have i1 : (p : Int) < N := by omega
    have i2 : (0 : Int) ≤ p := Int.natCast_nonneg _
    have c0 := hw2.at p (by omega)
    go_wp2
    go_end0
    exact ⟨⟨_, rfl⟩, _, hw2.set p p (by omega), HJ.out, HC.out.set (Or.inl rfl) _⟩
  · rw [Nat.max_eq_left (Nat.le_of_lt h), Nat.min_eq_right (Nat.le_of_lt h)] at HJ
    have h1 : (q : Int) ≤ p := by omega
    have h4 : (q : Int) < p := by omega
    have h5 : ¬ (p : Int) < q := by omega
    have h6 : ¬ (p : Int) ≤ q := by omega
    have i1 : (p : Int) < N := by omega
    have i2 : (0 : Int) ≤ p := Int.natCast_nonneg _
    have c0 := hw2.at p (by omega)
    go_wp2
    go_end0
    exact ⟨⟨_, rfl⟩, _, hw2.set p q (by omega), HJ.out, HC.out.set (Or.inl rfl) _⟩

end Go.Proofs.Ytohmeobfiomfdaa
