/-
  The document's components: the walk.
-/
import Derived.Test.YtohmeobfiomfdaaFst2
import Derived.Test.YtohmeobfiomfdaaRef3
namespace Go.Proofs.Ytohmeobfiomfdaa
open Go.RowKit Go.Shelf
set_option maxRecDepth 100000

/-- The edges as they are. -/
def Sgl (p : List Ed) (a b : Nat) : Prop := ∃ e, e ∈ p ∧ a = e.src ∧ b = e.dst
theorem Sgl_snoc (p : List Ed) (x : Ed) (a b : Nat) : (Sgl p a b ∨ (a = x.src ∧ b = x.dst)) ↔ Sgl (p ++ [x]) a b := by
  constructor
  · rintro (⟨e, he, h⟩ | h)
    · exact ⟨e, List.mem_append.2 (Or.inl he), h⟩
    · exact ⟨x, by simp, h⟩
  · rintro ⟨e, he, h⟩
    rcases List.mem_append.1 he with he | he
    · exact Or.inl ⟨e, he, h⟩
    · rw [List.mem_singleton] at he; subst he; exact Or.inr h
/-- The document's forest behind the first edges. -/
structure Grew (p : List Ed) (n : Nat) (L : List Nat) : Prop where
  f : Fst L n
  r : Roots (Sgl p) (rt L) n
  len : L.length = n
theorem Grew.init (n : Nat) : Grew [] n (alone (List.replicate n 0) n) where
  f := alone_fst (by simp)
  r := (Roots.alone _ n).congr (fun a b => ⟨fun h => h.elim, fun ⟨e, he, _⟩ => by cases he⟩)
  len := by rw [alone_len (by simp)]; simp
theorem Grew.step {es : List Ed} {n k : Nat} {L L2 : List Nat} (h : Grew (es.take k) n L) (hk : k < es.length) (hva : ∀ e, e ∈ es → Valid n e) (h2 : Joined L L2 n es[k].src es[k].dst) : Grew (es.take (k + 1)) n L2 where
  f := h2.f
  r := by
    have hv := hva es[k] (List.getElem_mem hk)
    rw [List.take_succ_eq_append_getElem hk]
    refine (h.r.join (fun a b hab => ?_) hv.1 hv.2 h2).congr (Sgl_snoc _ _)
    obtain ⟨e, he, rfl, rfl⟩ := hab
    exact hva e (List.mem_of_mem_take he)
  len := h2.len.trans h.len

set_option maxHeartbeats 4000000 in
theorem rroot_any (rb N cs v : Nat) (L : List Nat) (w : World) (hw : Wds w rb L) (hF : Fst L N) (hv : v < N) :
    Calls Try.prog 57 #[.slice (some ⟨rb, 0, none⟩) N cs, .int .u64 v] w fun e w' => ∃ L', e = .returned (.int .u64 (rt L v : Nat)) ∧ Wds w' rb L' ∧ Same L L' N ∧ Chg (fun j => j = rb) w w' := by
  go_enter Try.func57, Try.ntmps57
  go_wp2_with fail
  go_loopg [1] (v + 1) (fun gk i wr => ∃ (u : Nat) (L' : List Nat), u + 1 = gk ∧ i = .int .u64 u ∧ u < N ∧ Hid (rt L u = rt L v) ∧ Hid (Wds wr rb L') ∧ Hid (Same L L' N) ∧ Hid (Chg (fun j => j = rb) w wr))
  case atStart => exact ⟨v, L, rfl, rfl, hv, Lib.hid rfl, Lib.hid hw, Lib.hid (Same.refl hF), Lib.hid (Chg.refl _ _)⟩
  case round =>
    clear hw hF
    obtain ⟨u, L', rfl, rfl, hu, HR, HW, HS, HC⟩ := hrel
    have hlen := HS.out.f.len
    have i1 : (u : Int) < N := by omega
    have i2 : (0 : Int) ≤ u := Int.natCast_nonneg _
    have c0 := HW.out.at u (by omega)
    have f0 := HW.out.f
    have hlt := HW.out.lt
    have hle := HS.out.f.le u hu
    obtain ⟨p, hp⟩ : ∃ p, L'.getD u 0 = p := ⟨_, rfl⟩
    rw [hp] at c0 hle
    by_cases hpu : p = u
    · have h1 : ((p : Int) != (u : Int)) = false := by rw [bne_eq_false_iff_eq]; omega
      have hend : rt L v = u := by
        rw [← HR.out, ← HS.out.rt u hu]
        exact rt_self (by rw [hp]; omega)
      have HE := Lib.hid hend
      clear hend hp hpu HR
      go_wp2
      refine bodyPost_ret (v := .int .u64 u) (by simp (maxDischargeDepth := 8) [results, Try.results57, go_sem]) rfl ?_
      exact ⟨L', by rw [HE.out], HW.out, HS.out, HC.out⟩
    · have h1 : ((p : Int) != (u : Int)) = true := by rw [bne_iff_ne]; omega
      have i3 : (p : Int) < N := by omega
      have i4 : (0 : Int) ≤ p := Int.natCast_nonneg _
      have c1 := HW.out.at p (by omega)
      have hle2 := HS.out.f.le p (by omega)
      have hS2 := HS.out.trans (HS.out.f.halve hu (by rw [hp]; exact hpu))
      have hup : rt L' (L'.getD p 0) = rt L' u := by rw [HS.out.f.up (show p < N by omega), ← hp, HS.out.f.up hu]
      rw [hp] at hS2
      obtain ⟨q, hq⟩ : ∃ q, L'.getD p 0 = q := ⟨_, rfl⟩
      rw [hq] at c1 hS2 hup hle2
      have HS2 := Lib.hid hS2
      have HR2 : Hid (rt L q = rt L v) := Lib.hid (by rw [← HS.out.rt q (by omega), hup, HS.out.rt u hu]; exact HR.out)
      clear hS2 hup hp hq HR
      go_wp2
      go_roundg (q + 1)
      case measure => omega
      case rel => exact ⟨q, L'.set u q, rfl, by go_num, by omega, HR2, Lib.hid (HW.out.set u q (by omega)), HS2, Lib.hid (HC.out.set (Or.inl rfl) _)⟩


theorem rroot_is (rb N cs v p : Nat) (L0 L : List Nat) (w : World) (hw : Wds w rb L) (hS : Same L0 L N) (hv : v < N) (hp : rt L0 v = p) :
    Calls Try.prog 57 #[.slice (some ⟨rb, 0, none⟩) N cs, .int .u64 v] w fun e w' => ∃ L', e = .returned (.int .u64 p) ∧ Wds w' rb L' ∧ Same L0 L' N ∧ Chg (fun j => j = rb) w w' := by
  refine (rroot_any rb N cs v L w hw hS.f hv).mono ?_
  rintro e w' ⟨L', rfl, h1, h2, h3⟩
  exact ⟨L', by rw [← hp, hS.rt v hv], h1, hS.trans h2, h3⟩

set_option maxHeartbeats 8000000 in
theorem refWCC_any (n ec eb eo : Nat) (ea : Option Addr) (es : List Ed) (w : World) (hE : IsEds w ea eb eo es) (hn : n ≤ 5000) (hn1 : 1 ≤ n) (hlen : es.length ≤ 1048576) (hva : ∀ e, e ∈ es → Valid n e) :
    Calls Try.prog 24 #[.int .u32 n, .slice ea es.length ec] w fun e w' => ∃ (g : Nat) (L : List Nat) (ρ : Nat → Nat), e = .returned (.slice (some ⟨g, 0, none⟩) n n) ∧ w.heap.size ≤ g ∧ Wds w' g L ∧ L.length = n ∧ Roots (Sgl es) ρ n ∧ (∀ v, v < n → L.getD v 0 = ρ v) ∧ Below w.heap.size w w' := by
  obtain ⟨i0, hi, hz0, hz1, hz2⟩ := info_parts Try.info28
  have hmk : ∀ w, (Instr.makeSlice 32 (.int .u32 n) (.int .u32 n)).run Try.prog w = .ok (.slice (some ⟨w.heap.size, 0, none⟩) n n) (w.alloc (.cells (madeCells #[.int .u64 0] (n * 1)) 28)) := by
    intro w
    have := run_make w 32 28 i0 (.int .u64 0) Try.underlying32 hi hz0 .u32 .u32 n n (by omega) (by omega) (by rw [hz2]; omega) (by omega)
    rw [hz1] at this
    simp only [Int.toNat_natCast, Value.cells] at this
    exact this
  simp only [Nat.mul_one] at hmk
  clear hz0 hz1 hz2 hi
  go_enter Try.func24, Try.ntmps24
  go_upto_block 0 with fail
  have hw1 := Wds.made w n 28
  obtain ⟨W1, hW1⟩ : ∃ W1, w.alloc (.cells (madeCells #[.int .u64 0] n) 28) = W1 := ⟨_, rfl⟩
  have hB1 : Below w.heap.size w W1 := by rw [← hW1]; exact (Below.refl _ _).alloc (Nat.le_refl _) _
  rw [hW1] at hw1 ⊢
  clear hW1 hmk
  obtain ⟨g, hg⟩ : ∃ g, g = w.heap.size := ⟨_, rfl⟩
  rw [← hg] at hw1 ⊢
  have hgw : w.heap.size ≤ g := by omega
  have hg' : Hid (g = w.heap.size) := Lib.hid hg
  clear hg
  have HW1 := Lib.hid hw1
  have HB1 := Lib.hid hB1
  clear hw1 hB1
  go_cut [6] (fun _ wx => Hid (Wds wx g (alone (List.replicate n 0) n)) ∧ Hid (Below w.heap.size w wx))
  case first =>
    go_wp2_with fail
    go_loopg [6] n (fun gk i wr => ∃ k : Nat, k + gk = n ∧ i = .int .i64 k ∧ Hid (Wds wr g (List.range k ++ (List.replicate n 0).drop k)) ∧ Hid (Below w.heap.size w wr))
    case atStart => exact ⟨0, by omega, rfl, Lib.hid (by simpa using HW1.out), HB1⟩
    case round =>
      clear HW1 HB1
      obtain ⟨k, hk, rfl, HW, HB⟩ := hrel
      by_cases hlt : k < n
      · have i1 : (k : Int) < n := by omega
        have i2 : (0 : Int) ≤ k := Int.natCast_nonneg _
        have hgk : 0 < gk := by omega
        have hlen2 : (List.range k ++ (List.replicate n 0).drop k).length = n := by simp; omega
        have c0 := HW.out.at k (by omega)
        have f0 := HW.out.f k
        have hwr : IntKind.u64.wrap (k : Int) = (k : Int) := by rw [IntKind.wrap_u64]; omega
        have hset : (List.range k ++ (List.replicate n 0).drop k).set k k = List.range (k + 1) ++ (List.replicate n 0).drop (k + 1) := by
          rw [List.set_append_right _ _ (by simp), List.length_range, Nat.sub_self, List.drop_eq_getElem_cons (by simpa using hlt), List.set_cons_zero, List.range_succ, List.append_assoc]
          rfl
        have HW2 := Lib.hid (HW.out.set k k (by omega))
        rw [hset] at HW2
        clear hset
        go_wp2
        go_roundg (gk - 1)
        case measure => omega
        case rel => exact ⟨k + 1, by omega, by go_num, HW2, Lib.hid (Bset hgw HB.out)⟩
      · obtain rfl : k = n := by omega
        go_wp2
        go_meet
        exact ⟨HW, HB⟩
  case rest =>
    obtain ⟨HW2, HB2⟩ := hcut
    clear HW1 HB1
    go_upto_block 2 with fail
    go_cut [7, 8, 9] (fun _ _ _ wx => ∃ L, Hid (Wds wx g L) ∧ Hid (Below w.heap.size w wx) ∧ Hid (Grew es n L))
    case first =>
      go_wp2_with fail
      go_loopg [7, 8, 9] es.length (fun gk i _ _ wr => ∃ (k : Nat) (L : List Nat), k + gk = es.length ∧ i = .int .i64 k ∧ Hid (Wds wr g L) ∧ Hid (Below w.heap.size w wr) ∧ Hid (Grew (es.take k) n L))
      case atStart => exact ⟨0, _, by omega, rfl, HW2, HB2, Lib.hid (Grew.init n)⟩
      case round =>
        clear HW2 HB2
        obtain ⟨k, L, hk, rfl, HW, HB, HG⟩ := hrel
        by_cases hlt : k < es.length
        · have i1 : (k : Int) < es.length := by omega
          have i2 : (0 : Int) ≤ k := Int.natCast_nonneg _
          have hgk : 0 < gk := by omega
          have hEr := hE.below HB.out hE.lt
          obtain rfl := hEr.ad (by omega)
          have hel := hEr.lt (by omega)
          have hel0 := hE.lt (by omega)
          have c0 := hEr.c0 k hlt
          have c1 := hEr.c1 k hlt
          have hvk := hva es[k] (List.getElem_mem hlt)
          have hstep := fun L2 => HG.out.step (L2 := L2) hlt hva
          have hne : eb ≠ g := by omega
          generalize es[k] = x at *
          obtain ⟨src, dst, x3⟩ := x
          obtain ⟨v1, v2⟩ := hvk
          simp only [] at c0 c1 v1 v2 hstep
          have HST := Lib.hid hstep
          have hlenL := HG.out.len
          have hj := HG.out.f.join v1 v2
          have la := rt_le L src
          have lb := rt_le L dst
          obtain ⟨p, hp⟩ : ∃ p, rt L src = p := ⟨_, rfl⟩
          obtain ⟨q, hq⟩ : ∃ q, rt L dst = q := ⟨_, rfl⟩
          have HP := Lib.hid hp
          have HQ := Lib.hid hq
          rw [hp] at la
          rw [hq] at lb
          have ww0 : IntKind.u64.wrap (src : Int) = (src : Int) := by rw [IntKind.wrap_u64]; omega
          have ww1 : IntKind.u64.wrap (dst : Int) = (dst : Int) := by rw [IntKind.wrap_u64]; omega
          clear hstep hj hEr hp hq
          go_upto_region 11 with (first | (go_at_call 57; ((with_reducible refine (rroot_is g n n src p L L _ HW.out (Same.refl HG.out.f) v1 HP.out).mono ?_); rintro e w2 ⟨L1, rfl, hw2, hs2, hc2⟩; have c12 : w2.cell? _ = _ := (cell_heap (hc2.block _ hel hne)).trans c1)) | (go_at_call 57; ((with_reducible refine (rroot_is g n n dst q L L1 _ hw2 hs2 v2 HQ.out).mono ?_); rintro e w3 ⟨L2, rfl, hw3, hs3, hc3⟩)))
          have hgl := HW.out.lt
          have HC := Lib.hid (hc2.trans hc3)
          have HB3 : Hid (Below w.heap.size w w3) := Lib.hid (HB.out.trans (Chg.below (a := wr) HC.out (B := w.heap.size) HB.out.size (fun j hj => by rw [hj]; exact hgw)))
          have hj := hs3.joined v1 v2 (hs3.f.join v1 v2)
          have hlen3 := hs3.len
          rw [hs3.rt src v1, hs3.rt dst v2, HP.out, HQ.out] at hj
          have f3 := hw3.f
          by_cases hpq : p < q
          · have e1 : (p : Int) < q := by omega
            rw [Nat.max_eq_right (Nat.le_of_lt hpq), Nat.min_eq_left (Nat.le_of_lt hpq)] at hj
            have H1 := Lib.hid (HST.out _ hj)
            have j1 : (q : Int) < n := by omega
            have j2 : (0 : Int) ≤ q := Int.natCast_nonneg _
            have cq := hw3.at q (by omega)
            have HW4 := Lib.hid (hw3.set q p (by omega))
            clear hj HST HP HQ hw2 hs2 hc2 hw3 hs3 hc3 c1 c12 c0 HW HB HG HC
            go_wp2
            go_roundg (gk - 1)
            case measure => omega
            case rel => exact ⟨k + 1, _, by omega, by go_num, HW4, Lib.hid (Bset hgw HB3.out), H1⟩
          · have e1 : ¬ (p : Int) < q := by omega
            rw [Nat.max_eq_left (by omega), Nat.min_eq_right (by omega)] at hj
            have H1 := Lib.hid (HST.out _ hj)
            have j1 : (p : Int) < n := by omega
            have j2 : (0 : Int) ≤ p := Int.natCast_nonneg _
            have cq := hw3.at p (by omega)
            have HW4 := Lib.hid (hw3.set p q (by omega))
            clear hj HST HP HQ hw2 hs2 hc2 hw3 hs3 hc3 c1 c12 c0 HW HB HG HC
            go_wp2
            go_roundg (gk - 1)
            case measure => omega
            case rel => exact ⟨k + 1, _, by omega, by go_num, HW4, Lib.hid (Bset hgw HB3.out), H1⟩
        · have hke : k = es.length := by omega
          subst hke
          go_wp2
          go_meet
          refine ⟨L, HW, HB, Lib.hid ?_⟩
          have := HG.out
          rwa [List.take_length] at this
    case rest =>
      obtain ⟨L0, HW3, HB3, HG⟩ := hcut
      have hlen0 := HG.out.len
      clear HW2 HB2
      go_upto_block 4 with fail
      go_cut [10] (fun _ wx => ∃ L, Hid (Wds wx g L) ∧ Hid (Below w.heap.size w wx) ∧ Hid (Same L0 L n) ∧ Hid (∀ j, j < n → L.getD j 0 = rt L0 j))
      case first =>
        go_wp2_with fail
        go_loopg [10] n (fun gk i wr => ∃ (k : Nat) (L : List Nat), k + gk = n ∧ i = .int .i64 k ∧ Hid (Wds wr g L) ∧ Hid (Below w.heap.size w wr) ∧ Hid (Same L0 L n) ∧ Hid (∀ j, j < k → L.getD j 0 = rt L0 j))
        case atStart => exact ⟨0, L0, by omega, rfl, HW3, HB3, Lib.hid (Same.refl HG.out.f), Lib.hid (fun j hj => absurd hj (Nat.not_lt_zero _))⟩
        case round =>
          clear HW3 HB3 HG
          obtain ⟨k, L, hk, rfl, HW, HB, HS, HK⟩ := hrel
          by_cases hlt : k < n
          · have i1 : (k : Int) < n := by omega
            have i2 : (0 : Int) ≤ k := Int.natCast_nonneg _
            have hgk : 0 < gk := by omega
            have hwr : IntKind.u64.wrap (k : Int) = (k : Int) := by rw [IntKind.wrap_u64]; omega
            have hlen1 := HS.out.len
            have hkr := rt_le L0 k
            obtain ⟨p, hp⟩ : ∃ p, rt L0 k = p := ⟨_, rfl⟩
            have HP := Lib.hid hp
            clear hp
            go_wp2_with (go_at_call 57; ((with_reducible refine (rroot_is g n n k p L L _ HW.out (Same.refl HS.out.f) hlt ((HS.out.rt k hlt).trans HP.out)).mono ?_); rintro e w2 ⟨L2, rfl, hw2, hs2, hc2⟩; have c2 := hw2.at k (by have := hs2.len; omega); have f2 := hw2.f k))
            have hs3 := hs2.trans (hs2.f.put hlt)
            rw [hs2.rt k hlt, HS.out.rt k hlt, HP.out] at hs3
            have hlen2 := hs2.len
            go_roundg (gk - 1)
            case measure => omega
            case rel =>
              refine ⟨k + 1, L2.set k p, by omega, by go_num, Lib.hid (hw2.set k p (by omega)), Lib.hid (Bset hgw (HB.out.trans (Chg.below (a := wr) hc2 (B := w.heap.size) HB.out.size (fun j hj => by rw [hj]; exact hgw)))), Lib.hid (HS.out.trans hs3), Lib.hid (fun j hj => ?_)⟩
              rw [getD_set]
              by_cases e : k = j
              · rw [if_pos ⟨e, by omega⟩, ← e, HP.out]
              · rw [if_neg (fun x => e x.1)]
                have h1 := HK.out j (by omega)
                have h2 := HS.out.rt j (by omega)
                rw [hs2.fix j (by omega) (h1.trans h2.symm), h2]
          · obtain rfl : k = n := by omega
            go_wp2
            go_meet
            exact ⟨L, HW, HB, HS, HK⟩
      case rest =>
        obtain ⟨L, HW4, HB4, HS, HK⟩ := hcut
        clear HW3 HB3
        go_wp2
        refine bodyPost_ret (v := .slice (some ⟨g, 0, none⟩) n n) (by simp (maxDischargeDepth := 8) [results, Try.results24, go_sem]) rfl ?_
        exact ⟨g, L, rt L0, rfl, hgw, HW4.out, HS.out.len.trans hlen0, HG.out.r, HK.out, HB4.out⟩

end Go.Proofs.Ytohmeobfiomfdaa
