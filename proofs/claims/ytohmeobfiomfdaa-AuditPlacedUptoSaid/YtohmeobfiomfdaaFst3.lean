/-
  The closures of an audit of two colours.
-/
import Derived.Test.YtohmeobfiomfdaaFst2
import Derived.Test.YtohmeobfiomfdaaTopo1
namespace Go.Proofs.Ytohmeobfiomfdaa
open Go.RowKit Go.Shelf
set_option maxRecDepth 100000

/-- The colour that two roots ask for. -/
def wantC (p q : Nat) : Nat := if p = q then 2 else if q < p then 1 else 0
def colBad (a p q : Nat) : Bool := !(a == wantC p q)
theorem neq_nat (a b : Nat) : ((a : Int) != (b : Int)) = !(a == b) := by
  by_cases h : a = b
  · subst h; simp
  · rw [beq_eq_false_iff_ne.2 h, bne_iff_ne.2 (by omega)]; rfl

/-- What a closure of an audit of two colours sees. -/
structure EnvC (w : World) (pb fb ab db sb so rb n N cs cf : Nat) (ss : List St) : Prop where
  p : w.cell? ⟨pb, 0, none⟩ = some (.pointer (some ⟨db, 0, none⟩))
  t : w.cell? ⟨fb, 0, none⟩ = some (.slice (some ⟨rb, 0, none⟩) N cf)
  a : w.cell? ⟨ab, 0, none⟩ = some (.int .u64 n)
  s : IsSts w (some ⟨sb, so, none⟩) sb so ss
  sn : ss.length = n ∧ N = 2 * n
  np : pb ≠ db ∧ pb ≠ rb
  nt : fb ≠ db ∧ fb ≠ rb
  na : ab ≠ db ∧ ab ≠ rb
  ns : sb ≠ db ∧ sb ≠ rb
  nd : db ≠ rb
theorem EnvC.lt {w : World} {pb fb ab db sb so rb n N cs cf : Nat} {ss : List St} (h : EnvC w pb fb ab db sb so rb n N cs cf ss) : ∀ j, j = pb ∨ j = fb ∨ j = ab ∨ j = sb ∧ 0 < ss.length → j < w.heap.size := by
  rintro j (rfl | rfl | rfl | ⟨rfl, h0⟩)
  · exact World.block_lt_of_cell? w _ h.p
  · exact World.block_lt_of_cell? w _ h.t
  · exact World.block_lt_of_cell? w _ h.a
  · exact h.s.lt h0
theorem EnvC.at {w w' : World} {pb fb ab db sb so rb n N cs cf : Nat} {ss : List St} (h : EnvC w pb fb ab db sb so rb n N cs cf ss) (hk : ∀ j, j = pb ∨ j = fb ∨ j = ab ∨ j = sb ∧ 0 < ss.length → w'.heap[j]? = w.heap[j]?) (hz : w.heap.size ≤ w'.heap.size) : EnvC w' pb fb ab db sb so rb n N cs cf ss where
  p := (cell_heap (a := ⟨pb, 0, none⟩) (hk _ (Or.inl rfl))).trans h.p
  t := (cell_heap (a := ⟨fb, 0, none⟩) (hk _ (Or.inr (Or.inl rfl)))).trans h.t
  a := (cell_heap (a := ⟨ab, 0, none⟩) (hk _ (Or.inr (Or.inr (Or.inl rfl))))).trans h.a
  s := h.s.keep (fun h0 => hk _ (Or.inr (Or.inr (Or.inr ⟨rfl, h0⟩)))) hz
  sn := h.sn
  np := h.np
  nt := h.nt
  na := h.na
  ns := h.ns
  nd := h.nd
theorem EnvC.chg {w w' : World} {pb fb ab db sb so rb n N cs cf : Nat} {ss : List St} (h : EnvC w pb fb ab db sb so rb n N cs cf ss) (hc : Chg (Two db rb) w w') : EnvC w' pb fb ab db sb so rb n N cs cf ss :=
  h.at (fun j hj => hc.block j (h.lt j hj) (by
    rintro (e | e) <;> rcases hj with rfl | rfl | rfl | ⟨rfl, _⟩
    · exact h.np.1 e
    · exact h.nt.1 e
    · exact h.na.1 e
    · exact h.ns.1 e
    · exact h.np.2 e
    · exact h.nt.2 e
    · exact h.na.2 e
    · exact h.ns.2 e)) hc.size

theorem root_same (rb N cs v p : Nat) (L0 L : List Nat) (w : World) (hw : Wds w rb L) (hS : Same L0 L N) (hv : v < N) (hp : rt L0 v = p) :
    Calls Try.prog 56 #[.slice (some ⟨rb, 0, none⟩) N cs, .int .u64 v] w fun e w' => ∃ L', e = .returned (.int .u64 p) ∧ Wds w' rb L' ∧ Same L0 L' N ∧ Chg (fun j => j = rb) w w' := by
  refine (root_any rb N cs v L w hw hS.f hv).mono ?_
  rintro e w' ⟨L', rfl, h1, h2, h3⟩
  exact ⟨L', by rw [← hp, hS.rt v hv], h1, hS.trans h2, h3⟩

set_option maxHeartbeats 4000000 in
theorem f53_any (pb fb ab db sb so rb n N cs cf : Nat) (ss : List St) (L : List Nat) (x : Ed) (w : World)
    (hE : EnvC w pb fb ab db sb so rb n N cs cf ss) (hx : Valid n x) (hF : Fst L N) (hNk : N ≤ 1000000) (hw : Wds w rb L) :
    Calls Try.prog 53 #[.agg #[.int .u32 x.src, .int .u32 x.dst, .int .u32 x.w], .pointer (some ⟨fb, 0, none⟩), .pointer (some ⟨ab, 0, none⟩)] w fun e w' =>
      (∃ x, e = .returned x) ∧ ∃ L1 L', Wds w' rb L' ∧ Joined L L1 N x.src (x.dst + n) ∧ Joined L1 L' N (x.src + n) x.dst ∧ Chg (fun j => j = rb) w w' := by
  obtain ⟨src, dst, x3⟩ := x
  obtain ⟨hx1, hx2⟩ := hx
  obtain ⟨hsn, hN2⟩ := hE.sn
  simp only [] at hx1 hx2 ⊢
  obtain ⟨dn, hdn⟩ : ∃ dn, dst + n = dn := ⟨_, rfl⟩
  obtain ⟨sn, hsn2⟩ : ∃ sn, src + n = sn := ⟨_, rfl⟩
  rw [hdn, hsn2]
  have b1 : src < N := by omega
  have b2 : dst < N := by omega
  have b3 : dn < N := by omega
  have b4 : sn < N := by omega
  have hc1 := (Chg.refl (fun j => j = rb) w).all (.cells #[.int .u32 src, .int .u32 dst, .int .u32 x3] 71)
  have hE1 := hE.at (w' := w.alloc (.cells #[.int .u32 src, .int .u32 dst, .int .u32 x3] 71)) (fun j hj => Below.heap_alloc _ _ _ (hE.lt j hj)) (by simp)
  have hw1 := hw.all (.cells #[.int .u32 src, .int .u32 dst, .int .u32 x3] 71)
  have x0 : (w.alloc (.cells #[.int .u32 src, .int .u32 dst, .int .u32 x3] 71)).cell? ⟨w.heap.size, 0, none⟩ = some (.int .u32 src) := (isBlk.new w 71 [.int .u32 src, .int .u32 dst, .int .u32 x3]).cell 0
  have x1 : (w.alloc (.cells #[.int .u32 src, .int .u32 dst, .int .u32 x3] 71)).cell? ⟨w.heap.size, 1, none⟩ = some (.int .u32 dst) := (isBlk.new w 71 [.int .u32 src, .int .u32 dst, .int .u32 x3]).cell 1
  go_enter Try.func53, Try.ntmps53
  go_upto_region 1 with fail
  obtain ⟨W1, hW1⟩ : ∃ W1, w.alloc (.cells #[.int .u32 src, .int .u32 dst, .int .u32 x3] 71) = W1 := ⟨_, rfl⟩
  have hsz1 : w.heap.size < W1.heap.size := by rw [← hW1]; simp
  rw [hW1] at hE1 hw1 hc1 x0 x1 ⊢
  clear hW1 hE hw
  have ct := hE1.t
  have ca := hE1.a
  have bt := World.block_lt_of_cell? W1 _ ct
  have ba := World.block_lt_of_cell? W1 _ ca
  simp only [] at bt ba
  have hnt := hE1.nt.2
  have hna := hE1.na.2
  have HW := Lib.hid hw1
  have HC := Lib.hid hc1
  have hw0 : IntKind.u64.wrap (src : Int) = (src : Int) := by rw [IntKind.wrap_u64]; omega
  have hw2 : IntKind.u64.wrap (dst : Int) = (dst : Int) := by rw [IntKind.wrap_u64]; omega
  have hw3 : IntKind.u64.wrap ((dst : Int) + (n : Int)) = (dn : Int) := by rw [IntKind.wrap_u64]; omega
  have hw4 : IntKind.u64.wrap ((src : Int) + (n : Int)) = (sn : Int) := by rw [IntKind.wrap_u64]; omega
  clear hE1 hw1 hc1 hN2 hdn hsn2
  generalize w.heap.size = xb at *
  go_region_held3 (fun wz => ∀ b o, b < W1.heap.size → wz.cell? ⟨b, o, none⟩ = W1.cell? ⟨b, o, none⟩)
    ((intro b o hb; rfl))
    (fail)
  all_goals
    go_upto_region 3 with (go_at_call 54; ((with_reducible refine (join_any rb N cf src dn L _ HW.out.drew hF b1 b3).mono ?_); rintro e w2 ⟨⟨y, rfl⟩, L1, hd2, hj2, hc2⟩; have ct2 : w2.cell? ⟨fb, 0, none⟩ = _ := (cell_heap (w := W1.drew) (a := ⟨fb, 0, none⟩) (hc2.block _ bt hnt)).trans ct; have ca2 : w2.cell? ⟨ab, 0, none⟩ = _ := (cell_heap (w := W1.drew) (a := ⟨ab, 0, none⟩) (hc2.block _ ba hna)).trans ca))
    go_wp2_with (go_at_call 54; ((with_reducible refine (join_any rb N cf sn dst L1 _ hd2 hj2.f b4 b2).mono ?_); rintro e w3 ⟨⟨z, rfl⟩, L2, hd3, hj3, hc3⟩))
    go_end0
    exact ⟨⟨_, rfl⟩, L1, L2, hd3, hj2, hj3, HC.out.trans ⟨(hc2.trans hc3).os, (hc2.trans hc3).tape, (hc2.trans hc3).output, (hc2.trans hc3).size, (hc2.trans hc3).block⟩⟩

set_option maxHeartbeats 4000000 in
theorem f55_any (pb fb ab db sb so rb n N cs cf : Nat) (ss : List St) (d : Dk) (f : Fd) (L0 L : List Nat) (k : Nat) (s : St) (w : World)
    (hE : EnvC w pb fb ab db sb so rb n N cs cf ss) (hS : Same L0 L N) (hk : k < n) (hNk : N ≤ 1000000) (hd : isBlk w db 75 (d.cells f)) (hw : Wds w rb L) :
    Calls Try.prog 55 #[.int .u32 k, s.val, .pointer (some ⟨fb, 0, none⟩), .pointer (some ⟨ab, 0, none⟩), .pointer (some ⟨pb, 0, none⟩)] w fun e w' =>
      (∃ x, e = .returned x) ∧ ∃ L', Wds w' rb L' ∧ Same L0 L' N ∧ isBlk w' db 75 (d.cells (noted f k 1 (colBad s.a0 (rt L0 k) (rt L0 (k + n))))) ∧ Chg (Two db rb) w w' := by
  obtain ⟨l0, s1, s2, s3, s4, s5, s6, s7⟩ := s
  obtain ⟨hsn, hN2⟩ := hE.sn
  unfold St.val
  simp only []
  have hE1 := hE.at (w' := w.alloc (.cells #[.int .u64 l0, .int .u64 s1, .int .u64 s2, .int .u64 s3, .int .u64 s4, .int .u64 s5, .int .u64 s6, .int .u64 s7] 56)) (fun j hj => Below.heap_alloc _ _ _ (hE.lt j hj)) (by simp)
  have hd1 := hd.old (.cells #[.int .u64 l0, .int .u64 s1, .int .u64 s2, .int .u64 s3, .int .u64 s4, .int .u64 s5, .int .u64 s6, .int .u64 s7] 56)
  have hw1 := hw.all (.cells #[.int .u64 l0, .int .u64 s1, .int .u64 s2, .int .u64 s3, .int .u64 s4, .int .u64 s5, .int .u64 s6, .int .u64 s7] 56)
  have hc1 := (Chg.refl (Two db rb) w).all (.cells #[.int .u64 l0, .int .u64 s1, .int .u64 s2, .int .u64 s3, .int .u64 s4, .int .u64 s5, .int .u64 s6, .int .u64 s7] 56)
  have x0 : (w.alloc (.cells #[.int .u64 l0, .int .u64 s1, .int .u64 s2, .int .u64 s3, .int .u64 s4, .int .u64 s5, .int .u64 s6, .int .u64 s7] 56)).cell? ⟨w.heap.size, 0, none⟩ = some (.int .u64 l0) := (isBlk.new w 56 [.int .u64 l0, .int .u64 s1, .int .u64 s2, .int .u64 s3, .int .u64 s4, .int .u64 s5, .int .u64 s6, .int .u64 s7]).cell 0
  have p0 := rt_le L0 k
  obtain ⟨kn, hkn⟩ : ∃ kn, k + n = kn := ⟨_, rfl⟩
  rw [hkn]
  have q0 := rt_le L0 kn
  obtain ⟨p, hp⟩ : ∃ p, rt L0 k = p := ⟨_, rfl⟩
  obtain ⟨q, hq⟩ : ∃ q, rt L0 kn = q := ⟨_, rfl⟩
  obtain ⟨bv, hbv⟩ : ∃ bv, colBad l0 (rt L0 k) (rt L0 kn) = bv := ⟨_, rfl⟩
  rw [hbv]
  rw [hp, hq] at hbv
  have HP := Lib.hid hp
  have HQ := Lib.hid hq
  have HB := Lib.hid hbv
  rw [hp] at p0
  rw [hq] at q0
  clear hp hq hbv
  go_enter Try.func55, Try.ntmps55
  go_upto_region 1 with fail
  obtain ⟨W1, hW1⟩ : ∃ W1, w.alloc (.cells #[.int .u64 l0, .int .u64 s1, .int .u64 s2, .int .u64 s3, .int .u64 s4, .int .u64 s5, .int .u64 s6, .int .u64 s7] 56) = W1 := ⟨_, rfl⟩
  have hsz1 : w.heap.size < W1.heap.size := by rw [← hW1]; simp
  have hsz2 : w.heap.size ≠ rb := by have := hw.lt; omega
  rw [hW1] at hE1 hd1 hw1 hc1 x0 ⊢
  clear hW1 hE hw hd
  have cp := hE1.p
  have ct := hE1.t
  have ca := hE1.a
  have bp := World.block_lt_of_cell? W1 _ cp
  have bt := World.block_lt_of_cell? W1 _ ct
  have ba := World.block_lt_of_cell? W1 _ ca
  simp only [] at bp bt ba
  have hnp := hE1.np.2
  have hnt := hE1.nt.2
  have hna := hE1.na.2
  have hnd := hE1.nd
  have hdl := hd1.lt
  have HW := Lib.hid hw1
  have HC := Lib.hid hc1
  have HD := Lib.hid hd1
  have HS := Lib.hid hS
  have hw0 : IntKind.u64.wrap (k : Int) = (k : Int) := by rw [IntKind.wrap_u64]; omega
  have hw3 : IntKind.u64.wrap ((k : Int) + (n : Int)) = (kn : Int) := by rw [IntKind.wrap_u64]; omega
  have hk2 : kn < N := by omega
  have hk1 : k < N := by omega
  clear hE1 hw1 hc1 hd1 hS hN2 hkn
  generalize w.heap.size = xb at *
  go_region_held3 (fun wz => ∀ b o, b ≠ rb → b < W1.heap.size → wz.cell? ⟨b, o, none⟩ = W1.cell? ⟨b, o, none⟩)
    (first | (intro b o _ _; rfl) | (intro b o hne hb; exact cell_heap (w := W1.drew) (a := ⟨b, o, none⟩) (hc2.block b hb hne)) | (intro b o hne hb; exact (cell_heap (a := ⟨b, o, none⟩) (hc3.block b (Nat.lt_of_lt_of_le hb hc2.size) hne)).trans (cell_heap (w := W1.drew) (a := ⟨b, o, none⟩) (hc2.block b hb hne))))
    (first | ((with_reducible refine Calls.mono (root_same rb N cf k p L0 L _ HW.out.drew HS.out hk1 HP.out) ?_); rintro e w2 ⟨L2, rfl, hw2, hs2, hc2⟩) | ((with_reducible refine Calls.mono (root_same rb N cf kn q L0 L2 _ hw2 hs2 hk2 HQ.out) ?_); rintro e w3 ⟨L3, rfl, hw3, hs3, hc3⟩))
  all_goals
    repeat (rename (∀ b o, b ≠ rb → b < W1.heap.size → World.cell? _ ⟨b, o, none⟩ = _) => hSS; clear hSS)
    have hcc : Chg (fun j => j = rb) W1 w3 := ⟨(hc2.trans hc3).os, (hc2.trans hc3).tape, (hc2.trans hc3).output, (hc2.trans hc3).size, (hc2.trans hc3).block⟩
    have HC3 := Lib.hid (HC.out.trans (hcc.mono (S := Two db rb) (fun j h => Or.inr h)))
    have cp3 := (cell_heap (a := ⟨pb, 0, none⟩) (hcc.block _ bp hnp)).trans cp
    have x3 := (cell_heap (a := ⟨xb, 0, none⟩) (hcc.block _ hsz1 hsz2)).trans x0
    have HD3 : Hid (isBlk w3 db 75 (d.cells f)) := Lib.hid ((hcc.block _ hdl hnd).trans HD.out)
    have HS3 := Lib.hid hs3
    have HW3 := Lib.hid hw3
    clear hw2 hs2 hc2 hw3 hs3 hc3 hcc HC HD HW cp x0 ct ca
    by_cases hpq : p = q
    · subst hpq
      have h1 : ((l0 : Int) != 2) = bv := by rw [← HB.out]; unfold colBad wantC; rw [if_pos rfl]; exact neq_nat l0 2
      clear HP HQ HB
      go_wp2_with (go_at_call 34; ((with_reducible refine (broken1 db d f k bv _ HD3.out).mono ?_); rintro e w4 ⟨⟨x, rfl⟩, hd4, hc4⟩))
      go_end0
      exact ⟨⟨_, rfl⟩, _, HW3.out.keep (hc4.block _ HW3.out.lt (fun e => hnd e.symm)) hc4.size, HS3.out, hd4, HC3.out.trans (hc4.mono (fun j h => Or.inl h))⟩
    · have e1 : ((p : Int) == (q : Int)) = false := by rw [beq_eq_false_iff_ne]; omega
      by_cases hqp : q < p
      · have e2 : (q : Int) < p := by omega
        have h1 : ((l0 : Int) != 1) = bv := by rw [← HB.out]; unfold colBad wantC; rw [if_neg hpq, if_pos hqp]; exact neq_nat l0 1
        clear HP HQ HB hpq hqp
        go_wp2_with (go_at_call 34; ((with_reducible refine (broken1 db d f k bv _ HD3.out).mono ?_); rintro e w4 ⟨⟨x, rfl⟩, hd4, hc4⟩))
        go_end0
        exact ⟨⟨_, rfl⟩, _, HW3.out.keep (hc4.block _ HW3.out.lt (fun e => hnd e.symm)) hc4.size, HS3.out, hd4, HC3.out.trans (hc4.mono (fun j h => Or.inl h))⟩
      · have e2 : ¬ (q : Int) < p := by omega
        have h1 : ((l0 : Int) != 0) = bv := by rw [← HB.out]; unfold colBad wantC; rw [if_neg hpq, if_neg hqp]; exact neq_nat l0 0
        clear HP HQ HB hpq hqp
        go_wp2_with (go_at_call 34; ((with_reducible refine (broken1 db d f k bv _ HD3.out).mono ?_); rintro e w4 ⟨⟨x, rfl⟩, hd4, hc4⟩))
        go_end0
        exact ⟨⟨_, rfl⟩, _, HW3.out.keep (hc4.block _ HW3.out.lt (fun e => hnd e.symm)) hc4.size, HS3.out, hd4, HC3.out.trans (hc4.mono (fun j h => Or.inl h))⟩

end Go.Proofs.Ytohmeobfiomfdaa
