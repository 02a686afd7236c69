/-
  The closures of an audit of labels, and its passes.
-/
import Derived.Test.YtohmeobfiomfdaaFst4
import Derived.Test.YtohmeobfiomfdaaFst6
namespace Go.Proofs.Ytohmeobfiomfdaa
open Go.RowKit Go.Shelf
set_option maxRecDepth 100000

/-- What a closure of an audit of labels sees. -/
structure EnvL (w : World) (pb fb db sb so rb n cs cf : Nat) (ss : List St) : Prop where
  p : w.cell? ⟨pb, 0, none⟩ = some (.pointer (some ⟨db, 0, none⟩))
  t : w.cell? ⟨fb, 0, none⟩ = some (.slice (some ⟨rb, 0, none⟩) n cf)
  s : IsSts w (some ⟨sb, so, none⟩) sb so ss
  sn : ss.length = n
  np : pb ≠ db ∧ pb ≠ rb
  nt : fb ≠ db ∧ fb ≠ rb
  ns : sb ≠ db ∧ sb ≠ rb
  nd : db ≠ rb
theorem EnvL.lt {w : World} {pb fb db sb so rb n cs cf : Nat} {ss : List St} (h : EnvL w pb fb db sb so rb n cs cf ss) : ∀ j, j = pb ∨ j = fb ∨ j = sb ∧ 0 < ss.length → j < w.heap.size := by
  rintro j (rfl | rfl | ⟨rfl, h0⟩)
  · exact World.block_lt_of_cell? w _ h.p
  · exact World.block_lt_of_cell? w _ h.t
  · exact h.s.lt h0
theorem EnvL.at {w w' : World} {pb fb db sb so rb n cs cf : Nat} {ss : List St} (h : EnvL w pb fb db sb so rb n cs cf ss) (hk : ∀ j, j = pb ∨ j = fb ∨ j = sb ∧ 0 < ss.length → w'.heap[j]? = w.heap[j]?) (hz : w.heap.size ≤ w'.heap.size) : EnvL w' pb fb db sb so rb n cs cf ss where
  p := (cell_heap (a := ⟨pb, 0, none⟩) (hk _ (Or.inl rfl))).trans h.p
  t := (cell_heap (a := ⟨fb, 0, none⟩) (hk _ (Or.inr (Or.inl rfl)))).trans h.t
  s := h.s.keep (fun h0 => hk _ (Or.inr (Or.inr ⟨rfl, h0⟩))) hz
  sn := h.sn
  np := h.np
  nt := h.nt
  ns := h.ns
  nd := h.nd
theorem EnvL.chg {w w' : World} {pb fb db sb so rb n cs cf : Nat} {ss : List St} (h : EnvL w pb fb db sb so rb n cs cf ss) (hc : Chg (Two db rb) w w') : EnvL w' pb fb db sb so rb n cs cf ss :=
  h.at (fun j hj => hc.block j (h.lt j hj) (by
    rintro (e | e) <;> rcases hj with rfl | rfl | ⟨rfl, _⟩
    · exact h.np.1 e
    · exact h.nt.1 e
    · exact h.ns.1 e
    · exact h.np.2 e
    · exact h.nt.2 e
    · exact h.ns.2 e)) hc.size

theorem isBlk.ch1 {W X : World} {b rb : Nat} {T : TypeId} {vs : List Value} (h : isBlk W b T vs) (hc : Chg (fun j => j = rb) W X) (hb : b ≠ rb) : isBlk X b T vs := (hc.block _ h.lt hb).trans h

set_option maxHeartbeats 4000000 in
theorem f60_any (pb fb db sb so rb n cs cf : Nat) (ss : List St) (L : List Nat) (x : Ed) (w : World)
    (hE : EnvL w pb fb db sb so rb n cs cf ss) (hx : Valid n x) (hF : Fst L n) (hw : Wds w rb L) (hn : n ≤ 4294967295) :
    Calls Try.prog 60 #[.agg #[.int .u32 x.src, .int .u32 x.dst, .int .u32 x.w], .pointer (some ⟨fb, 0, none⟩)] w fun e w' =>
      (∃ x, e = .returned x) ∧ ∃ L', Wds w' rb L' ∧ Joined L L' n x.src x.dst ∧ Chg (fun j => j = rb) w w' := by
  obtain ⟨src, dst, x3⟩ := x
  obtain ⟨hx1, hx2⟩ := hx
  simp only [] at hx1 hx2 ⊢
  have hc1 := (Chg.refl (fun j => j = rb) w).all (.cells #[.int .u32 src, .int .u32 dst, .int .u32 x3] 71)
  have hE1 := hE.at (w' := w.alloc (.cells #[.int .u32 src, .int .u32 dst, .int .u32 x3] 71)) (fun j hj => Below.heap_alloc _ _ _ (hE.lt j hj)) (by simp)
  have hw1 := hw.all (.cells #[.int .u32 src, .int .u32 dst, .int .u32 x3] 71)
  have x0 : (w.alloc (.cells #[.int .u32 src, .int .u32 dst, .int .u32 x3] 71)).cell? ⟨w.heap.size, 0, none⟩ = some (.int .u32 src) := (isBlk.new w 71 [.int .u32 src, .int .u32 dst, .int .u32 x3]).cell 0
  have x1 : (w.alloc (.cells #[.int .u32 src, .int .u32 dst, .int .u32 x3] 71)).cell? ⟨w.heap.size, 1, none⟩ = some (.int .u32 dst) := (isBlk.new w 71 [.int .u32 src, .int .u32 dst, .int .u32 x3]).cell 1
  go_enter Try.func60, Try.ntmps60
  go_upto_region 1 with fail
  obtain ⟨W1, hW1⟩ : ∃ W1, w.alloc (.cells #[.int .u32 src, .int .u32 dst, .int .u32 x3] 71) = W1 := ⟨_, rfl⟩
  rw [hW1] at hE1 hw1 hc1 x0 x1 ⊢
  clear hW1 hE hw
  have ct := hE1.t
  have HW := Lib.hid hw1
  have HC := Lib.hid hc1
  have hw0 : IntKind.u64.wrap (src : Int) = (src : Int) := by rw [IntKind.wrap_u64]; omega
  have hw2 : IntKind.u64.wrap (dst : Int) = (dst : Int) := by rw [IntKind.wrap_u64]; omega
  clear hE1 hw1 hc1
  generalize w.heap.size = xb at *
  go_wp2_with (go_at_call 54; ((with_reducible refine (join_any rb n cf src dst L _ HW.out hF hx1 hx2).mono ?_); rintro e w2 ⟨⟨y, rfl⟩, L1, hd2, hj2, hc2⟩))
  go_end0
  exact ⟨⟨_, rfl⟩, L1, hd2, hj2, HC.out.trans hc2⟩

set_option maxHeartbeats 4000000 in
theorem f61_any (pb fb db sb so rb n cs cf : Nat) (ss : List St) (d : Dk) (f : Fd) (L0 L : List Nat) (k : Nat) (s : St) (w : World)
    (hE : EnvL w pb fb db sb so rb n cs cf ss) (hS : Same L0 L n) (hk : k < n) (hn : n ≤ 4294967295) (hd : isBlk w db 75 (d.cells f)) (hw : Wds w rb L) :
    Calls Try.prog 61 #[.int .u32 k, s.val, .pointer (some ⟨pb, 0, none⟩), .pointer (some ⟨fb, 0, none⟩)] w fun e w' =>
      (∃ x, e = .returned x) ∧ ∃ L', Wds w' rb L' ∧ Same L0 L' n ∧ isBlk w' db 75 (d.cells (noted f k 1 (!(s.a0 == rt L0 k)))) ∧ Chg (Two db rb) w w' := by
  obtain ⟨l0, s1, s2, s3, s4, s5, s6, s7⟩ := s
  unfold St.val
  simp only []
  have hE1 := hE.at (w' := w.alloc (.cells #[.int .u64 l0, .int .u64 s1, .int .u64 s2, .int .u64 s3, .int .u64 s4, .int .u64 s5, .int .u64 s6, .int .u64 s7] 56)) (fun j hj => Below.heap_alloc _ _ _ (hE.lt j hj)) (by simp)
  have hd1 := hd.old (.cells #[.int .u64 l0, .int .u64 s1, .int .u64 s2, .int .u64 s3, .int .u64 s4, .int .u64 s5, .int .u64 s6, .int .u64 s7] 56)
  have hw1 := hw.all (.cells #[.int .u64 l0, .int .u64 s1, .int .u64 s2, .int .u64 s3, .int .u64 s4, .int .u64 s5, .int .u64 s6, .int .u64 s7] 56)
  have hc1 := (Chg.refl (Two db rb) w).all (.cells #[.int .u64 l0, .int .u64 s1, .int .u64 s2, .int .u64 s3, .int .u64 s4, .int .u64 s5, .int .u64 s6, .int .u64 s7] 56)
  have x0 : (w.alloc (.cells #[.int .u64 l0, .int .u64 s1, .int .u64 s2, .int .u64 s3, .int .u64 s4, .int .u64 s5, .int .u64 s6, .int .u64 s7] 56)).cell? ⟨w.heap.size, 0, none⟩ = some (.int .u64 l0) := (isBlk.new w 56 [.int .u64 l0, .int .u64 s1, .int .u64 s2, .int .u64 s3, .int .u64 s4, .int .u64 s5, .int .u64 s6, .int .u64 s7]).cell 0
  obtain ⟨p, hp⟩ : ∃ p, rt L0 k = p := ⟨_, rfl⟩
  rw [hp]
  obtain ⟨bv, hbv⟩ : ∃ bv, (!(l0 == p)) = bv := ⟨_, rfl⟩
  rw [hbv]
  have h1 : ((l0 : Int) != (p : Int)) = bv := by rw [← hbv]; exact neq_nat l0 p
  have HP := Lib.hid hp
  clear hp hbv
  go_enter Try.func61, Try.ntmps61
  go_upto_region 1 with fail
  obtain ⟨W1, hW1⟩ : ∃ W1, w.alloc (.cells #[.int .u64 l0, .int .u64 s1, .int .u64 s2, .int .u64 s3, .int .u64 s4, .int .u64 s5, .int .u64 s6, .int .u64 s7] 56) = W1 := ⟨_, rfl⟩
  have hsz1 : w.heap.size < W1.heap.size := by rw [← hW1]; simp
  have hsz2 : w.heap.size ≠ rb := by have := hw.lt; omega
  have hsz3 : w.heap.size ≠ db := by have := hd.lt; omega
  rw [hW1] at hE1 hd1 hw1 hc1 x0 ⊢
  clear hW1 hE hw hd
  have cp := hE1.p
  have ct := hE1.t
  have bp := World.block_lt_of_cell? W1 _ cp
  have bt := World.block_lt_of_cell? W1 _ ct
  simp only [] at bp bt
  have hnp := hE1.np.2
  have hnt := hE1.nt.2
  have hnp1 := hE1.np.1
  have hnt1 := hE1.nt.1
  have hnd := hE1.nd
  have hrd : rb ≠ db := fun e => hnd e.symm
  have hdl := hd1.lt
  have HW := Lib.hid hw1
  have HC := Lib.hid hc1
  have HD := Lib.hid hd1
  have HS := Lib.hid hS
  have hw0 : IntKind.u64.wrap (k : Int) = (k : Int) := by rw [IntKind.wrap_u64]; omega
  clear hE1 hw1 hc1 hd1 hS
  generalize w.heap.size = xb at *
  go_region_held3 (fun wz => ∀ b o, b ≠ rb → b ≠ db → b < W1.heap.size → wz.cell? ⟨b, o, none⟩ = W1.cell? ⟨b, o, none⟩)
    (first | (intro b o _ _ _; rfl) | (intro b o hne _ hb; exact cell_heap (w := W1.drew) (a := ⟨b, o, none⟩) (hc2.block b hb hne)) | (intro b o hne hne2 hb; exact (cell_heap (a := ⟨b, o, none⟩) (hc3.block b (Nat.lt_of_lt_of_le hb hc2.size) hne2)).trans (cell_heap (w := W1.drew) (a := ⟨b, o, none⟩) (hc2.block b hb hne))))
    (first | ((with_reducible refine Calls.mono (root_same rb n cf k p L0 L _ HW.out.drew HS.out hk HP.out) ?_); rintro e w2 ⟨L2, rfl, hw2, hs2, hc2⟩) | ((with_reducible refine Calls.mono (broken1 db d f k bv _ (HD.out.drew.ch1 hc2 hnd)) ?_); rintro e w3 ⟨⟨x, rfl⟩, hd3, hc3⟩))
  all_goals
    go_wp2
    go_end0
    exact ⟨⟨_, rfl⟩, L2, hw2.keep (hc3.block _ hw2.lt hrd) hc3.size, hs2, hd3, HC.out.trans ⟨((hc2.mono (S := Two db rb) (fun j h => Or.inr h)).trans (hc3.mono (fun j h => Or.inl h))).os, ((hc2.mono (S := Two db rb) (fun j h => Or.inr h)).trans (hc3.mono (fun j h => Or.inl h))).tape, ((hc2.mono (S := Two db rb) (fun j h => Or.inr h)).trans (hc3.mono (fun j h => Or.inl h))).output, ((hc2.mono (S := Two db rb) (fun j h => Or.inr h)).trans (hc3.mono (fun j h => Or.inl h))).size, ((hc2.mono (S := Two db rb) (fun j h => Or.inr h)).trans (hc3.mono (fun j h => Or.inl h))).block⟩⟩

/-- What the vertices note. -/
def lV (ss : List St) (ρ : Nat → Nat) (f : Fd) : Nat → Fd
  | 0 => f
  | k + 1 => noted (lV ss ρ f k) k 1 (!(lab ss k == ρ k))
theorem lV_least {ss : List St} {ρ : Nat → Nat} {f : Fd} {B : Nat → Nat → Prop} (h : Least f B) : ∀ k, Least (lV ss ρ f k) (fun v r => B v r ∨ (v < k ∧ r = 1 ∧ lab ss v ≠ ρ v))
  | 0 => h.congr (fun v r => ⟨Or.inl, fun h => h.elim id (fun h => absurd h.1 (Nat.not_lt_zero _))⟩)
  | k + 1 => by
    refine ((lV_least h k).noted k 1 (!(lab ss k == ρ k)) (by decide)).congr (fun v r => ?_)
    have hb : (!(lab ss k == ρ k)) = true ↔ lab ss k ≠ ρ k := by simp
    constructor
    · rintro ((h | ⟨h1, h2⟩) | ⟨h1, rfl, rfl⟩)
      · exact Or.inl h
      · exact Or.inr ⟨by omega, h2⟩
      · exact Or.inr ⟨by omega, rfl, hb.1 h1⟩
    · rintro (h | ⟨h1, h2, h3⟩)
      · exact Or.inl (Or.inl h)
      · by_cases e : v = k
        · subst e; exact Or.inr ⟨hb.2 h3, rfl, h2⟩
        · exact Or.inl (Or.inr ⟨by omega, h2, h3⟩)

theorem each61 (pb fb db sb so rb n cs cf b1 b2 : Nat) (ss : List St) (L : List Nat) (w : World) (f : Fd)
    (hd : isBlk w db 75 ((⟨n, feedFn b1 b2, .slice (some ⟨sb, so, none⟩) n cs⟩ : Dk).cells f)) (hE : EnvL w pb fb db sb so rb n cs cf ss) (hw : Wds w rb L) (hF : Fst L n) (hn : n ≤ 4294967295) :
    Calls Try.prog 32 #[.pointer (some ⟨db, 0, none⟩), .func (.func 61) #[] #[.pointer (some ⟨pb, 0, none⟩), .pointer (some ⟨fb, 0, none⟩)]] w fun e w' =>
      (∃ x, e = .returned x) ∧ (∃ L', Wds w' rb L' ∧ Same L L' n) ∧ isBlk w' db 75 ((⟨n, feedFn b1 b2, .slice (some ⟨sb, so, none⟩) n cs⟩ : Dk).cells (lV ss (rt L) f n)) ∧ Chg (Two db rb) w w' := by
  have hss := hE.sn
  subst hss
  have hdl := hd.lt
  have hrl := hw.lt
  refine (each_any db 61 _ (enters_of Try.func61 (by kernel_rfl) rfl) ⟨ss.length, feedFn b1 b2, .slice (some ⟨sb, so, none⟩) ss.length cs⟩ f (some ⟨sb, so, none⟩) cs sb so ss (Two db rb)
    (fun k W => isBlk W db 75 ((⟨ss.length, feedFn b1 b2, .slice (some ⟨sb, so, none⟩) ss.length cs⟩ : Dk).cells (lV ss (rt L) f k)) ∧ EnvL W pb fb db sb so rb ss.length cs cf ss ∧ ∃ L', Wds W rb L' ∧ Same L L' ss.length) w hd rfl hn
    (fun k W h => h.2.1.s) ?_ ?_ ⟨hd, hE, L, hw, Same.refl hF⟩).mono ?_
  · rintro k W W' ⟨h1, h2, L', h3, h4⟩ hk hz
    refine ⟨?_, h2.at (fun j hj => hk _ (hE.lt j hj)) hz, L', h3.keep (hk _ hrl) hz, h4⟩
    unfold isBlk at h1 ⊢; rw [hk _ hdl]; exact h1
  · rintro k W hk ⟨h1, h2, L', h3, h4⟩ hz
    have hla := lab_get hk
    refine (f61_any pb fb db sb so rb ss.length cs cf ss _ _ L L' k ss[k] W h2 h4 hk hn h1 h3).mono ?_
    rintro e W' ⟨h6, L2, h7, h8, h9, h10⟩
    rw [hla] at h9
    exact ⟨h6, ⟨h9, h2.chg h10, L2, h7, h8⟩, h10⟩
  · rintro e w' ⟨h1, ⟨h2, _, L', h3, h4⟩, h5⟩
    exact ⟨h1, ⟨L', h3, h4⟩, h2, h5⟩

/-- The forest that some edges leave. -/
structure GrownL (p : List Ed) (n : Nat) (L0 L : List Nat) : Prop where
  f : Fst L n
  r : Roots (Sgl p) (rt L) n
  v : ∀ e, e ∈ p → Valid n e
  len : L.length = L0.length
theorem GrownL.init (n : Nat) (L0 : List Nat) (hN : n ≤ L0.length) : GrownL [] n L0 (alone L0 n) where
  f := alone_fst hN
  r := (Roots.alone L0 n).congr (fun a b => ⟨fun h => h.elim, fun ⟨e, he, _⟩ => by cases he⟩)
  v := fun e he => by cases he
  len := alone_len hN
theorem GrownL.step {p : List Ed} {n : Nat} {L0 L L1 : List Nat} {x : Ed} (h : GrownL p n L0 L) (hx : Valid n x) (h1 : Joined L L1 n x.src x.dst) : GrownL (p ++ [x]) n L0 L1 where
  f := h1.f
  r := by
    refine (h.r.join (fun a b hab => ?_) hx.1 hx.2 h1).congr (Sgl_snoc p x)
    obtain ⟨e, he, rfl, rfl⟩ := hab
    exact h.v e he
  v := fun e he => by
    rcases List.mem_append.1 he with he | he
    · exact h.v e he
    · rw [List.mem_singleton] at he; rw [he]; exact hx
  len := h1.len.trans h.len

theorem over60 (pb fb db sb so rb n cs cf b1 b2 eb eo : Nat) (a : Option Addr) (cap : Nat) (es : List Ed) (beh : Nat) (ss : List St) (f : Fd) (L0 : List Nat) (w : World)
    (hd : isBlk w db 75 ((⟨n, feedFn b1 b2, .slice (some ⟨sb, so, none⟩) n cs⟩ : Dk).cells f)) (hE : EnvL w pb fb db sb so rb n cs cf ss) (hNl : n ≤ L0.length) (hn : n ≤ 4294967295)
    (hw : Wds w rb (alone L0 n)) (hF : Fed w b1 b2 eb eo a cap es beh) (hA : Apart b1 b2 eb sb db rb) :
    Calls Try.prog 35 #[.pointer (some ⟨db, 0, none⟩), .func (.func 60) #[] #[.pointer (some ⟨fb, 0, none⟩)]] w fun e w' =>
      ∃ p L, e = .returned (.int .i64 (overErr n es beh)) ∧ (allValid n es = true → p = es) ∧ Wds w' rb L ∧ GrownL p n L0 L ∧ Chg (fun j => j = rb) w w' := by
  have hdl := hd.lt
  have hrl := hw.lt
  have hnd := hE.nd
  refine (over_any db b1 b2 60 _ (enters_of Try.func60 (by kernel_rfl) rfl) (⟨n, feedFn b1 b2, .slice (some ⟨sb, so, none⟩) n cs⟩ : Dk) a cap eb eo es beh (fun j => j = rb)
    (fun p W => isBlk W db 75 ((⟨n, feedFn b1 b2, .slice (some ⟨sb, so, none⟩) n cs⟩ : Dk).cells f) ∧ EnvL W pb fb db sb so rb n cs cf ss ∧ ∃ L, Wds W rb L ∧ GrownL p n L0 L) w rfl hF.r hF.lt hF.c1 hF.c2 hF.e
    (fun j hj => by rw [hj]; exact hrl) ⟨hA.x1.2, hA.x2.2, hA.x3.2⟩ (fun p W h => ⟨f, h.1⟩) ?_ ?_ ⟨hd, hE, _, hw, GrownL.init n L0 hNl⟩).mono ?_
  · rintro p W W' ⟨h1, h2, L, h3, h4⟩ hk hz
    refine ⟨?_, h2.at (fun j hj => hk _ (hE.lt j hj)) hz, L, h3.keep (hk _ hrl) hz, h4⟩
    unfold isBlk at h1 ⊢; rw [hk _ hdl]; exact h1
  · rintro p x W hx ⟨h1, h2, L, h3, h4⟩ hz
    refine (f60_any pb fb db sb so rb n cs cf ss L x W h2 hx h4.f h3 hn).mono ?_
    rintro e W' ⟨h6, L1, h7, h8, h10⟩
    refine ⟨h6, ⟨?_, h2.chg (h10.mono (fun j h => Or.inr h)), L1, h7, h4.step hx h8⟩, h10⟩
    exact (h10.block _ h1.lt hnd).trans h1
  · rintro e w' ⟨p, rfl, h1, ⟨_, _, L, h3, h4⟩, h5⟩
    exact ⟨p, L, rfl, h1, h3, h4, h5⟩

/-- What stands in memory while labels are audited. -/
structure LabW (vb pb fb db sb so rb n cs cf b1 b2 eb eo : Nat) (a : Option Addr) (cap : Nat) (es : List Ed) (beh : Nat) (ss : List St) (w : World) (f : Fd) (L : List Nat) (W : World) : Prop where
  d : isBlk W db 75 ((⟨n, feedFn b1 b2, .slice (some ⟨sb, so, none⟩) n cs⟩ : Dk).cells f)
  e : EnvL W pb fb db sb so rb n cs cf ss
  wd : Wds W rb L
  v : isBlk W vb 35 [.bool false, .int .u32 0, .int .i64 0]
  fe : Fed W b1 b2 eb eo a cap es beh
  c : Chg (fun j => j = rb) w W
  nd : w.heap.size ≤ db ∧ w.heap.size ≤ vb
  nv : vb ≠ db ∧ vb ≠ rb
  ap : Apart b1 b2 eb sb db rb

theorem LabW.go {vb pb fb db sb so rb n cs cf b1 b2 eb eo : Nat} {a : Option Addr} {cap : Nat} {es : List Ed} {beh : Nat} {ss : List St} {w : World} {f f' : Fd} {L L' : List Nat} {W W' : World}
    (h : LabW vb pb fb db sb so rb n cs cf b1 b2 eb eo a cap es beh ss w f L W) (hc : Chg (Two db rb) W W')
    (hd : isBlk W' db 75 ((⟨n, feedFn b1 b2, .slice (some ⟨sb, so, none⟩) n cs⟩ : Dk).cells f')) (hw : Wds W' rb L') :
    LabW vb pb fb db sb so rb n cs cf b1 b2 eb eo a cap es beh ss w f' L' W' where
  d := hd
  e := h.e.chg hc
  wd := hw
  v := by have := h.v; have hl := this.lt; unfold isBlk at this ⊢; rw [hc.block _ hl (by rintro (e | e); exact h.nv.1 e; exact h.nv.2 e)]; exact this
  fe := h.fe.keep (fun j hj hx => hc.block _ hj (by
    have h2 : j ≠ db ∧ j ≠ rb := by
      rcases hx with rfl | rfl | rfl
      · exact h.ap.x1
      · exact h.ap.x2
      · exact h.ap.x3
    rintro (e | e); exact h2.1 e; exact h2.2 e)) hc.size
  c := h.c.then hc (fun j hj => by
    have := h.nd
    rcases hj with rfl | rfl
    · exact Or.inr this.1
    · exact Or.inl rfl)
  nd := h.nd
  nv := h.nv
  ap := h.ap

end Go.Proofs.Ytohmeobfiomfdaa
