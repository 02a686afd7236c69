/-
  The closures of an audit of cores, and its passes.
-/
import Derived.Test.YtohmeobfiomfdaaPla2
import Derived.Test.YtohmeobfiomfdaaPla3
namespace Go.Proofs.Ytohmeobfiomfdaa
open Go.RowKit Go.Shelf
set_option maxRecDepth 100000

/-- What a closure of an audit of cores sees. -/
structure EnvK (w : World) (pb tb cb db sb so rb n cs cd cc : Nat) (ss : List St) : Prop where
  p : w.cell? ⟨pb, 0, none⟩ = some (.pointer (some ⟨db, 0, none⟩))
  t : w.cell? ⟨tb, 0, none⟩ = some (.slice (some ⟨rb, 0, none⟩) n cd)
  c : w.cell? ⟨cb, 0, none⟩ = some (.slice (some ⟨rb, n, none⟩) n cc)
  s : IsSts w (some ⟨sb, so, none⟩) sb so ss
  sn : ss.length = n
  np : pb ≠ db ∧ pb ≠ rb
  nt : tb ≠ db ∧ tb ≠ rb
  nc : cb ≠ db ∧ cb ≠ rb
  ns : sb ≠ db ∧ sb ≠ rb
  nd : db ≠ rb
theorem EnvK.lt {w : World} {pb tb cb db sb so rb n cs cd cc : Nat} {ss : List St} (h : EnvK w pb tb cb db sb so rb n cs cd cc ss) : ∀ j, j = pb ∨ j = tb ∨ j = cb ∨ j = sb ∧ 0 < ss.length → j < w.heap.size := by
  rintro j (rfl | rfl | rfl | ⟨rfl, h0⟩)
  · exact World.block_lt_of_cell? w _ h.p
  · exact World.block_lt_of_cell? w _ h.t
  · exact World.block_lt_of_cell? w _ h.c
  · exact h.s.lt h0
theorem EnvK.at {w w' : World} {pb tb cb db sb so rb n cs cd cc : Nat} {ss : List St} (h : EnvK w pb tb cb db sb so rb n cs cd cc ss) (hk : ∀ j, j = pb ∨ j = tb ∨ j = cb ∨ j = sb ∧ 0 < ss.length → w'.heap[j]? = w.heap[j]?) (hz : w.heap.size ≤ w'.heap.size) : EnvK w' pb tb cb db sb so rb n cs cd cc ss where
  p := (cell_heap (a := ⟨pb, 0, none⟩) (hk _ (Or.inl rfl))).trans h.p
  t := (cell_heap (a := ⟨tb, 0, none⟩) (hk _ (Or.inr (Or.inl rfl)))).trans h.t
  c := (cell_heap (a := ⟨cb, 0, none⟩) (hk _ (Or.inr (Or.inr (Or.inl rfl))))).trans h.c
  s := h.s.keep (fun h0 => hk _ (Or.inr (Or.inr (Or.inr ⟨rfl, h0⟩)))) hz
  sn := h.sn
  np := h.np
  nt := h.nt
  nc := h.nc
  ns := h.ns
  nd := h.nd
theorem EnvK.chg {w w' : World} {pb tb cb db sb so rb n cs cd cc : Nat} {ss : List St} (h : EnvK w pb tb cb db sb so rb n cs cd cc ss) (hc : Chg (Two db rb) w w') : EnvK w' pb tb cb db sb so rb n cs cd cc ss :=
  h.at (fun j hj => hc.block j (h.lt j hj) (by
    rintro (e | e) <;> rcases hj with rfl | rfl | rfl | ⟨rfl, _⟩
    · exact h.np.1 e
    · exact h.nt.1 e
    · exact h.nc.1 e
    · exact h.ns.1 e
    · exact h.np.2 e
    · exact h.nt.2 e
    · exact h.nc.2 e
    · exact h.ns.2 e)) hc.size

/-- What an edge does to the degrees. -/
def degE (n : Nat) (e : Ed) (l : List Nat) : List Nat := if (!(e.src == e.dst) && (l.getD (n + e.src) 0 == 0 && l.getD (n + e.dst) 0 == 0)) = true then (l.set e.src ((l.getD e.src 0 + 1) % 18446744073709551616)).set e.dst ((l.getD e.dst 0 + 1) % 18446744073709551616) else l
theorem degE_yes {n src dst x3 : Nat} {l : List Nat} (h : src ≠ dst) (h1 : l.getD (n + src) 0 = 0) (h2 : l.getD (n + dst) 0 = 0) : degE n ⟨src, dst, x3⟩ l = (l.set src ((l.getD src 0 + 1) % 18446744073709551616)).set dst ((l.getD dst 0 + 1) % 18446744073709551616) := by
  unfold degE
  rw [if_pos]
  simp only []
  rw [beq_eq_false_iff_ne.2 h, h1, h2]
  rfl
theorem degE_no {n src dst x3 : Nat} {l : List Nat} (h : src = dst ∨ l.getD (n + src) 0 ≠ 0 ∨ l.getD (n + dst) 0 ≠ 0) : degE n ⟨src, dst, x3⟩ l = l := by
  unfold degE
  rw [if_neg]
  simp only []
  rcases h with h | h | h
  · rw [h]; simp
  · rw [beq_eq_false_iff_ne.2 h]; simp
  · rw [beq_eq_false_iff_ne.2 h]; simp

set_option maxHeartbeats 4000000 in
theorem f62_any (pb tb cb db sb so rb n cs cd cc : Nat) (ss : List St) (l : List Nat) (x : Ed) (w : World)
    (hE : EnvK w pb tb cb db sb so rb n cs cd cc ss) (hx : Valid n x) (hl : n + n ≤ l.length) (hw : Wds w rb l) :
    Calls Try.prog 62 #[.agg #[.int .u32 x.src, .int .u32 x.dst, .int .u32 x.w], .pointer (some ⟨cb, 0, none⟩), .pointer (some ⟨tb, 0, none⟩)] w fun e w' =>
      (∃ x, e = .returned x) ∧ Wds w' rb (degE n x l) ∧ Chg (fun j => j = rb) w w' := by
  obtain ⟨src, dst, x3⟩ := x
  obtain ⟨hx1, hx2⟩ := hx
  simp only [] at hx1 hx2 ⊢
  have hc1 := (Chg.refl (fun j => j = rb) w).all (.cells #[.int .u32 src, .int .u32 dst, .int .u32 x3] 71)
  have hE1 := hE.at (w' := w.alloc (.cells #[.int .u32 src, .int .u32 dst, .int .u32 x3] 71)) (fun j hj => Below.heap_alloc _ _ _ (hE.lt j hj)) (by simp)
  have hw1 := hw.all (.cells #[.int .u32 src, .int .u32 dst, .int .u32 x3] 71)
  have x0 : (w.alloc (.cells #[.int .u32 src, .int .u32 dst, .int .u32 x3] 71)).cell? ⟨w.heap.size, 0, none⟩ = some (.int .u32 src) := (isBlk.new w 71 [.int .u32 src, .int .u32 dst, .int .u32 x3]).cell 0
  have x1 : (w.alloc (.cells #[.int .u32 src, .int .u32 dst, .int .u32 x3] 71)).cell? ⟨w.heap.size, 1, none⟩ = some (.int .u32 dst) := (isBlk.new w 71 [.int .u32 src, .int .u32 dst, .int .u32 x3]).cell 1
  obtain ⟨L2, hL2⟩ : ∃ L2, degE n ⟨src, dst, x3⟩ l = L2 := ⟨_, rfl⟩
  rw [hL2]
  have HL := Lib.hid hL2
  clear hL2
  go_enter Try.func62, Try.ntmps62
  go_upto_region 1 with fail
  obtain ⟨W1, hW1⟩ : ∃ W1, w.alloc (.cells #[.int .u32 src, .int .u32 dst, .int .u32 x3] 71) = W1 := ⟨_, rfl⟩
  have hsz1 : w.heap.size < W1.heap.size := by rw [← hW1]; simp
  have hsz3 : w.heap.size ≠ rb := by have := hw.lt; omega
  rw [hW1] at hE1 hw1 hc1 x0 x1 ⊢
  clear hW1 hE hw
  have ct := hE1.t
  have cc' := hE1.c
  have hnt := hE1.nt.2
  have hnc := hE1.nc.2
  have dS := hw1.at src (by omega)
  have dD := hw1.at dst (by omega)
  have kS := hw1.at (n + src) (by omega)
  have kD := hw1.at (n + dst) (by omega)
  have fS := hw1.f src
  have fD := hw1.f dst
  have hrl := hw1.lt
  have HW := Lib.hid hw1
  have HC := Lib.hid hc1
  have j1 : (src : Int) < n := by omega
  have j2 : (dst : Int) < n := by omega
  have j3 : (0 : Int) ≤ src := Int.natCast_nonneg _
  have j4 : (0 : Int) ≤ dst := Int.natCast_nonneg _
  obtain ⟨us, hus⟩ : ∃ us, l.getD src 0 = us := ⟨_, rfl⟩
  obtain ⟨ud, hud⟩ : ∃ ud, l.getD dst 0 = ud := ⟨_, rfl⟩
  rw [hus] at dS
  rw [hud] at dD
  obtain ⟨a, ha⟩ : ∃ a, (us + 1) % 18446744073709551616 = a := ⟨_, rfl⟩
  obtain ⟨b, hbq⟩ : ∃ b, (ud + 1) % 18446744073709551616 = b := ⟨_, rfl⟩
  have hwa : IntKind.u64.wrap ((us : Int) + 1) = (a : Int) := by rw [IntKind.wrap_u64]; omega
  have hwb : IntKind.u64.wrap ((ud : Int) + 1) = (b : Int) := by rw [IntKind.wrap_u64]; omega
  have HY : Hid (src ≠ dst → l.getD (n + src) 0 = 0 → l.getD (n + dst) 0 = 0 → L2 = (l.set src a).set dst b) := Lib.hid (fun h1 h2 h3 => by rw [← HL.out, ← ha, ← hbq, ← hus, ← hud]; exact degE_yes h1 h2 h3)
  have HN : Hid ((src = dst ∨ l.getD (n + src) 0 ≠ 0 ∨ l.getD (n + dst) 0 ≠ 0) → L2 = l) := Lib.hid (fun h => by rw [← HL.out]; exact degE_no h)
  clear hE1 hw1 hc1 HL ha hbq hus hud
  obtain ⟨ks, hks⟩ : ∃ ks, l.getD (n + src) 0 = ks := ⟨_, rfl⟩
  obtain ⟨kd, hkd⟩ : ∃ kd, l.getD (n + dst) 0 = kd := ⟨_, rfl⟩
  rw [hks, hkd] at HY HN
  rw [hks] at kS
  rw [hkd] at kD
  clear hks hkd
  generalize w.heap.size = xb at *
  by_cases h1 : src = dst
  · have h1' : ((src : Int) != (dst : Int)) = false := by rw [bne_eq_false_iff_eq]; omega
    have H1 := Lib.hid (HN.out (Or.inl h1))
    clear h1 HY HN
    go_wp2
    go_end0
    rw [H1.out]
    exact ⟨⟨_, rfl⟩, HW.out, HC.out⟩
  · have h1' : ((src : Int) != (dst : Int)) = true := by rw [bne_iff_ne]; omega
    have hsd : ¬ dst = src := fun e => h1 e.symm
    by_cases h2 : ks = 0
    · have h2' : ((ks : Int) == 0) = true := by rw [beq_iff_eq]; omega
      by_cases h3 : kd = 0
      · have h3' : ((kd : Int) == 0) = true := by rw [beq_iff_eq]; omega
        have H1 := Lib.hid (HY.out h1 h2 h3)
        clear HY HN h2 h3
        go_wp2
        go_end0
        rw [H1.out]
        exact ⟨⟨_, rfl⟩, (HW.out.set src a (by omega)).set dst b (by rw [List.length_set]; omega), (HC.out.set (Or.inl rfl) _).set (Or.inl rfl) _⟩
      · have h3' : ((kd : Int) == 0) = false := by rw [beq_eq_false_iff_ne]; omega
        have H1 := Lib.hid (HN.out (Or.inr (Or.inr h3)))
        clear HY HN h2 h3
        go_wp2
        go_end0
        rw [H1.out]
        exact ⟨⟨_, rfl⟩, HW.out, HC.out⟩
    · have h2' : ((ks : Int) == 0) = false := by rw [beq_eq_false_iff_ne]; omega
      have H1 := Lib.hid (HN.out (Or.inr (Or.inl h2)))
      clear HY HN h2
      go_wp2
      go_end0
      rw [H1.out]
      exact ⟨⟨_, rfl⟩, HW.out, HC.out⟩

set_option maxHeartbeats 4000000 in
theorem f63_any (pb tb cb db sb so rb n cs cd cc : Nat) (ss : List St) (d : Dk) (f : Fd) (l : List Nat) (k : Nat) (s : St) (w : World)
    (hE : EnvK w pb tb cb db sb so rb n cs cd cc ss) (hk : k < n) (hl : n + n ≤ l.length) (hc : 1 ≤ l.getD (n + k) 0 ∧ l.getD (n + k) 0 < 18446744073709551615) (hd : isBlk w db 75 (d.cells f)) (hw : Wds w rb l) :
    Calls Try.prog 63 #[.int .u32 k, s.val, .pointer (some ⟨pb, 0, none⟩), .pointer (some ⟨cb, 0, none⟩)] w fun e w' =>
      (∃ x, e = .returned x) ∧ isBlk w' db 75 (d.cells (noted f k 1 (!(s.a0 == l.getD (n + k) 0 - 1)))) ∧ Chg (fun j => j = db) w w' := by
  obtain ⟨l0, s1, s2, s3, s4, s5, s6, s7⟩ := s
  unfold St.val
  simp only []
  have hE1 := hE.at (w' := w.alloc (.cells #[.int .u64 l0, .int .u64 s1, .int .u64 s2, .int .u64 s3, .int .u64 s4, .int .u64 s5, .int .u64 s6, .int .u64 s7] 56)) (fun j hj => Below.heap_alloc _ _ _ (hE.lt j hj)) (by simp)
  have hd1 := hd.old (.cells #[.int .u64 l0, .int .u64 s1, .int .u64 s2, .int .u64 s3, .int .u64 s4, .int .u64 s5, .int .u64 s6, .int .u64 s7] 56)
  have hw1 := hw.all (.cells #[.int .u64 l0, .int .u64 s1, .int .u64 s2, .int .u64 s3, .int .u64 s4, .int .u64 s5, .int .u64 s6, .int .u64 s7] 56)
  have hc1 := (Chg.refl (fun j => j = db) w).all (.cells #[.int .u64 l0, .int .u64 s1, .int .u64 s2, .int .u64 s3, .int .u64 s4, .int .u64 s5, .int .u64 s6, .int .u64 s7] 56)
  have x0 : (w.alloc (.cells #[.int .u64 l0, .int .u64 s1, .int .u64 s2, .int .u64 s3, .int .u64 s4, .int .u64 s5, .int .u64 s6, .int .u64 s7] 56)).cell? ⟨w.heap.size, 0, none⟩ = some (.int .u64 l0) := (isBlk.new w 56 [.int .u64 l0, .int .u64 s1, .int .u64 s2, .int .u64 s3, .int .u64 s4, .int .u64 s5, .int .u64 s6, .int .u64 s7]).cell 0
  have kS := hw1.at (n + k) (by omega)
  obtain ⟨p, hp⟩ : ∃ p, l.getD (n + k) 0 = p := ⟨_, rfl⟩
  rw [hp] at hc kS ⊢
  obtain ⟨q, hq⟩ : ∃ q, p - 1 = q := ⟨_, rfl⟩
  rw [hq]
  have hwq : IntKind.u64.wrap ((p : Int) - 1) = (q : Int) := by rw [IntKind.wrap_u64]; omega
  obtain ⟨bv, hbv⟩ : ∃ bv, (!(l0 == q)) = bv := ⟨_, rfl⟩
  rw [hbv]
  have h1 : ((l0 : Int) != (q : Int)) = bv := by rw [← hbv]; exact neq_nat l0 q
  clear hp hbv hq
  go_enter Try.func63, Try.ntmps63
  go_upto_region 1 with fail
  obtain ⟨W1, hW1⟩ : ∃ W1, w.alloc (.cells #[.int .u64 l0, .int .u64 s1, .int .u64 s2, .int .u64 s3, .int .u64 s4, .int .u64 s5, .int .u64 s6, .int .u64 s7] 56) = W1 := ⟨_, rfl⟩
  have hsz1 : w.heap.size < W1.heap.size := by rw [← hW1]; simp
  have hsz3 : w.heap.size ≠ db := by have := hd.lt; omega
  rw [hW1] at hE1 hd1 hw1 hc1 x0 kS ⊢
  clear hW1 hE hw hd
  have cp := hE1.p
  have ct := hE1.c
  have bp := World.block_lt_of_cell? W1 _ cp
  have bt := World.block_lt_of_cell? W1 _ ct
  simp only [] at bp bt
  have hnp1 := hE1.np.1
  have hnt1 := hE1.nc.1
  have hrd : rb ≠ db := fun e => hE1.nd e.symm
  have hrl := hw1.lt
  have HC := Lib.hid hc1
  have HD := Lib.hid hd1
  have j1 : (k : Int) < n := by omega
  have j2 : (0 : Int) ≤ k := Int.natCast_nonneg _
  clear hE1 hw1 hc1 hd1
  generalize w.heap.size = xb at *
  go_region_held3 (fun wz => ∀ b o, b ≠ db → b < W1.heap.size → wz.cell? ⟨b, o, none⟩ = W1.cell? ⟨b, o, none⟩)
    (first | (intro b o _ _; rfl) | (intro b o hne hb; exact cell_heap (w := W1.drew) (a := ⟨b, o, none⟩) (hc3.block b hb hne)))
    (((with_reducible refine Calls.mono (broken1 db d f k bv _ HD.out.drew) ?_); rintro e w3 ⟨⟨x, rfl⟩, hd3, hc3⟩))
  all_goals
    go_wp2
    go_end0
    exact ⟨⟨_, rfl⟩, hd3, HC.out.trans ⟨hc3.os, hc3.tape, hc3.output, hc3.size, hc3.block⟩⟩

theorem each63 (pb tb cb db sb so rb n cs cd cc b1 b2 : Nat) (ss : List St) (l : List Nat) (w : World) (f : Fd)
    (hd : isBlk w db 75 ((⟨n, feedFn b1 b2, .slice (some ⟨sb, so, none⟩) n cs⟩ : Dk).cells f)) (hE : EnvK w pb tb cb db sb so rb n cs cd cc ss) (hw : Wds w rb l) (hl : n + n ≤ l.length) (hc : ∀ v, v < n → 1 ≤ l.getD (n + v) 0 ∧ l.getD (n + v) 0 < 18446744073709551615) (hn : n ≤ 4294967295) :
    Calls Try.prog 32 #[.pointer (some ⟨db, 0, none⟩), .func (.func 63) #[] #[.pointer (some ⟨pb, 0, none⟩), .pointer (some ⟨cb, 0, none⟩)]] w fun e w' =>
      (∃ x, e = .returned x) ∧ isBlk w' db 75 ((⟨n, feedFn b1 b2, .slice (some ⟨sb, so, none⟩) n cs⟩ : Dk).cells (lV ss (fun v => l.getD (n + v) 0 - 1) f n)) ∧ Chg (fun j => j = db) w w' := by
  have hss := hE.sn
  subst hss
  have hdl := hd.lt
  have hrl := hw.lt
  refine (each_any db 63 _ (enters_of Try.func63 (by kernel_rfl) rfl) ⟨ss.length, feedFn b1 b2, .slice (some ⟨sb, so, none⟩) ss.length cs⟩ f (some ⟨sb, so, none⟩) cs sb so ss (fun j => j = db)
    (fun k W => isBlk W db 75 ((⟨ss.length, feedFn b1 b2, .slice (some ⟨sb, so, none⟩) ss.length cs⟩ : Dk).cells (lV ss (fun v => l.getD (ss.length + v) 0 - 1) f k)) ∧ EnvK W pb tb cb db sb so rb ss.length cs cd cc ss ∧ Wds W rb l) w hd rfl hn
    (fun k W h => h.2.1.s) ?_ ?_ ⟨hd, hE, hw⟩).mono ?_
  · rintro k W W' ⟨h1, h2, h3⟩ hk hz
    refine ⟨?_, h2.at (fun j hj => hk _ (hE.lt j hj)) hz, h3.keep (hk _ hrl) hz⟩
    unfold isBlk at h1 ⊢; rw [hk _ hdl]; exact h1
  · rintro k W hk ⟨h1, h2, h3⟩ hz
    have hla := lab_get hk
    refine (f63_any pb tb cb db sb so rb ss.length cs cd cc ss _ _ l k ss[k] W h2 hk hl (hc k hk) h1 h3).mono ?_
    rintro e W' ⟨h6, h9, h10⟩
    rw [hla] at h9
    exact ⟨h6, ⟨h9, h2.chg (h10.mono (fun j h => Or.inl h)), h3.keep (h10.block _ h3.lt (fun e => h2.nd e.symm)) h10.size⟩, h10⟩
  · rintro e w' ⟨h1, ⟨h2, _, _⟩, h5⟩
    exact ⟨h1, h2, h5⟩

/-- The degrees behind some edges. -/
structure Degs (p : List Ed) (n : Nat) (P l0 l : List Nat) : Prop where
  d : ∀ v, v < n → l.getD v 0 = dg P p v % 18446744073709551616
  len : l.length = l0.length
  far : ∀ j, n ≤ j → l.getD j 0 = l0.getD j 0
theorem Degs.init {n : Nat} {P l0 : List Nat} (h : ∀ v, v < n → l0.getD v 0 = 0) : Degs [] n P l0 l0 := ⟨fun v hv => by rw [h v hv]; rfl, rfl, fun _ _ => rfl⟩
theorem Degs.step {p : List Ed} {n : Nat} {P l0 l : List Nat} {x : Ed} (h : Degs p n P l0 l) (hP : ∀ v, v < n → l0.getD (n + v) 0 = P.getD v 0) (hl : n + n ≤ l0.length) (hx : Valid n x) : Degs (p ++ [x]) n P l0 (degE n x l) := by
  obtain ⟨src, dst, x3⟩ := x
  obtain ⟨hx1, hx2⟩ := hx
  simp only [] at hx1 hx2
  have hlen := h.len
  have e1 : l.getD (n + src) 0 = P.getD src 0 := (h.far _ (by omega)).trans (hP src hx1)
  have e2 : l.getD (n + dst) 0 = P.getD dst 0 := (h.far _ (by omega)).trans (hP dst hx2)
  have hg : degE n ⟨src, dst, x3⟩ l = if hit P ⟨src, dst, x3⟩ = true then (l.set src ((l.getD src 0 + 1) % 18446744073709551616)).set dst ((l.getD dst 0 + 1) % 18446744073709551616) else l := by
    unfold degE hit
    simp only []
    rw [e1, e2]
  have hgg : ∀ v, (degE n ⟨src, dst, x3⟩ l).getD v 0 = if hit P ⟨src, dst, x3⟩ = true ∧ (v = src ∨ v = dst) then (l.getD v 0 + 1) % 18446744073709551616 else l.getD v 0 := fun v => by
    rw [hg]
    by_cases hh : hit P ⟨src, dst, x3⟩ = true
    · rw [if_pos hh, getD_set, getD_set, List.length_set]
      by_cases e3 : dst = v
      · subst e3; rw [if_pos ⟨rfl, by omega⟩, if_pos ⟨hh, Or.inr rfl⟩]
      · rw [if_neg (fun x => e3 x.1)]
        by_cases e4 : src = v
        · subst e4; rw [if_pos ⟨rfl, by omega⟩, if_pos ⟨hh, Or.inl rfl⟩]
        · rw [if_neg (fun x => e4 x.1), if_neg (fun x => x.2.elim (fun y => e4 y.symm) (fun y => e3 y.symm))]
    · rw [if_neg hh, if_neg (fun x => hh x.1)]
  have hbb : ∀ v, bump P ⟨src, dst, x3⟩ v = if hit P ⟨src, dst, x3⟩ = true ∧ (v = src ∨ v = dst) then 1 else 0 := fun v => by
    unfold bump
    by_cases hh : hit P ⟨src, dst, x3⟩ = true
    · have hne : src ≠ dst := fun e => by
        unfold hit at hh
        simp [e] at hh
      rw [if_pos hh]
      simp only []
      by_cases e3 : dst = v
      · subst e3; rw [if_neg hne, if_pos rfl, if_pos ⟨hh, Or.inr rfl⟩]
      · by_cases e4 : src = v
        · subst e4; rw [if_pos rfl, if_neg e3, if_pos ⟨hh, Or.inl rfl⟩]
        · rw [if_neg e4, if_neg e3, if_neg (fun x => x.2.elim (fun y => e4 y.symm) (fun y => e3 y.symm))]
    · rw [if_neg hh, if_neg (fun x => hh x.1)]
  refine ⟨fun v hv => ?_, ?_, fun j hj => by rw [hgg, if_neg (by omega)]; exact h.far j hj⟩
  · rw [hgg, dg_snoc, hbb, h.d v hv]
    split
    · omega
    · omega
  · rw [hg]
    split
    · rw [List.length_set, List.length_set]; exact hlen
    · exact hlen

theorem over62 (pb tb cb db sb so rb n cs cd cc b1 b2 eb eo : Nat) (a : Option Addr) (cap : Nat) (es : List Ed) (ss : List St) (f : Fd) (P l0 : List Nat) (w : World)
    (hd : isBlk w db 75 ((⟨n, feedFn b1 b2, .slice (some ⟨sb, so, none⟩) n cs⟩ : Dk).cells f)) (hE : EnvK w pb tb cb db sb so rb n cs cd cc ss) (hl : n + n ≤ l0.length) (hz : ∀ v, v < n → l0.getD v 0 = 0) (hP : ∀ v, v < n → l0.getD (n + v) 0 = P.getD v 0) (hva : ∀ e, e ∈ es → Valid n e)
    (hw : Wds w rb l0) (hF : Fed w b1 b2 eb eo a cap es 0) (hA : Apart b1 b2 eb sb db rb) :
    Calls Try.prog 35 #[.pointer (some ⟨db, 0, none⟩), .func (.func 62) #[] #[.pointer (some ⟨cb, 0, none⟩), .pointer (some ⟨tb, 0, none⟩)]] w fun e w' =>
      ∃ l, e = .returned (.int .i64 0) ∧ Wds w' rb l ∧ Degs es n P l0 l ∧ Chg (fun j => j = rb) w w' := by
  have hdl := hd.lt
  have hrl := hw.lt
  have hnd := hE.nd
  have hov := overErr0 hva
  have hall := (overErr_ok hov).1
  refine (over_any db b1 b2 62 _ (enters_of Try.func62 (by kernel_rfl) rfl) (⟨n, feedFn b1 b2, .slice (some ⟨sb, so, none⟩) n cs⟩ : Dk) a cap eb eo es 0 (fun j => j = rb)
    (fun p W => isBlk W db 75 ((⟨n, feedFn b1 b2, .slice (some ⟨sb, so, none⟩) n cs⟩ : Dk).cells f) ∧ EnvK W pb tb cb db sb so rb n cs cd cc ss ∧ ∃ l, Wds W rb l ∧ Degs p n P l0 l) w rfl hF.r hF.lt hF.c1 hF.c2 hF.e
    (fun j hj => by rw [hj]; exact hrl) ⟨hA.x1.2, hA.x2.2, hA.x3.2⟩ (fun p W h => ⟨f, h.1⟩) ?_ ?_ ⟨hd, hE, _, hw, Degs.init hz⟩).mono ?_
  · rintro p W W' ⟨h1, h2, L, h3, h4⟩ hk hz
    refine ⟨?_, h2.at (fun j hj => hk _ (hE.lt j hj)) hz, L, h3.keep (hk _ hrl) hz, h4⟩
    unfold isBlk at h1 ⊢; rw [hk _ hdl]; exact h1
  · rintro p x W hx ⟨h1, h2, L, h3, h4⟩ hz
    refine (f62_any pb tb cb db sb so rb n cs cd cc ss L x W h2 hx (by rw [h4.len]; exact hl) h3).mono ?_
    rintro e W' ⟨h6, h7, h10⟩
    exact ⟨h6, ⟨(h10.block _ h1.lt hnd).trans h1, h2.chg (h10.mono (fun j h => Or.inr h)), _, h7, h4.step hP hl hx⟩, h10⟩
  · rintro e w' ⟨p, rfl, h1, ⟨_, _, L, h3, h4⟩, h5⟩
    rw [h1 hall] at h4
    exact ⟨L, by rw [hov]; rfl, h3, h4, h5⟩

end Go.Proofs.Ytohmeobfiomfdaa
