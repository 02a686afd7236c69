/-
  The closures of an audit of levels.
-/
import Derived.Test.YtohmeobfiomfdaaScc4
namespace Go.Proofs.Ytohmeobfiomfdaa
open Go.RowKit Go.Shelf
set_option maxRecDepth 100000

def topoBad (u v : Nat) : Bool := if u = 18446744073709551615 then !(v == 18446744073709551615) else (!(v == 18446744073709551615) && decide (v ≤ u))
def topoHold (u v : Nat) : Bool := (u == 18446744073709551615 && v == 18446744073709551615) || (!(v == 18446744073709551615) && !(v == 0) && u == (v - 1) % 18446744073709551616)
def holdL (ss : List St) (e : Ed) (l : List Nat) : List Nat := if topoHold (lab ss e.src) (lab ss e.dst) = true then l.set e.dst 1 else l

/-- What a closure of an audit of levels sees. -/
structure Env3 (w : World) (pb qb tb nb db sb so rb n cs ct : Nat) (ss : List St) : Prop where
  p : w.cell? ⟨pb, 0, none⟩ = some (.pointer (some ⟨db, 0, none⟩))
  q : w.cell? ⟨qb, 0, none⟩ = some (.slice (some ⟨sb, so, none⟩) n cs)
  t : w.cell? ⟨tb, 0, none⟩ = some (.slice (some ⟨rb, 0, none⟩) n ct)
  nn : w.cell? ⟨nb, 0, none⟩ = some (.int .u32 n)
  s : IsSts w (some ⟨sb, so, none⟩) sb so ss
  np : pb ≠ db ∧ pb ≠ rb
  nq : qb ≠ db ∧ qb ≠ rb
  nt : tb ≠ db ∧ tb ≠ rb
  nz : nb ≠ db ∧ nb ≠ rb
  ns : sb ≠ db ∧ sb ≠ rb
  nd : db ≠ rb
theorem Env3.lt {w : World} {pb qb tb nb db sb so rb n cs ct : Nat} {ss : List St} (h : Env3 w pb qb tb nb db sb so rb n cs ct ss) : ∀ j, j = pb ∨ j = qb ∨ j = tb ∨ j = nb ∨ j = sb ∧ 0 < ss.length → j < w.heap.size := by
  rintro j (rfl | rfl | rfl | rfl | ⟨rfl, h0⟩)
  · exact World.block_lt_of_cell? w _ h.p
  · exact World.block_lt_of_cell? w _ h.q
  · exact World.block_lt_of_cell? w _ h.t
  · exact World.block_lt_of_cell? w _ h.nn
  · exact h.s.lt h0
theorem Env3.at {w w' : World} {pb qb tb nb db sb so rb n cs ct : Nat} {ss : List St} (h : Env3 w pb qb tb nb db sb so rb n cs ct ss) (hk : ∀ j, j = pb ∨ j = qb ∨ j = tb ∨ j = nb ∨ j = sb ∧ 0 < ss.length → w'.heap[j]? = w.heap[j]?) (hz : w.heap.size ≤ w'.heap.size) : Env3 w' pb qb tb nb db sb so rb n cs ct ss where
  p := (cell_heap (a := ⟨pb, 0, none⟩) (hk _ (Or.inl rfl))).trans h.p
  q := (cell_heap (a := ⟨qb, 0, none⟩) (hk _ (Or.inr (Or.inl rfl)))).trans h.q
  t := (cell_heap (a := ⟨tb, 0, none⟩) (hk _ (Or.inr (Or.inr (Or.inl rfl))))).trans h.t
  nn := (cell_heap (a := ⟨nb, 0, none⟩) (hk _ (Or.inr (Or.inr (Or.inr (Or.inl rfl)))))).trans h.nn
  s := h.s.keep (fun h0 => hk _ (Or.inr (Or.inr (Or.inr (Or.inr ⟨rfl, h0⟩))))) hz
  np := h.np
  nq := h.nq
  nt := h.nt
  nz := h.nz
  ns := h.ns
  nd := h.nd
theorem Env3.chg {w w' : World} {pb qb tb nb db sb so rb n cs ct : Nat} {ss : List St} (h : Env3 w pb qb tb nb db sb so rb n cs ct ss) (hc : Chg (Two db rb) w w') : Env3 w' pb qb tb nb db sb so rb n cs ct ss :=
  h.at (fun j hj => hc.block j (h.lt j hj) (by
    rintro (e | e) <;> rcases hj with rfl | rfl | rfl | rfl | ⟨rfl, _⟩
    · exact h.np.1 e
    · exact h.nq.1 e
    · exact h.nt.1 e
    · exact h.nz.1 e
    · exact h.ns.1 e
    · exact h.np.2 e
    · exact h.nq.2 e
    · exact h.nt.2 e
    · exact h.nz.2 e
    · exact h.ns.2 e)) hc.size

theorem broken1 (db : Nat) (d : Dk) (f : Fd) (v : Nat) (is : Bool) (w : World) (h : isBlk w db 75 (d.cells f)) :
    Calls Try.prog 34 #[.pointer (some ⟨db, 0, none⟩), .int .u32 v, .int .i64 1, .bool is] w fun e w' => (∃ x, e = .returned x) ∧ isBlk w' db 75 (d.cells (noted f v 1 is)) ∧ Chg (fun j => j = db) w w' := broken_any db d f v 1 is w h
theorem broken2 (db : Nat) (d : Dk) (f : Fd) (v : Nat) (is : Bool) (w : World) (h : isBlk w db 75 (d.cells f)) :
    Calls Try.prog 34 #[.pointer (some ⟨db, 0, none⟩), .int .u32 v, .int .i64 2, .bool is] w fun e w' => (∃ x, e = .returned x) ∧ isBlk w' db 75 (d.cells (noted f v 2 is)) ∧ Chg (fun j => j = db) w w' := broken_any db d f v 2 is w h
theorem broken3 (db : Nat) (d : Dk) (f : Fd) (v : Nat) (is : Bool) (w : World) (h : isBlk w db 75 (d.cells f)) :
    Calls Try.prog 34 #[.pointer (some ⟨db, 0, none⟩), .int .u32 v, .int .i64 3, .bool is] w fun e w' => (∃ x, e = .returned x) ∧ isBlk w' db 75 (d.cells (noted f v 3 is)) ∧ Chg (fun j => j = db) w w' := broken_any db d f v 3 is w h

set_option maxHeartbeats 4000000 in
theorem f49_any (pb qb tb nb db sb so rb n cs ct : Nat) (ss : List St) (d : Dk) (f : Fd) (l : List Nat) (x : Ed) (w : World)
    (hE : Env3 w pb qb tb nb db sb so rb n cs ct ss) (hn : ss.length = n) (hnl : n ≤ l.length) (hx : Valid n x)
    (hd : isBlk w db 75 (d.cells f)) (hw : Wds w rb l) :
    Calls Try.prog 49 #[.agg #[.int .u32 x.src, .int .u32 x.dst, .int .u32 x.w], .pointer (some ⟨qb, 0, none⟩), .pointer (some ⟨pb, 0, none⟩), .pointer (some ⟨tb, 0, none⟩)] w fun e w' =>
      (∃ x, e = .returned x) ∧ isBlk w' db 75 (d.cells (noted f x.dst 2 (topoBad (lab ss x.src) (lab ss x.dst)))) ∧ Wds w' rb (holdL ss x l) ∧ Chg (Two db rb) w w' := by
  obtain ⟨src, dst, x3⟩ := x
  obtain ⟨hx1, hx2⟩ := hx
  simp only [] at hx1 hx2 ⊢
  have hc1 := (Chg.refl (Two db rb) w).all (.cells #[.int .u32 src, .int .u32 dst, .int .u32 x3] 71)
  have hE1 := hE.at (w' := w.alloc (.cells #[.int .u32 src, .int .u32 dst, .int .u32 x3] 71)) (fun j hj => Below.heap_alloc _ _ _ (hE.lt j hj)) (by simp)
  have hd1 := hd.old (.cells #[.int .u32 src, .int .u32 dst, .int .u32 x3] 71)
  have hw1 := hw.all (.cells #[.int .u32 src, .int .u32 dst, .int .u32 x3] 71)
  have x0 : (w.alloc (.cells #[.int .u32 src, .int .u32 dst, .int .u32 x3] 71)).cell? ⟨w.heap.size, 0, none⟩ = some (.int .u32 src) := (isBlk.new w 71 [.int .u32 src, .int .u32 dst, .int .u32 x3]).cell 0
  have x1 : (w.alloc (.cells #[.int .u32 src, .int .u32 dst, .int .u32 x3] 71)).cell? ⟨w.heap.size, 1, none⟩ = some (.int .u32 dst) := (isBlk.new w 71 [.int .u32 src, .int .u32 dst, .int .u32 x3]).cell 1
  obtain ⟨bv, hbv⟩ : ∃ bv, topoBad (lab ss src) (lab ss dst) = bv := ⟨_, rfl⟩
  obtain ⟨hv, hhv⟩ : ∃ hv, topoHold (lab ss src) (lab ss dst) = hv := ⟨_, rfl⟩
  have hhl : holdL ss ⟨src, dst, x3⟩ l = if hv = true then l.set dst 1 else l := by unfold holdL; rw [hhv]
  obtain ⟨L2, hL2⟩ : ∃ L2, holdL ss ⟨src, dst, x3⟩ l = L2 := ⟨_, rfl⟩
  rw [hL2] at hhl ⊢
  rw [hbv]
  have HL := Lib.hid hhl
  clear hhl hL2
  go_enter Try.func49, Try.ntmps49
  go_wp2
  obtain ⟨W1, hW1⟩ : ∃ W1, w.alloc (.cells #[.int .u32 src, .int .u32 dst, .int .u32 x3] 71) = W1 := ⟨_, rfl⟩
  have hsz1 : w.heap.size < W1.heap.size := by rw [← hW1]; simp
  have hsz2 : w.heap.size ≠ db := by have := hd.lt; omega
  have hsz3 : w.heap.size ≠ rb := by have := hw.lt; omega
  rw [hW1] at hE1 hd1 hw1 hc1 x0 x1 ⊢
  clear hW1 hE hd hw
  have cp := hE1.p
  have cq := hE1.q
  have ct' := hE1.t
  have bp := World.block_lt_of_cell? W1 _ cp
  have bq := World.block_lt_of_cell? W1 _ cq
  have bt := World.block_lt_of_cell? W1 _ ct'
  simp only [] at bp bq bt
  have hsl := hE1.s.lt (by omega)
  have l0 := hE1.s.c0 src (by omega)
  have l1 := hE1.s.c0 dst (by omega)
  rw [lab_get (by omega : src < ss.length)] at l0
  rw [lab_get (by omega : dst < ss.length)] at l1
  have r2 := hw1.c dst (by omega)
  rw [getD_get (by omega)] at r2
  have g1 := hw1.f dst
  have hrl := hw1.lt
  have hnd := hE1.nd
  have hnp := hE1.np
  have hnt := hE1.nt
  have hns := hE1.ns
  have HD := Lib.hid hd1
  have HW := Lib.hid hw1
  have HC := Lib.hid hc1
  have HE := Lib.hid hE1
  clear hE1 hd1 hw1 hc1
  generalize w.heap.size = xb at *
  have hs0 : (src : Int) < n := by omega
  have hs1 : (dst : Int) < n := by omega
  have hs2 : (0 : Int) ≤ src := Int.natCast_nonneg _
  have hs3 : (0 : Int) ≤ dst := Int.natCast_nonneg _
  generalize lab ss src = u at *
  generalize lab ss dst = v at *
  generalize l.getD dst 0 = ro at *
  go_region_held3 (fun wz => ∀ b o, b < W1.heap.size → wz.cell? ⟨b, o, none⟩ = W1.cell? ⟨b, o, none⟩)
    ((intro b o hb; rfl))
    (fail)
  repeat (rename (∀ b o, b < W1.heap.size → World.cell? _ ⟨b, o, none⟩ = _) => hSS; clear hSS)
  obtain ⟨W2, hW2⟩ : ∃ W2, W1.drew = W2 := ⟨_, rfl⟩
  have hq : isBlk W2 db 75 (d.cells f) ∧ Wds W2 rb l ∧ Chg (Two db rb) w W2 ∧ (∀ b o, W2.cell? ⟨b, o, none⟩ = W1.cell? ⟨b, o, none⟩) ∧ W2.heap.size = W1.heap.size ∧ Env3 W2 pb qb tb nb db sb so rb n cs ct ss := by
    subst hW2
    exact ⟨HD.out.drawn, HW.out.drew, HC.out.dr, fun b o => rfl, rfl, HE.out.chg (Chg.refl _ _).dr⟩
  rw [hW2]
  obtain ⟨hd2, hw2, hc2, hcc2, hzz2, hE2⟩ := hq
  have y1 : W2.cell? ⟨xb, 1, none⟩ = some (.int .u32 dst) := (hcc2 _ _).trans x1
  have cp2 := hE2.p
  have ct2 := hE2.t
  have HE2 := Lib.hid hE2
  have HD2 := Lib.hid hd2
  have HW2 := Lib.hid hw2
  have HC2 := Lib.hid hc2
  have hxl : xb < W2.heap.size := by omega
  have hpn := hnp
  clear hW2 hcc2 x0 x1 cp cq ct' bp bq bt hsl l0 l1 r2 g1 hrl HD HW HC HE hzz2 hsz1 hd2 hw2 hc2 hE2
  go_upto_block 0 with fail
  go_cut [19, 28] (fun _ _ wx => ∃ _ : True, Hid (isBlk wx db 75 (d.cells (noted f dst 2 bv))) ∧ Hid (Chg (fun j => j = db) W2 wx))
  case first =>
    by_cases hu : u = 18446744073709551615
    · have hu' : ((u : Int) == 18446744073709551615) = true := by rw [beq_iff_eq]; omega
      by_cases hvv : v = 18446744073709551615
      · have hv' : ((v : Int) != 18446744073709551615) = false := by rw [bne_eq_false_iff_eq]; omega
        have HB : Hid (bv = false) := Lib.hid (by rw [← hbv]; unfold topoBad; rw [if_pos hu, hvv]; rfl)
        clear hu hvv hbv hhv
        go_wp2_with (go_at_call 34; ((with_reducible refine (broken2 db d f dst false _ HD2.out).mono ?_); rintro e w3 ⟨⟨x, rfl⟩, hd3, hc3⟩))
        go_meet
        exact ⟨trivial, by rw [HB.out]; exact Lib.hid hd3, Lib.hid hc3⟩
      · have hv' : ((v : Int) != 18446744073709551615) = true := by rw [bne_iff_ne]; omega
        have HB : Hid (bv = true) := Lib.hid (by rw [← hbv]; unfold topoBad; rw [if_pos hu, beq_eq_false_iff_ne.2 hvv]; rfl)
        clear hu hvv hbv hhv
        go_wp2_with (go_at_call 34; ((with_reducible refine (broken2 db d f dst true _ HD2.out).mono ?_); rintro e w3 ⟨⟨x, rfl⟩, hd3, hc3⟩))
        go_meet
        exact ⟨trivial, by rw [HB.out]; exact Lib.hid hd3, Lib.hid hc3⟩
    · have hu' : ((u : Int) == 18446744073709551615) = false := by rw [beq_eq_false_iff_ne]; omega
      by_cases hvv : v = 18446744073709551615
      · have hv' : ((v : Int) != 18446744073709551615) = false := by rw [bne_eq_false_iff_eq]; omega
        have HB : Hid (noted f dst 2 bv = f) := Lib.hid (by rw [← hbv]; unfold topoBad; rw [if_neg hu, hvv]; unfold noted; rw [if_neg (by simp)])
        clear hu hvv hbv hhv
        go_wp2
        go_meet
        exact ⟨trivial, by rw [HB.out]; exact HD2, Lib.hid (Chg.refl _ _)⟩
      · have hv' : ((v : Int) != 18446744073709551615) = true := by rw [bne_iff_ne]; omega
        by_cases hle : v ≤ u
        · have hle' : (v : Int) ≤ u := by omega
          have HB : Hid (bv = true) := Lib.hid (by rw [← hbv]; unfold topoBad; rw [if_neg hu, beq_eq_false_iff_ne.2 hvv, decide_eq_true hle]; rfl)
          clear hu hvv hbv hhv hle
          go_wp2_with (go_at_call 34; ((with_reducible refine (broken2 db d f dst true _ HD2.out).mono ?_); rintro e w3 ⟨⟨x, rfl⟩, hd3, hc3⟩))
          go_meet
          exact ⟨trivial, by rw [HB.out]; exact Lib.hid hd3, Lib.hid hc3⟩
        · have hle' : ¬ (v : Int) ≤ u := by omega
          have HB : Hid (bv = false) := Lib.hid (by rw [← hbv]; unfold topoBad; rw [if_neg hu, beq_eq_false_iff_ne.2 hvv, decide_eq_false hle]; rfl)
          clear hu hvv hbv hhv hle
          go_wp2_with (go_at_call 34; ((with_reducible refine (broken2 db d f dst false _ HD2.out).mono ?_); rintro e w3 ⟨⟨x, rfl⟩, hd3, hc3⟩))
          go_meet
          exact ⟨trivial, by rw [HB.out]; exact Lib.hid hd3, Lib.hid hc3⟩
  case rest =>
    obtain ⟨_, HD3, HC3⟩ := hcut
    have hz3 := HC3.out.size
    have y2 : wc.cell? ⟨xb, 1, none⟩ = some (.int .u32 dst) := (cell_heap (a := ⟨xb, 1, none⟩) (HC3.out.block _ hxl hsz2)).trans y1
    have t2 : wc.cell? ⟨tb, 0, none⟩ = some (.slice (some ⟨rb, 0, none⟩) n ct) := (cell_heap (a := ⟨tb, 0, none⟩) (HC3.out.block _ (World.block_lt_of_cell? _ _ ct2) hnt.1)).trans ct2
    have hw3 : Wds wc rb l := HW2.out.keep (HC3.out.block _ HW2.out.lt (fun e => hnd e.symm)) hz3
    have hrl := hw3.lt
    have r3 := hw3.c dst (by omega)
    rw [getD_get (by omega)] at r3
    have g3 := hw3.f dst
    have hyes : isBlk (wc.setCell ⟨rb, dst, none⟩ (.int .u64 (1 : Nat))) db 75 (d.cells (noted f dst 2 bv)) ∧ Wds (wc.setCell ⟨rb, dst, none⟩ (.int .u64 (1 : Nat))) rb (l.set dst 1) ∧ Chg (Two db rb) w (wc.setCell ⟨rb, dst, none⟩ (.int .u64 (1 : Nat))) :=
      ⟨HD3.out.other hnd, hw3.set dst 1 (by omega), (HC2.out.trans (HC3.out.mono (fun j hj => Or.inl hj))).set (p := ⟨rb, dst, none⟩) (Or.inl (Or.inr rfl)) _⟩
    have hno : isBlk wc db 75 (d.cells (noted f dst 2 bv)) ∧ Wds wc rb l ∧ Chg (Two db rb) w wc := ⟨HD3.out, hw3, HC2.out.trans (HC3.out.mono (fun j hj => Or.inl hj))⟩
    have HY := Lib.hid hyes
    have HN := Lib.hid hno
    generalize l.getD dst 0 = ro2 at *
    clear hyes hno hw3 y1 ct2 HC3 HD3 HC2 HW2 HD2 HE2 hbv cp2
    by_cases hu : u = 18446744073709551615
    · have hu' : ((u : Int) == 18446744073709551615) = true := by rw [beq_iff_eq]; omega
      by_cases hvv : v = 18446744073709551615
      · have hv' : ((v : Int) == 18446744073709551615) = true := by rw [beq_iff_eq]; omega
        have HB : Hid (hv = true) := Lib.hid (by rw [← hhv]; unfold topoHold; rw [hu, hvv]; rfl)
        clear hu hvv hhv
        go_wp2
        go_end0
        rw [HL.out, HB.out]
        exact ⟨⟨_, rfl⟩, HY.out⟩
      · have hv' : ((v : Int) == 18446744073709551615) = false := by rw [beq_eq_false_iff_ne]; omega
        have hv2 : ((v : Int) != 18446744073709551615) = true := by rw [bne_iff_ne]; omega
        by_cases h0 : v = 0
        · have h0' : ((v : Int) != 0) = false := by rw [bne_eq_false_iff_eq]; omega
          have HB : Hid (hv = false) := Lib.hid (by rw [← hhv]; unfold topoHold; rw [hu, h0]; rfl)
          clear hu hvv hhv h0
          go_wp2
          go_end0
          rw [HL.out, HB.out]
          exact ⟨⟨_, rfl⟩, HN.out⟩
        · have h0' : ((v : Int) != 0) = true := by rw [bne_iff_ne]; omega
          obtain ⟨q, hq⟩ : ∃ q, (v - 1) % 18446744073709551616 = q := ⟨_, rfl⟩
          have hvw : IntKind.u64.wrap ((v : Int) - 1) = (q : Int) := by rw [IntKind.wrap_u64]; omega
          by_cases h1 : u = q
          · have h1' : ((u : Int) == (q : Int)) = true := by rw [beq_iff_eq]; omega
            have HB : Hid (hv = true) := Lib.hid (by rw [← hhv]; unfold topoHold; rw [hq, beq_eq_false_iff_ne.2 hvv, beq_eq_false_iff_ne.2 h0, beq_iff_eq.2 h1]; simp)
            clear hu hvv hhv h0 h1 hq
            go_wp2
            go_end0
            rw [HL.out, HB.out]
            exact ⟨⟨_, rfl⟩, HY.out⟩
          · have h1' : ((u : Int) == (q : Int)) = false := by rw [beq_eq_false_iff_ne]; omega
            have HB : Hid (hv = false) := Lib.hid (by rw [← hhv]; unfold topoHold; rw [hq, beq_eq_false_iff_ne.2 hvv, beq_eq_false_iff_ne.2 h0, beq_eq_false_iff_ne.2 h1]; simp)
            clear hu hvv hhv h0 h1 hq
            go_wp2
            go_end0
            rw [HL.out, HB.out]
            exact ⟨⟨_, rfl⟩, HN.out⟩
    · have hu' : ((u : Int) == 18446744073709551615) = false := by rw [beq_eq_false_iff_ne]; omega
      by_cases hvv : v = 18446744073709551615
      · have hv2 : ((v : Int) != 18446744073709551615) = false := by rw [bne_eq_false_iff_eq]; omega
        have HB : Hid (hv = false) := Lib.hid (by rw [← hhv]; unfold topoHold; rw [beq_eq_false_iff_ne.2 hu, hvv]; rfl)
        clear hu hvv hhv
        go_wp2
        go_end0
        rw [HL.out, HB.out]
        exact ⟨⟨_, rfl⟩, HN.out⟩
      · have hv2 : ((v : Int) != 18446744073709551615) = true := by rw [bne_iff_ne]; omega
        by_cases h0 : v = 0
        · have h0' : ((v : Int) != 0) = false := by rw [bne_eq_false_iff_eq]; omega
          have HB : Hid (hv = false) := Lib.hid (by rw [← hhv]; unfold topoHold; rw [beq_eq_false_iff_ne.2 hu, h0]; rfl)
          clear hu hvv hhv h0
          go_wp2
          go_end0
          rw [HL.out, HB.out]
          exact ⟨⟨_, rfl⟩, HN.out⟩
        · have h0' : ((v : Int) != 0) = true := by rw [bne_iff_ne]; omega
          obtain ⟨q, hq⟩ : ∃ q, (v - 1) % 18446744073709551616 = q := ⟨_, rfl⟩
          have hvw : IntKind.u64.wrap ((v : Int) - 1) = (q : Int) := by rw [IntKind.wrap_u64]; omega
          by_cases h1 : u = q
          · have h1' : ((u : Int) == (q : Int)) = true := by rw [beq_iff_eq]; omega
            have HB : Hid (hv = true) := Lib.hid (by rw [← hhv]; unfold topoHold; rw [hq, beq_eq_false_iff_ne.2 hvv, beq_eq_false_iff_ne.2 h0, beq_iff_eq.2 h1]; simp)
            clear hu hvv hhv h0 h1 hq
            go_wp2
            go_end0
            rw [HL.out, HB.out]
            exact ⟨⟨_, rfl⟩, HY.out⟩
          · have h1' : ((u : Int) == (q : Int)) = false := by rw [beq_eq_false_iff_ne]; omega
            have HB : Hid (hv = false) := Lib.hid (by rw [← hhv]; unfold topoHold; rw [hq, beq_eq_false_iff_ne.2 hvv, beq_eq_false_iff_ne.2 h0, beq_eq_false_iff_ne.2 h1]; simp)
            clear hu hvv hhv h0 h1 hq
            go_wp2
            go_end0
            rw [HL.out, HB.out]
            exact ⟨⟨_, rfl⟩, HN.out⟩

end Go.Proofs.Ytohmeobfiomfdaa
