/-
  The closure of an audit of levels that goes over the vertices.
-/
import Derived.Test.YtohmeobfiomfdaaTopo1
import Derived.Test.YtohmeobfiomfdaaHeld
namespace Go.Proofs.Ytohmeobfiomfdaa
open Go.RowKit Go.Shelf
set_option maxRecDepth 100000
set_option linter.unusedSimpArgs false

/-- Is a level out of range? -/
def topoTop (n u : Nat) : Bool := decide (n ≤ u) && !(u == 18446744073709551615)
/-- Is a level not held up by one below? -/
def topoLost (u v : Nat) : Bool := !(u == 0) && v == 0

set_option maxHeartbeats 4000000 in
theorem f50_any (pb qb tb nb db sb so rb n cs ct : Nat) (ss : List St) (d : Dk) (f : Fd) (l : List Nat) (k : Nat) (s : St) (w : World)
    (hE : Env3 w pb qb tb nb db sb so rb n cs ct ss) (hnl : n ≤ l.length) (hk : k < n) (hl1 : l.length ≤ 5000)
    (hd : isBlk w db 75 (d.cells f)) (hw : Wds w rb l) :
    Calls Try.prog 50 #[.int .u32 k, s.val, .pointer (some ⟨pb, 0, none⟩), .pointer (some ⟨nb, 0, none⟩), .pointer (some ⟨tb, 0, none⟩)] w fun e w' =>
      (∃ x, e = .returned x) ∧ isBlk w' db 75 (d.cells (noted (noted f k 1 (topoTop n s.a0)) k 3 (topoLost s.a0 (l.getD k 0)))) ∧ Chg (fun j => j = db) w w' := by
  obtain ⟨l0, s1, s2, s3, s4, s5, s6, s7⟩ := s
  unfold St.val
  simp only []
  have hE1 := hE.at (w' := w.alloc (.cells #[.int .u64 l0, .int .u64 s1, .int .u64 s2, .int .u64 s3, .int .u64 s4, .int .u64 s5, .int .u64 s6, .int .u64 s7] 56)) (fun j hj => Below.heap_alloc _ _ _ (hE.lt j hj)) (by simp)
  have hd1 := hd.old (.cells #[.int .u64 l0, .int .u64 s1, .int .u64 s2, .int .u64 s3, .int .u64 s4, .int .u64 s5, .int .u64 s6, .int .u64 s7] 56)
  have hw1 := hw.all (.cells #[.int .u64 l0, .int .u64 s1, .int .u64 s2, .int .u64 s3, .int .u64 s4, .int .u64 s5, .int .u64 s6, .int .u64 s7] 56)
  have hc1 := (Chg.refl (fun j => j = db) w).all (.cells #[.int .u64 l0, .int .u64 s1, .int .u64 s2, .int .u64 s3, .int .u64 s4, .int .u64 s5, .int .u64 s6, .int .u64 s7] 56)
  have x0 : (w.alloc (.cells #[.int .u64 l0, .int .u64 s1, .int .u64 s2, .int .u64 s3, .int .u64 s4, .int .u64 s5, .int .u64 s6, .int .u64 s7] 56)).cell? ⟨w.heap.size, 0, none⟩ = some (.int .u64 l0) := (isBlk.new w 56 [.int .u64 l0, .int .u64 s1, .int .u64 s2, .int .u64 s3, .int .u64 s4, .int .u64 s5, .int .u64 s6, .int .u64 s7]).cell 0
  obtain ⟨b1, hb1⟩ : ∃ b, topoTop n l0 = b := ⟨_, rfl⟩
  obtain ⟨b3, hb3⟩ : ∃ b, topoLost l0 (l.getD k 0) = b := ⟨_, rfl⟩
  rw [hb1, hb3]
  go_enter Try.func50, Try.ntmps50
  go_upto_region 1 with fail
  obtain ⟨W1, hW1⟩ : ∃ W1, w.alloc (.cells #[.int .u64 l0, .int .u64 s1, .int .u64 s2, .int .u64 s3, .int .u64 s4, .int .u64 s5, .int .u64 s6, .int .u64 s7] 56) = W1 := ⟨_, rfl⟩
  have hsz1 : w.heap.size < W1.heap.size := by rw [← hW1]; simp
  have hsz2 : w.heap.size ≠ db := by have := hd.lt; omega
  rw [hW1] at hE1 hd1 hw1 hc1 x0 ⊢
  clear hW1 hE hd hw
  have cp := hE1.p
  have ct' := hE1.t
  have cn := hE1.nn
  have bp := World.block_lt_of_cell? W1 _ cp
  have bt := World.block_lt_of_cell? W1 _ ct'
  have bn := World.block_lt_of_cell? W1 _ cn
  simp only [] at bp bt bn
  have hnp := hE1.np.1
  have hnt := hE1.nt.1
  have hnn := hE1.nz.1
  have hnr : rb ≠ db := fun e => hE1.nd e.symm
  have r1 := hw1.c k (by omega)
  rw [getD_get (by omega)] at r1
  have hrl := hw1.lt
  have HC := Lib.hid hc1
  have HD := Lib.hid hd1
  have hki : (k : Int) < n := by omega
  have hki0 : (0 : Int) ≤ k := Int.natCast_nonneg _
  have hnw : IntKind.u64.wrap (n : Int) = (n : Int) := by rw [IntKind.wrap_u64]; omega
  unfold topoTop at hb1
  unfold topoLost at hb3
  clear hE1 hd1 hw1 hc1
  generalize l.getD k 0 = v1 at *
  generalize w.heap.size = xb at *
  by_cases h0 : l0 = 0
  · have h0' : ((l0 : Int) != 0) = false := by rw [bne_eq_false_iff_eq]; omega
    have hge : ¬ (n : Int) ≤ l0 := by omega
    have e1 : b1 = false := by rw [← hb1, decide_eq_false (by omega)]; rfl
    have e3 : b3 = false := by rw [← hb3, h0]; rfl
    subst e1
    subst e3
    clear hb1 hb3
    go_wp2_with (go_at_call 34; ((with_reducible refine (broken1 db d f k false _ HD.out).mono ?_); rintro e w3 ⟨⟨x, rfl⟩, hd3, hc3⟩))
    have hz3 := hc3.size
    have c3 : ∀ b o, b ≠ db → b < W1.heap.size → w3.cell? ⟨b, o, none⟩ = W1.cell? ⟨b, o, none⟩ := fun b o hne hb => cell_heap (a := ⟨b, o, none⟩) (hc3.block b hb hne)
    have y0 := (c3 xb 0 hsz2 hsz1).trans x0
    have yp := (c3 pb 0 hnp bp).trans cp
    have yt := (c3 tb 0 hnt bt).trans ct'
    have yr := (c3 rb k hnr hrl).trans r1
    have zx : xb < w3.heap.size := by omega
    have zp : pb < w3.heap.size := by omega
    have zt : tb < w3.heap.size := by omega
    have zr : rb < w3.heap.size := by omega
    have HD3 := Lib.hid hd3
    have HC3 := Lib.hid (HC.out.trans hc3)
    clear c3 hd3 hc3 HD HC x0 cp ct' r1 cn bp bt bn hrl hsz1 hz3
    refine wp_region_held_drew (S := fun wz => ∀ b o, b ≠ db → b < w3.heap.size → wz.cell? ⟨b, o, none⟩ = w3.cell? ⟨b, o, none⟩) (by kernel_rfl) (fun b o _ _ => rfl) (fun hHeld => ?_)
    refine wpAnyH_take (i := 0) (oi := { dst := some 20, op := Op.load 58 (Operand.tmp 2), type := 58, pos := "apart.go:145", after := #[], guard := none }) (v := ?hdv1) rfl (by kernel_rfl) (by kernel_rfl) (by kernel_rfl) (fun _ _ _ h => h) (Or.inl ⟨by rfl, ?hdy1⟩) (by assumption) ?hdr1
    case hdy1 => (intro w hSw; (try dsimp only at hSw); go_simp; (try with_reducible rfl))
    try simp only [Act.put, List.setIfInBounds_toArray, List.set_cons_zero, List.set_cons_succ]
    refine wpAnyH_take (i := 1) (oi := { dst := some 21, op := Op.move (Operand.tmp 0), type := 22, pos := "apart.go:145", after := #[], guard := none }) (v := ?hdv2) rfl (by kernel_rfl) (by kernel_rfl) (by kernel_rfl) (fun _ _ _ h => h) (Or.inl ⟨by rfl, ?hdy2⟩) (by assumption) ?hdr2
    case hdy2 => (intro w hSw; (try dsimp only at hSw); go_simp; (try with_reducible rfl))
    try simp only [Act.put, List.setIfInBounds_toArray, List.set_cons_zero, List.set_cons_succ]
    refine wpAnyH_take (i := 2) (oi := { dst := some 22, op := Op.indexAddr 56 (Operand.tmp 6) (Operand.const (Value.int IntKind.i64 0)), type := 0, pos := "apart.go:145", after := #[], guard := none }) (v := ?hdv3) rfl (by kernel_rfl) (by kernel_rfl) (by kernel_rfl) (fun _ _ _ h => h) (Or.inl ⟨by rfl, ?hdy3⟩) (by assumption) ?hdr3
    case hdy3 => (intro w hSw; (try dsimp only at hSw); go_simp; (try with_reducible rfl))
    try simp only [Act.put, List.setIfInBounds_toArray, List.set_cons_zero, List.set_cons_succ]
    refine wpAnyH_take (i := 3) (oi := { dst := some 23, op := Op.load 28 (Operand.tmp 22), type := 28, pos := "apart.go:145", after := #[{ on := 2, ground := Ground.data }], guard := none }) (v := ?hdv4) rfl (by kernel_rfl) (by kernel_rfl) (by kernel_rfl) (fun _ _ _ h => h) (Or.inl ⟨by rfl, ?hdy4⟩) (by assumption) ?hdr4
    case hdy4 => (intro w hSw; (try dsimp only at hSw); go_simp; (try with_reducible rfl))
    try simp only [Act.put, List.setIfInBounds_toArray, List.set_cons_zero, List.set_cons_succ]
    refine wpAnyH_take (i := 4) (oi := { dst := some 24, op := Op.binOp BinOp.neq 28 (Operand.tmp 23) (Operand.const (Value.int IntKind.u64 0)) 28, type := 4, pos := "apart.go:145", after := #[{ on := 3, ground := Ground.data }], guard := none }) (v := ?hdv5) rfl (by kernel_rfl) (by kernel_rfl) (by kernel_rfl) (fun _ _ _ h => h) (Or.inl ⟨by rfl, ?hdy5⟩) (by assumption) ?hdr5
    case hdy5 => (intro w hSw; (try dsimp only at hSw); go_simp; (try with_reducible rfl))
    try simp only [Act.put, List.setIfInBounds_toArray, List.set_cons_zero, List.set_cons_succ]
    refine wpAnyH_take (i := 5) (oi := { dst := some 25, op := Op.move (Operand.tmp 24), type := 4, pos := "apart.go:145", after := #[{ on := 4, ground := Ground.data }], guard := none }) (v := ?hdv6) rfl (by kernel_rfl) (by kernel_rfl) (by kernel_rfl) (fun _ _ _ h => h) (Or.inl ⟨by rfl, ?hdy6⟩) (by assumption) ?hdr6
    case hdy6 => (intro w hSw; (try dsimp only at hSw); go_simp; (try with_reducible rfl))
    try simp only [Act.put, List.setIfInBounds_toArray, List.set_cons_zero, List.set_cons_succ]
    refine wpAnyH_take (i := 6) (oi := { dst := some 26, op := Op.load 32 (Operand.tmp 4), type := 32, pos := "apart.go:145", after := #[{ on := 5, ground := Ground.guard }], guard := some (5, true) }) (v := undef) rfl (by kernel_rfl) (by kernel_rfl) (by kernel_rfl) (fun _ _ _ h => h) (Or.inr ⟨by rfl, rfl⟩) (by assumption) ?_
    try simp only [Act.put, List.setIfInBounds_toArray, List.set_cons_zero, List.set_cons_succ]
    refine wpAnyH_take (i := 7) (oi := { dst := some 27, op := Op.move (Operand.tmp 0), type := 22, pos := "apart.go:145", after := #[{ on := 5, ground := Ground.guard }], guard := some (5, true) }) (v := undef) rfl (by kernel_rfl) (by kernel_rfl) (by kernel_rfl) (fun _ _ _ h => h) (Or.inr ⟨by rfl, rfl⟩) (by assumption) ?_
    try simp only [Act.put, List.setIfInBounds_toArray, List.set_cons_zero, List.set_cons_succ]
    refine wpAnyH_take (i := 8) (oi := { dst := some 28, op := Op.indexAddr 32 (Operand.tmp 26) (Operand.tmp 27), type := 0, pos := "apart.go:145", after := #[{ on := 6, ground := Ground.data }, { on := 7, ground := Ground.data }, { on := 5, ground := Ground.guard }], guard := some (5, true) }) (v := undef) rfl (by kernel_rfl) (by kernel_rfl) (by kernel_rfl) (fun _ _ _ h => h) (Or.inr ⟨by rfl, rfl⟩) (by assumption) ?_
    try simp only [Act.put, List.setIfInBounds_toArray, List.set_cons_zero, List.set_cons_succ]
    refine wpAnyH_take (i := 9) (oi := { dst := some 29, op := Op.load 28 (Operand.tmp 28), type := 28, pos := "apart.go:145", after := #[{ on := 8, ground := Ground.data }, { on := 5, ground := Ground.guard }], guard := some (5, true) }) (v := undef) rfl (by kernel_rfl) (by kernel_rfl) (by kernel_rfl) (fun _ _ _ h => h) (Or.inr ⟨by rfl, rfl⟩) (by assumption) ?_
    try simp only [Act.put, List.setIfInBounds_toArray, List.set_cons_zero, List.set_cons_succ]
    refine wpAnyH_take (i := 10) (oi := { dst := some 30, op := Op.binOp BinOp.eql 28 (Operand.tmp 29) (Operand.const (Value.int IntKind.u64 0)) 28, type := 4, pos := "apart.go:145", after := #[{ on := 9, ground := Ground.data }, { on := 5, ground := Ground.guard }], guard := some (5, true) }) (v := undef) rfl (by kernel_rfl) (by kernel_rfl) (by kernel_rfl) (fun _ _ _ h => h) (Or.inr ⟨by rfl, rfl⟩) (by assumption) ?_
    try simp only [Act.put, List.setIfInBounds_toArray, List.set_cons_zero, List.set_cons_succ]
    refine wpAnyH_take (i := 11) (oi := { dst := some 31, op := Op.pick (Operand.tmp 25) (Operand.tmp 30) (Operand.const (Value.bool false)), type := 4, pos := "apart.go:145", after := #[{ on := 5, ground := Ground.data }, { on := 10, ground := Ground.data }], guard := none }) (v := ?hdv12) rfl (by kernel_rfl) (by kernel_rfl) (by kernel_rfl) (fun _ _ _ h => h) (Or.inl ⟨by rfl, ?hdy12⟩) (by assumption) ?hdr12
    case hdy12 => (intro w hSw; (try dsimp only at hSw); go_simp; (try with_reducible rfl))
    try simp only [Act.put, List.setIfInBounds_toArray, List.set_cons_zero, List.set_cons_succ]
    refine wpAnyH_ready (rs := [12]) (by kernel_rfl) (by simp) ?_
    refine AllReadyH.cons (o := { dst := some 32, op := Op.call { callee := Callee.value (Operand.func 34), args := #[Operand.tmp 20, Operand.tmp 21, Operand.const (Value.int IntKind.i64 3), Operand.tmp 31], argTypes := #[58, 22, 3, 4] }, type := 0, pos := "apart.go:145", after := #[{ on := 0, ground := Ground.data }, { on := 1, ground := Ground.data }, { on := 11, ground := Ground.data }, { on := 5, ground := Ground.chain }], guard := none }) rfl (fun K hK => ?_) AllReadyH.nil
    go_simp
    ((with_reducible refine Calls.mono (broken3 db d (noted f k 1 false) k false _ HD3.out.drawn) ?_); rintro e w2 ⟨⟨x, rfl⟩, hdd, hcc⟩; (try go_wp2_with fail))
    refine Shut.out hK _ _ ?_ (fun hHeldN => ?_)
    · (exact fun b o hne hb => cell_heap (w := World.drew w3) (a := ⟨b, o, none⟩) (hcc.block b hb hne))
    ((try clear hK K); (try clear hHeld))
    try simp only [Act.put, List.setIfInBounds_toArray, List.set_cons_zero, List.set_cons_succ]
    clear hHeldN
    refine wpAnyH_done (by kernel_rfl) ?_ _
    go_wp2
    go_end0
    exact ⟨⟨_, rfl⟩, hdd, HC3.out.trans ⟨hcc.os, hcc.tape, hcc.output, hcc.size, hcc.block⟩⟩
  · by_cases hge : n ≤ l0
    · have hge' : (n : Int) ≤ l0 := by omega
      by_cases hN : l0 = 18446744073709551615
      · have hN' : ((l0 : Int) != 18446744073709551615) = false := by rw [bne_eq_false_iff_eq]; omega
        have e1 : b1 = false := by rw [← hb1, hN]; exact Bool.and_false _
        subst e1
        clear hb1
        have h0' : ((l0 : Int) != 0) = true := by rw [bne_iff_ne]; omega
        by_cases hv : v1 = 0
        · have hv' : ((v1 : Int) == 0) = true := by rw [beq_iff_eq]; omega
          have e3 : b3 = true := by rw [← hb3, beq_eq_false_iff_ne.2 h0, hv]; rfl
          subst e3
          clear hb3
          go_wp2_with (go_at_call 34; ((with_reducible refine (broken1 db d f k false _ HD.out).mono ?_); rintro e w3 ⟨⟨x, rfl⟩, hd3, hc3⟩))
          have hz3 := hc3.size
          have c3 : ∀ b o, b ≠ db → b < W1.heap.size → w3.cell? ⟨b, o, none⟩ = W1.cell? ⟨b, o, none⟩ := fun b o hne hb => cell_heap (a := ⟨b, o, none⟩) (hc3.block b hb hne)
          have y0 := (c3 xb 0 hsz2 hsz1).trans x0
          have yp := (c3 pb 0 hnp bp).trans cp
          have yt := (c3 tb 0 hnt bt).trans ct'
          have yr := (c3 rb k hnr hrl).trans r1
          have zx : xb < w3.heap.size := by omega
          have zp : pb < w3.heap.size := by omega
          have zt : tb < w3.heap.size := by omega
          have zr : rb < w3.heap.size := by omega
          have HD3 := Lib.hid hd3
          have HC3 := Lib.hid (HC.out.trans hc3)
          clear c3 hd3 hc3 HD HC x0 cp ct' r1 cn bp bt bn hrl hsz1 hz3
          refine wp_region_held_drew (S := fun wz => ∀ b o, b ≠ db → b < w3.heap.size → wz.cell? ⟨b, o, none⟩ = w3.cell? ⟨b, o, none⟩) (by kernel_rfl) (fun b o _ _ => rfl) (fun hHeld => ?_)
          refine wpAnyH_take (i := 0) (oi := { dst := some 20, op := Op.load 58 (Operand.tmp 2), type := 58, pos := "apart.go:145", after := #[], guard := none }) (v := ?hdv13) rfl (by kernel_rfl) (by kernel_rfl) (by kernel_rfl) (fun _ _ _ h => h) (Or.inl ⟨by rfl, ?hdy13⟩) (by assumption) ?hdr13
          case hdy13 => (intro w hSw; (try dsimp only at hSw); go_simp; (try with_reducible rfl))
          try simp only [Act.put, List.setIfInBounds_toArray, List.set_cons_zero, List.set_cons_succ]
          refine wpAnyH_take (i := 1) (oi := { dst := some 21, op := Op.move (Operand.tmp 0), type := 22, pos := "apart.go:145", after := #[], guard := none }) (v := ?hdv14) rfl (by kernel_rfl) (by kernel_rfl) (by kernel_rfl) (fun _ _ _ h => h) (Or.inl ⟨by rfl, ?hdy14⟩) (by assumption) ?hdr14
          case hdy14 => (intro w hSw; (try dsimp only at hSw); go_simp; (try with_reducible rfl))
          try simp only [Act.put, List.setIfInBounds_toArray, List.set_cons_zero, List.set_cons_succ]
          refine wpAnyH_take (i := 2) (oi := { dst := some 22, op := Op.indexAddr 56 (Operand.tmp 6) (Operand.const (Value.int IntKind.i64 0)), type := 0, pos := "apart.go:145", after := #[], guard := none }) (v := ?hdv15) rfl (by kernel_rfl) (by kernel_rfl) (by kernel_rfl) (fun _ _ _ h => h) (Or.inl ⟨by rfl, ?hdy15⟩) (by assumption) ?hdr15
          case hdy15 => (intro w hSw; (try dsimp only at hSw); go_simp; (try with_reducible rfl))
          try simp only [Act.put, List.setIfInBounds_toArray, List.set_cons_zero, List.set_cons_succ]
          refine wpAnyH_take (i := 3) (oi := { dst := some 23, op := Op.load 28 (Operand.tmp 22), type := 28, pos := "apart.go:145", after := #[{ on := 2, ground := Ground.data }], guard := none }) (v := ?hdv16) rfl (by kernel_rfl) (by kernel_rfl) (by kernel_rfl) (fun _ _ _ h => h) (Or.inl ⟨by rfl, ?hdy16⟩) (by assumption) ?hdr16
          case hdy16 => (intro w hSw; (try dsimp only at hSw); go_simp; (try with_reducible rfl))
          try simp only [Act.put, List.setIfInBounds_toArray, List.set_cons_zero, List.set_cons_succ]
          refine wpAnyH_take (i := 4) (oi := { dst := some 24, op := Op.binOp BinOp.neq 28 (Operand.tmp 23) (Operand.const (Value.int IntKind.u64 0)) 28, type := 4, pos := "apart.go:145", after := #[{ on := 3, ground := Ground.data }], guard := none }) (v := ?hdv17) rfl (by kernel_rfl) (by kernel_rfl) (by kernel_rfl) (fun _ _ _ h => h) (Or.inl ⟨by rfl, ?hdy17⟩) (by assumption) ?hdr17
          case hdy17 => (intro w hSw; (try dsimp only at hSw); go_simp; (try with_reducible rfl))
          try simp only [Act.put, List.setIfInBounds_toArray, List.set_cons_zero, List.set_cons_succ]
          refine wpAnyH_take (i := 5) (oi := { dst := some 25, op := Op.move (Operand.tmp 24), type := 4, pos := "apart.go:145", after := #[{ on := 4, ground := Ground.data }], guard := none }) (v := ?hdv18) rfl (by kernel_rfl) (by kernel_rfl) (by kernel_rfl) (fun _ _ _ h => h) (Or.inl ⟨by rfl, ?hdy18⟩) (by assumption) ?hdr18
          case hdy18 => (intro w hSw; (try dsimp only at hSw); go_simp; (try with_reducible rfl))
          try simp only [Act.put, List.setIfInBounds_toArray, List.set_cons_zero, List.set_cons_succ]
          refine wpAnyH_take (i := 6) (oi := { dst := some 26, op := Op.load 32 (Operand.tmp 4), type := 32, pos := "apart.go:145", after := #[{ on := 5, ground := Ground.guard }], guard := some (5, true) }) (v := ?hdv19) rfl (by kernel_rfl) (by kernel_rfl) (by kernel_rfl) (fun _ _ _ h => h) (Or.inl ⟨by rfl, ?hdy19⟩) (by assumption) ?hdr19
          case hdy19 => (intro w hSw; (try dsimp only at hSw); go_simp; (try with_reducible rfl))
          try simp only [Act.put, List.setIfInBounds_toArray, List.set_cons_zero, List.set_cons_succ]
          refine wpAnyH_take (i := 7) (oi := { dst := some 27, op := Op.move (Operand.tmp 0), type := 22, pos := "apart.go:145", after := #[{ on := 5, ground := Ground.guard }], guard := some (5, true) }) (v := ?hdv20) rfl (by kernel_rfl) (by kernel_rfl) (by kernel_rfl) (fun _ _ _ h => h) (Or.inl ⟨by rfl, ?hdy20⟩) (by assumption) ?hdr20
          case hdy20 => (intro w hSw; (try dsimp only at hSw); go_simp; (try with_reducible rfl))
          try simp only [Act.put, List.setIfInBounds_toArray, List.set_cons_zero, List.set_cons_succ]
          refine wpAnyH_take (i := 8) (oi := { dst := some 28, op := Op.indexAddr 32 (Operand.tmp 26) (Operand.tmp 27), type := 0, pos := "apart.go:145", after := #[{ on := 6, ground := Ground.data }, { on := 7, ground := Ground.data }, { on := 5, ground := Ground.guard }], guard := some (5, true) }) (v := ?hdv21) rfl (by kernel_rfl) (by kernel_rfl) (by kernel_rfl) (fun _ _ _ h => h) (Or.inl ⟨by rfl, ?hdy21⟩) (by assumption) ?hdr21
          case hdy21 => (intro w hSw; (try dsimp only at hSw); go_simp; (try with_reducible rfl))
          try simp only [Act.put, List.setIfInBounds_toArray, List.set_cons_zero, List.set_cons_succ]
          refine wpAnyH_take (i := 9) (oi := { dst := some 29, op := Op.load 28 (Operand.tmp 28), type := 28, pos := "apart.go:145", after := #[{ on := 8, ground := Ground.data }, { on := 5, ground := Ground.guard }], guard := some (5, true) }) (v := ?hdv22) rfl (by kernel_rfl) (by kernel_rfl) (by kernel_rfl) (fun _ _ _ h => h) (Or.inl ⟨by rfl, ?hdy22⟩) (by assumption) ?hdr22
          case hdy22 => (intro w hSw; (try dsimp only at hSw); go_simp; (try with_reducible rfl))
          try simp only [Act.put, List.setIfInBounds_toArray, List.set_cons_zero, List.set_cons_succ]
          refine wpAnyH_take (i := 10) (oi := { dst := some 30, op := Op.binOp BinOp.eql 28 (Operand.tmp 29) (Operand.const (Value.int IntKind.u64 0)) 28, type := 4, pos := "apart.go:145", after := #[{ on := 9, ground := Ground.data }, { on := 5, ground := Ground.guard }], guard := some (5, true) }) (v := ?hdv23) rfl (by kernel_rfl) (by kernel_rfl) (by kernel_rfl) (fun _ _ _ h => h) (Or.inl ⟨by rfl, ?hdy23⟩) (by assumption) ?hdr23
          case hdy23 => (intro w hSw; (try dsimp only at hSw); go_simp; (try with_reducible rfl))
          try simp only [Act.put, List.setIfInBounds_toArray, List.set_cons_zero, List.set_cons_succ]
          refine wpAnyH_take (i := 11) (oi := { dst := some 31, op := Op.pick (Operand.tmp 25) (Operand.tmp 30) (Operand.const (Value.bool false)), type := 4, pos := "apart.go:145", after := #[{ on := 5, ground := Ground.data }, { on := 10, ground := Ground.data }], guard := none }) (v := ?hdv24) rfl (by kernel_rfl) (by kernel_rfl) (by kernel_rfl) (fun _ _ _ h => h) (Or.inl ⟨by rfl, ?hdy24⟩) (by assumption) ?hdr24
          case hdy24 => (intro w hSw; (try dsimp only at hSw); go_simp; (try with_reducible rfl))
          try simp only [Act.put, List.setIfInBounds_toArray, List.set_cons_zero, List.set_cons_succ]
          refine wpAnyH_ready (rs := [12]) (by kernel_rfl) (by simp) ?_
          refine AllReadyH.cons (o := { dst := some 32, op := Op.call { callee := Callee.value (Operand.func 34), args := #[Operand.tmp 20, Operand.tmp 21, Operand.const (Value.int IntKind.i64 3), Operand.tmp 31], argTypes := #[58, 22, 3, 4] }, type := 0, pos := "apart.go:145", after := #[{ on := 0, ground := Ground.data }, { on := 1, ground := Ground.data }, { on := 11, ground := Ground.data }, { on := 5, ground := Ground.chain }], guard := none }) rfl (fun K hK => ?_) AllReadyH.nil
          go_simp
          ((with_reducible refine Calls.mono (broken3 db d (noted f k 1 false) k true _ HD3.out.drawn) ?_); rintro e w2 ⟨⟨x, rfl⟩, hdd, hcc⟩; (try go_wp2_with fail))
          refine Shut.out hK _ _ ?_ (fun hHeldN => ?_)
          · (exact fun b o hne hb => cell_heap (w := World.drew w3) (a := ⟨b, o, none⟩) (hcc.block b hb hne))
          ((try clear hK K); (try clear hHeld))
          try simp only [Act.put, List.setIfInBounds_toArray, List.set_cons_zero, List.set_cons_succ]
          clear hHeldN
          refine wpAnyH_done (by kernel_rfl) ?_ _
          go_wp2
          go_end0
          exact ⟨⟨_, rfl⟩, hdd, HC3.out.trans ⟨hcc.os, hcc.tape, hcc.output, hcc.size, hcc.block⟩⟩
        · have hv' : ((v1 : Int) == 0) = false := by rw [beq_eq_false_iff_ne]; omega
          have e3 : b3 = false := by rw [← hb3, beq_eq_false_iff_ne.2 hv]; exact Bool.and_false _
          subst e3
          clear hb3
          go_wp2_with (go_at_call 34; ((with_reducible refine (broken1 db d f k false _ HD.out).mono ?_); rintro e w3 ⟨⟨x, rfl⟩, hd3, hc3⟩))
          have hz3 := hc3.size
          have c3 : ∀ b o, b ≠ db → b < W1.heap.size → w3.cell? ⟨b, o, none⟩ = W1.cell? ⟨b, o, none⟩ := fun b o hne hb => cell_heap (a := ⟨b, o, none⟩) (hc3.block b hb hne)
          have y0 := (c3 xb 0 hsz2 hsz1).trans x0
          have yp := (c3 pb 0 hnp bp).trans cp
          have yt := (c3 tb 0 hnt bt).trans ct'
          have yr := (c3 rb k hnr hrl).trans r1
          have zx : xb < w3.heap.size := by omega
          have zp : pb < w3.heap.size := by omega
          have zt : tb < w3.heap.size := by omega
          have zr : rb < w3.heap.size := by omega
          have HD3 := Lib.hid hd3
          have HC3 := Lib.hid (HC.out.trans hc3)
          clear c3 hd3 hc3 HD HC x0 cp ct' r1 cn bp bt bn hrl hsz1 hz3
          refine wp_region_held_drew (S := fun wz => ∀ b o, b ≠ db → b < w3.heap.size → wz.cell? ⟨b, o, none⟩ = w3.cell? ⟨b, o, none⟩) (by kernel_rfl) (fun b o _ _ => rfl) (fun hHeld => ?_)
          refine wpAnyH_take (i := 0) (oi := { dst := some 20, op := Op.load 58 (Operand.tmp 2), type := 58, pos := "apart.go:145", after := #[], guard := none }) (v := ?hdv25) rfl (by kernel_rfl) (by kernel_rfl) (by kernel_rfl) (fun _ _ _ h => h) (Or.inl ⟨by rfl, ?hdy25⟩) (by assumption) ?hdr25
          case hdy25 => (intro w hSw; (try dsimp only at hSw); go_simp; (try with_reducible rfl))
          try simp only [Act.put, List.setIfInBounds_toArray, List.set_cons_zero, List.set_cons_succ]
          refine wpAnyH_take (i := 1) (oi := { dst := some 21, op := Op.move (Operand.tmp 0), type := 22, pos := "apart.go:145", after := #[], guard := none }) (v := ?hdv26) rfl (by kernel_rfl) (by kernel_rfl) (by kernel_rfl) (fun _ _ _ h => h) (Or.inl ⟨by rfl, ?hdy26⟩) (by assumption) ?hdr26
          case hdy26 => (intro w hSw; (try dsimp only at hSw); go_simp; (try with_reducible rfl))
          try simp only [Act.put, List.setIfInBounds_toArray, List.set_cons_zero, List.set_cons_succ]
          refine wpAnyH_take (i := 2) (oi := { dst := some 22, op := Op.indexAddr 56 (Operand.tmp 6) (Operand.const (Value.int IntKind.i64 0)), type := 0, pos := "apart.go:145", after := #[], guard := none }) (v := ?hdv27) rfl (by kernel_rfl) (by kernel_rfl) (by kernel_rfl) (fun _ _ _ h => h) (Or.inl ⟨by rfl, ?hdy27⟩) (by assumption) ?hdr27
          case hdy27 => (intro w hSw; (try dsimp only at hSw); go_simp; (try with_reducible rfl))
          try simp only [Act.put, List.setIfInBounds_toArray, List.set_cons_zero, List.set_cons_succ]
          refine wpAnyH_take (i := 3) (oi := { dst := some 23, op := Op.load 28 (Operand.tmp 22), type := 28, pos := "apart.go:145", after := #[{ on := 2, ground := Ground.data }], guard := none }) (v := ?hdv28) rfl (by kernel_rfl) (by kernel_rfl) (by kernel_rfl) (fun _ _ _ h => h) (Or.inl ⟨by rfl, ?hdy28⟩) (by assumption) ?hdr28
          case hdy28 => (intro w hSw; (try dsimp only at hSw); go_simp; (try with_reducible rfl))
          try simp only [Act.put, List.setIfInBounds_toArray, List.set_cons_zero, List.set_cons_succ]
          refine wpAnyH_take (i := 4) (oi := { dst := some 24, op := Op.binOp BinOp.neq 28 (Operand.tmp 23) (Operand.const (Value.int IntKind.u64 0)) 28, type := 4, pos := "apart.go:145", after := #[{ on := 3, ground := Ground.data }], guard := none }) (v := ?hdv29) rfl (by kernel_rfl) (by kernel_rfl) (by kernel_rfl) (fun _ _ _ h => h) (Or.inl ⟨by rfl, ?hdy29⟩) (by assumption) ?hdr29
          case hdy29 => (intro w hSw; (try dsimp only at hSw); go_simp; (try with_reducible rfl))
          try simp only [Act.put, List.setIfInBounds_toArray, List.set_cons_zero, List.set_cons_succ]
          refine wpAnyH_take (i := 5) (oi := { dst := some 25, op := Op.move (Operand.tmp 24), type := 4, pos := "apart.go:145", after := #[{ on := 4, ground := Ground.data }], guard := none }) (v := ?hdv30) rfl (by kernel_rfl) (by kernel_rfl) (by kernel_rfl) (fun _ _ _ h => h) (Or.inl ⟨by rfl, ?hdy30⟩) (by assumption) ?hdr30
          case hdy30 => (intro w hSw; (try dsimp only at hSw); go_simp; (try with_reducible rfl))
          try simp only [Act.put, List.setIfInBounds_toArray, List.set_cons_zero, List.set_cons_succ]
          refine wpAnyH_take (i := 6) (oi := { dst := some 26, op := Op.load 32 (Operand.tmp 4), type := 32, pos := "apart.go:145", after := #[{ on := 5, ground := Ground.guard }], guard := some (5, true) }) (v := ?hdv31) rfl (by kernel_rfl) (by kernel_rfl) (by kernel_rfl) (fun _ _ _ h => h) (Or.inl ⟨by rfl, ?hdy31⟩) (by assumption) ?hdr31
          case hdy31 => (intro w hSw; (try dsimp only at hSw); go_simp; (try with_reducible rfl))
          try simp only [Act.put, List.setIfInBounds_toArray, List.set_cons_zero, List.set_cons_succ]
          refine wpAnyH_take (i := 7) (oi := { dst := some 27, op := Op.move (Operand.tmp 0), type := 22, pos := "apart.go:145", after := #[{ on := 5, ground := Ground.guard }], guard := some (5, true) }) (v := ?hdv32) rfl (by kernel_rfl) (by kernel_rfl) (by kernel_rfl) (fun _ _ _ h => h) (Or.inl ⟨by rfl, ?hdy32⟩) (by assumption) ?hdr32
          case hdy32 => (intro w hSw; (try dsimp only at hSw); go_simp; (try with_reducible rfl))
          try simp only [Act.put, List.setIfInBounds_toArray, List.set_cons_zero, List.set_cons_succ]
          refine wpAnyH_take (i := 8) (oi := { dst := some 28, op := Op.indexAddr 32 (Operand.tmp 26) (Operand.tmp 27), type := 0, pos := "apart.go:145", after := #[{ on := 6, ground := Ground.data }, { on := 7, ground := Ground.data }, { on := 5, ground := Ground.guard }], guard := some (5, true) }) (v := ?hdv33) rfl (by kernel_rfl) (by kernel_rfl) (by kernel_rfl) (fun _ _ _ h => h) (Or.inl ⟨by rfl, ?hdy33⟩) (by assumption) ?hdr33
          case hdy33 => (intro w hSw; (try dsimp only at hSw); go_simp; (try with_reducible rfl))
          try simp only [Act.put, List.setIfInBounds_toArray, List.set_cons_zero, List.set_cons_succ]
          refine wpAnyH_take (i := 9) (oi := { dst := some 29, op := Op.load 28 (Operand.tmp 28), type := 28, pos := "apart.go:145", after := #[{ on := 8, ground := Ground.data }, { on := 5, ground := Ground.guard }], guard := some (5, true) }) (v := ?hdv34) rfl (by kernel_rfl) (by kernel_rfl) (by kernel_rfl) (fun _ _ _ h => h) (Or.inl ⟨by rfl, ?hdy34⟩) (by assumption) ?hdr34
          case hdy34 => (intro w hSw; (try dsimp only at hSw); go_simp; (try with_reducible rfl))
          try simp only [Act.put, List.setIfInBounds_toArray, List.set_cons_zero, List.set_cons_succ]
          refine wpAnyH_take (i := 10) (oi := { dst := some 30, op := Op.binOp BinOp.eql 28 (Operand.tmp 29) (Operand.const (Value.int IntKind.u64 0)) 28, type := 4, pos := "apart.go:145", after := #[{ on := 9, ground := Ground.data }, { on := 5, ground := Ground.guard }], guard := some (5, true) }) (v := ?hdv35) rfl (by kernel_rfl) (by kernel_rfl) (by kernel_rfl) (fun _ _ _ h => h) (Or.inl ⟨by rfl, ?hdy35⟩) (by assumption) ?hdr35
          case hdy35 => (intro w hSw; (try dsimp only at hSw); go_simp; (try with_reducible rfl))
          try simp only [Act.put, List.setIfInBounds_toArray, List.set_cons_zero, List.set_cons_succ]
          refine wpAnyH_take (i := 11) (oi := { dst := some 31, op := Op.pick (Operand.tmp 25) (Operand.tmp 30) (Operand.const (Value.bool false)), type := 4, pos := "apart.go:145", after := #[{ on := 5, ground := Ground.data }, { on := 10, ground := Ground.data }], guard := none }) (v := ?hdv36) rfl (by kernel_rfl) (by kernel_rfl) (by kernel_rfl) (fun _ _ _ h => h) (Or.inl ⟨by rfl, ?hdy36⟩) (by assumption) ?hdr36
          case hdy36 => (intro w hSw; (try dsimp only at hSw); go_simp; (try with_reducible rfl))
          try simp only [Act.put, List.setIfInBounds_toArray, List.set_cons_zero, List.set_cons_succ]
          refine wpAnyH_ready (rs := [12]) (by kernel_rfl) (by simp) ?_
          refine AllReadyH.cons (o := { dst := some 32, op := Op.call { callee := Callee.value (Operand.func 34), args := #[Operand.tmp 20, Operand.tmp 21, Operand.const (Value.int IntKind.i64 3), Operand.tmp 31], argTypes := #[58, 22, 3, 4] }, type := 0, pos := "apart.go:145", after := #[{ on := 0, ground := Ground.data }, { on := 1, ground := Ground.data }, { on := 11, ground := Ground.data }, { on := 5, ground := Ground.chain }], guard := none }) rfl (fun K hK => ?_) AllReadyH.nil
          go_simp
          ((with_reducible refine Calls.mono (broken3 db d (noted f k 1 false) k false _ HD3.out.drawn) ?_); rintro e w2 ⟨⟨x, rfl⟩, hdd, hcc⟩; (try go_wp2_with fail))
          refine Shut.out hK _ _ ?_ (fun hHeldN => ?_)
          · (exact fun b o hne hb => cell_heap (w := World.drew w3) (a := ⟨b, o, none⟩) (hcc.block b hb hne))
          ((try clear hK K); (try clear hHeld))
          try simp only [Act.put, List.setIfInBounds_toArray, List.set_cons_zero, List.set_cons_succ]
          clear hHeldN
          refine wpAnyH_done (by kernel_rfl) ?_ _
          go_wp2
          go_end0
          exact ⟨⟨_, rfl⟩, hdd, HC3.out.trans ⟨hcc.os, hcc.tape, hcc.output, hcc.size, hcc.block⟩⟩
      · have hN' : ((l0 : Int) != 18446744073709551615) = true := by rw [bne_iff_ne]; omega
        have e1 : b1 = true := by rw [← hb1, decide_eq_true hge, beq_eq_false_iff_ne.2 hN]; rfl
        subst e1
        clear hb1
        have h0' : ((l0 : Int) != 0) = true := by rw [bne_iff_ne]; omega
        by_cases hv : v1 = 0
        · have hv' : ((v1 : Int) == 0) = true := by rw [beq_iff_eq]; omega
          have e3 : b3 = true := by rw [← hb3, beq_eq_false_iff_ne.2 h0, hv]; rfl
          subst e3
          clear hb3
          go_wp2_with (go_at_call 34; ((with_reducible refine (broken1 db d f k true _ HD.out).mono ?_); rintro e w3 ⟨⟨x, rfl⟩, hd3, hc3⟩))
          have hz3 := hc3.size
          have c3 : ∀ b o, b ≠ db → b < W1.heap.size → w3.cell? ⟨b, o, none⟩ = W1.cell? ⟨b, o, none⟩ := fun b o hne hb => cell_heap (a := ⟨b, o, none⟩) (hc3.block b hb hne)
          have y0 := (c3 xb 0 hsz2 hsz1).trans x0
          have yp := (c3 pb 0 hnp bp).trans cp
          have yt := (c3 tb 0 hnt bt).trans ct'
          have yr := (c3 rb k hnr hrl).trans r1
          have zx : xb < w3.heap.size := by omega
          have zp : pb < w3.heap.size := by omega
          have zt : tb < w3.heap.size := by omega
          have zr : rb < w3.heap.size := by omega
          have HD3 := Lib.hid hd3
          have HC3 := Lib.hid (HC.out.trans hc3)
          clear c3 hd3 hc3 HD HC x0 cp ct' r1 cn bp bt bn hrl hsz1 hz3
          refine wp_region_held_drew (S := fun wz => ∀ b o, b ≠ db → b < w3.heap.size → wz.cell? ⟨b, o, none⟩ = w3.cell? ⟨b, o, none⟩) (by kernel_rfl) (fun b o _ _ => rfl) (fun hHeld => ?_)
          refine wpAnyH_take (i := 0) (oi := { dst := some 20, op := Op.load 58 (Operand.tmp 2), type := 58, pos := "apart.go:145", after := #[], guard := none }) (v := ?hdv37) rfl (by kernel_rfl) (by kernel_rfl) (by kernel_rfl) (fun _ _ _ h => h) (Or.inl ⟨by rfl, ?hdy37⟩) (by assumption) ?hdr37
          case hdy37 => (intro w hSw; (try dsimp only at hSw); go_simp; (try with_reducible rfl))
          try simp only [Act.put, List.setIfInBounds_toArray, List.set_cons_zero, List.set_cons_succ]
          refine wpAnyH_take (i := 1) (oi := { dst := some 21, op := Op.move (Operand.tmp 0), type := 22, pos := "apart.go:145", after := #[], guard := none }) (v := ?hdv38) rfl (by kernel_rfl) (by kernel_rfl) (by kernel_rfl) (fun _ _ _ h => h) (Or.inl ⟨by rfl, ?hdy38⟩) (by assumption) ?hdr38
          case hdy38 => (intro w hSw; (try dsimp only at hSw); go_simp; (try with_reducible rfl))
          try simp only [Act.put, List.setIfInBounds_toArray, List.set_cons_zero, List.set_cons_succ]
          refine wpAnyH_take (i := 2) (oi := { dst := some 22, op := Op.indexAddr 56 (Operand.tmp 6) (Operand.const (Value.int IntKind.i64 0)), type := 0, pos := "apart.go:145", after := #[], guard := none }) (v := ?hdv39) rfl (by kernel_rfl) (by kernel_rfl) (by kernel_rfl) (fun _ _ _ h => h) (Or.inl ⟨by rfl, ?hdy39⟩) (by assumption) ?hdr39
          case hdy39 => (intro w hSw; (try dsimp only at hSw); go_simp; (try with_reducible rfl))
          try simp only [Act.put, List.setIfInBounds_toArray, List.set_cons_zero, List.set_cons_succ]
          refine wpAnyH_take (i := 3) (oi := { dst := some 23, op := Op.load 28 (Operand.tmp 22), type := 28, pos := "apart.go:145", after := #[{ on := 2, ground := Ground.data }], guard := none }) (v := ?hdv40) rfl (by kernel_rfl) (by kernel_rfl) (by kernel_rfl) (fun _ _ _ h => h) (Or.inl ⟨by rfl, ?hdy40⟩) (by assumption) ?hdr40
          case hdy40 => (intro w hSw; (try dsimp only at hSw); go_simp; (try with_reducible rfl))
          try simp only [Act.put, List.setIfInBounds_toArray, List.set_cons_zero, List.set_cons_succ]
          refine wpAnyH_take (i := 4) (oi := { dst := some 24, op := Op.binOp BinOp.neq 28 (Operand.tmp 23) (Operand.const (Value.int IntKind.u64 0)) 28, type := 4, pos := "apart.go:145", after := #[{ on := 3, ground := Ground.data }], guard := none }) (v := ?hdv41) rfl (by kernel_rfl) (by kernel_rfl) (by kernel_rfl) (fun _ _ _ h => h) (Or.inl ⟨by rfl, ?hdy41⟩) (by assumption) ?hdr41
          case hdy41 => (intro w hSw; (try dsimp only at hSw); go_simp; (try with_reducible rfl))
          try simp only [Act.put, List.setIfInBounds_toArray, List.set_cons_zero, List.set_cons_succ]
          refine wpAnyH_take (i := 5) (oi := { dst := some 25, op := Op.move (Operand.tmp 24), type := 4, pos := "apart.go:145", after := #[{ on := 4, ground := Ground.data }], guard := none }) (v := ?hdv42) rfl (by kernel_rfl) (by kernel_rfl) (by kernel_rfl) (fun _ _ _ h => h) (Or.inl ⟨by rfl, ?hdy42⟩) (by assumption) ?hdr42
          case hdy42 => (intro w hSw; (try dsimp only at hSw); go_simp; (try with_reducible rfl))
          try simp only [Act.put, List.setIfInBounds_toArray, List.set_cons_zero, List.set_cons_succ]
          refine wpAnyH_take (i := 6) (oi := { dst := some 26, op := Op.load 32 (Operand.tmp 4), type := 32, pos := "apart.go:145", after := #[{ on := 5, ground := Ground.guard }], guard := some (5, true) }) (v := ?hdv43) rfl (by kernel_rfl) (by kernel_rfl) (by kernel_rfl) (fun _ _ _ h => h) (Or.inl ⟨by rfl, ?hdy43⟩) (by assumption) ?hdr43
          case hdy43 => (intro w hSw; (try dsimp only at hSw); go_simp; (try with_reducible rfl))
          try simp only [Act.put, List.setIfInBounds_toArray, List.set_cons_zero, List.set_cons_succ]
          refine wpAnyH_take (i := 7) (oi := { dst := some 27, op := Op.move (Operand.tmp 0), type := 22, pos := "apart.go:145", after := #[{ on := 5, ground := Ground.guard }], guard := some (5, true) }) (v := ?hdv44) rfl (by kernel_rfl) (by kernel_rfl) (by kernel_rfl) (fun _ _ _ h => h) (Or.inl ⟨by rfl, ?hdy44⟩) (by assumption) ?hdr44
          case hdy44 => (intro w hSw; (try dsimp only at hSw); go_simp; (try with_reducible rfl))
          try simp only [Act.put, List.setIfInBounds_toArray, List.set_cons_zero, List.set_cons_succ]
          refine wpAnyH_take (i := 8) (oi := { dst := some 28, op := Op.indexAddr 32 (Operand.tmp 26) (Operand.tmp 27), type := 0, pos := "apart.go:145", after := #[{ on := 6, ground := Ground.data }, { on := 7, ground := Ground.data }, { on := 5, ground := Ground.guard }], guard := some (5, true) }) (v := ?hdv45) rfl (by kernel_rfl) (by kernel_rfl) (by kernel_rfl) (fun _ _ _ h => h) (Or.inl ⟨by rfl, ?hdy45⟩) (by assumption) ?hdr45
          case hdy45 => (intro w hSw; (try dsimp only at hSw); go_simp; (try with_reducible rfl))
          try simp only [Act.put, List.setIfInBounds_toArray, List.set_cons_zero, List.set_cons_succ]
          refine wpAnyH_take (i := 9) (oi := { dst := some 29, op := Op.load 28 (Operand.tmp 28), type := 28, pos := "apart.go:145", after := #[{ on := 8, ground := Ground.data }, { on := 5, ground := Ground.guard }], guard := some (5, true) }) (v := ?hdv46) rfl (by kernel_rfl) (by kernel_rfl) (by kernel_rfl) (fun _ _ _ h => h) (Or.inl ⟨by rfl, ?hdy46⟩) (by assumption) ?hdr46
          case hdy46 => (intro w hSw; (try dsimp only at hSw); go_simp; (try with_reducible rfl))
          try simp only [Act.put, List.setIfInBounds_toArray, List.set_cons_zero, List.set_cons_succ]
          refine wpAnyH_take (i := 10) (oi := { dst := some 30, op := Op.binOp BinOp.eql 28 (Operand.tmp 29) (Operand.const (Value.int IntKind.u64 0)) 28, type := 4, pos := "apart.go:145", after := #[{ on := 9, ground := Ground.data }, { on := 5, ground := Ground.guard }], guard := some (5, true) }) (v := ?hdv47) rfl (by kernel_rfl) (by kernel_rfl) (by kernel_rfl) (fun _ _ _ h => h) (Or.inl ⟨by rfl, ?hdy47⟩) (by assumption) ?hdr47
          case hdy47 => (intro w hSw; (try dsimp only at hSw); go_simp; (try with_reducible rfl))
          try simp only [Act.put, List.setIfInBounds_toArray, List.set_cons_zero, List.set_cons_succ]
          refine wpAnyH_take (i := 11) (oi := { dst := some 31, op := Op.pick (Operand.tmp 25) (Operand.tmp 30) (Operand.const (Value.bool false)), type := 4, pos := "apart.go:145", after := #[{ on := 5, ground := Ground.data }, { on := 10, ground := Ground.data }], guard := none }) (v := ?hdv48) rfl (by kernel_rfl) (by kernel_rfl) (by kernel_rfl) (fun _ _ _ h => h) (Or.inl ⟨by rfl, ?hdy48⟩) (by assumption) ?hdr48
          case hdy48 => (intro w hSw; (try dsimp only at hSw); go_simp; (try with_reducible rfl))
          try simp only [Act.put, List.setIfInBounds_toArray, List.set_cons_zero, List.set_cons_succ]
          refine wpAnyH_ready (rs := [12]) (by kernel_rfl) (by simp) ?_
          refine AllReadyH.cons (o := { dst := some 32, op := Op.call { callee := Callee.value (Operand.func 34), args := #[Operand.tmp 20, Operand.tmp 21, Operand.const (Value.int IntKind.i64 3), Operand.tmp 31], argTypes := #[58, 22, 3, 4] }, type := 0, pos := "apart.go:145", after := #[{ on := 0, ground := Ground.data }, { on := 1, ground := Ground.data }, { on := 11, ground := Ground.data }, { on := 5, ground := Ground.chain }], guard := none }) rfl (fun K hK => ?_) AllReadyH.nil
          go_simp
          ((with_reducible refine Calls.mono (broken3 db d (noted f k 1 true) k true _ HD3.out.drawn) ?_); rintro e w2 ⟨⟨x, rfl⟩, hdd, hcc⟩; (try go_wp2_with fail))
          refine Shut.out hK _ _ ?_ (fun hHeldN => ?_)
          · (exact fun b o hne hb => cell_heap (w := World.drew w3) (a := ⟨b, o, none⟩) (hcc.block b hb hne))
          ((try clear hK K); (try clear hHeld))
          try simp only [Act.put, List.setIfInBounds_toArray, List.set_cons_zero, List.set_cons_succ]
          clear hHeldN
          refine wpAnyH_done (by kernel_rfl) ?_ _
          go_wp2
          go_end0
          exact ⟨⟨_, rfl⟩, hdd, HC3.out.trans ⟨hcc.os, hcc.tape, hcc.output, hcc.size, hcc.block⟩⟩
        · have hv' : ((v1 : Int) == 0) = false := by rw [beq_eq_false_iff_ne]; omega
          have e3 : b3 = false := by rw [← hb3, beq_eq_false_iff_ne.2 hv]; exact Bool.and_false _
          subst e3
          clear hb3
          go_wp2_with (go_at_call 34; ((with_reducible refine (broken1 db d f k true _ HD.out).mono ?_); rintro e w3 ⟨⟨x, rfl⟩, hd3, hc3⟩))
          have hz3 := hc3.size
          have c3 : ∀ b o, b ≠ db → b < W1.heap.size → w3.cell? ⟨b, o, none⟩ = W1.cell? ⟨b, o, none⟩ := fun b o hne hb => cell_heap (a := ⟨b, o, none⟩) (hc3.block b hb hne)
          have y0 := (c3 xb 0 hsz2 hsz1).trans x0
          have yp := (c3 pb 0 hnp bp).trans cp
          have yt := (c3 tb 0 hnt bt).trans ct'
          have yr := (c3 rb k hnr hrl).trans r1
          have zx : xb < w3.heap.size := by omega
          have zp : pb < w3.heap.size := by omega
          have zt : tb < w3.heap.size := by omega
          have zr : rb < w3.heap.size := by omega
          have HD3 := Lib.hid hd3
          have HC3 := Lib.hid (HC.out.trans hc3)
          clear c3 hd3 hc3 HD HC x0 cp ct' r1 cn bp bt bn hrl hsz1 hz3
          refine wp_region_held_drew (S := fun wz => ∀ b o, b ≠ db → b < w3.heap.size → wz.cell? ⟨b, o, none⟩ = w3.cell? ⟨b, o, none⟩) (by kernel_rfl) (fun b o _ _ => rfl) (fun hHeld => ?_)
          refine wpAnyH_take (i := 0) (oi := { dst := some 20, op := Op.load 58 (Operand.tmp 2), type := 58, pos := "apart.go:145", after := #[], guard := none }) (v := ?hdv49) rfl (by kernel_rfl) (by kernel_rfl) (by kernel_rfl) (fun _ _ _ h => h) (Or.inl ⟨by rfl, ?hdy49⟩) (by assumption) ?hdr49
          case hdy49 => (intro w hSw; (try dsimp only at hSw); go_simp; (try with_reducible rfl))
          try simp only [Act.put, List.setIfInBounds_toArray, List.set_cons_zero, List.set_cons_succ]
          refine wpAnyH_take (i := 1) (oi := { dst := some 21, op := Op.move (Operand.tmp 0), type := 22, pos := "apart.go:145", after := #[], guard := none }) (v := ?hdv50) rfl (by kernel_rfl) (by kernel_rfl) (by kernel_rfl) (fun _ _ _ h => h) (Or.inl ⟨by rfl, ?hdy50⟩) (by assumption) ?hdr50
          case hdy50 => (intro w hSw; (try dsimp only at hSw); go_simp; (try with_reducible rfl))
          try simp only [Act.put, List.setIfInBounds_toArray, List.set_cons_zero, List.set_cons_succ]
          refine wpAnyH_take (i := 2) (oi := { dst := some 22, op := Op.indexAddr 56 (Operand.tmp 6) (Operand.const (Value.int IntKind.i64 0)), type := 0, pos := "apart.go:145", after := #[], guard := none }) (v := ?hdv51) rfl (by kernel_rfl) (by kernel_rfl) (by kernel_rfl) (fun _ _ _ h => h) (Or.inl ⟨by rfl, ?hdy51⟩) (by assumption) ?hdr51
          case hdy51 => (intro w hSw; (try dsimp only at hSw); go_simp; (try with_reducible rfl))
          try simp only [Act.put, List.setIfInBounds_toArray, List.set_cons_zero, List.set_cons_succ]
          refine wpAnyH_take (i := 3) (oi := { dst := some 23, op := Op.load 28 (Operand.tmp 22), type := 28, pos := "apart.go:145", after := #[{ on := 2, ground := Ground.data }], guard := none }) (v := ?hdv52) rfl (by kernel_rfl) (by kernel_rfl) (by kernel_rfl) (fun _ _ _ h => h) (Or.inl ⟨by rfl, ?hdy52⟩) (by assumption) ?hdr52
          case hdy52 => (intro w hSw; (try dsimp only at hSw); go_simp; (try with_reducible rfl))
          try simp only [Act.put, List.setIfInBounds_toArray, List.set_cons_zero, List.set_cons_succ]
          refine wpAnyH_take (i := 4) (oi := { dst := some 24, op := Op.binOp BinOp.neq 28 (Operand.tmp 23) (Operand.const (Value.int IntKind.u64 0)) 28, type := 4, pos := "apart.go:145", after := #[{ on := 3, ground := Ground.data }], guard := none }) (v := ?hdv53) rfl (by kernel_rfl) (by kernel_rfl) (by kernel_rfl) (fun _ _ _ h => h) (Or.inl ⟨by rfl, ?hdy53⟩) (by assumption) ?hdr53
          case hdy53 => (intro w hSw; (try dsimp only at hSw); go_simp; (try with_reducible rfl))
          try simp only [Act.put, List.setIfInBounds_toArray, List.set_cons_zero, List.set_cons_succ]
          refine wpAnyH_take (i := 5) (oi := { dst := some 25, op := Op.move (Operand.tmp 24), type := 4, pos := "apart.go:145", after := #[{ on := 4, ground := Ground.data }], guard := none }) (v := ?hdv54) rfl (by kernel_rfl) (by kernel_rfl) (by kernel_rfl) (fun _ _ _ h => h) (Or.inl ⟨by rfl, ?hdy54⟩) (by assumption) ?hdr54
          case hdy54 => (intro w hSw; (try dsimp only at hSw); go_simp; (try with_reducible rfl))
          try simp only [Act.put, List.setIfInBounds_toArray, List.set_cons_zero, List.set_cons_succ]
          refine wpAnyH_take (i := 6) (oi := { dst := some 26, op := Op.load 32 (Operand.tmp 4), type := 32, pos := "apart.go:145", after := #[{ on := 5, ground := Ground.guard }], guard := some (5, true) }) (v := ?hdv55) rfl (by kernel_rfl) (by kernel_rfl) (by kernel_rfl) (fun _ _ _ h => h) (Or.inl ⟨by rfl, ?hdy55⟩) (by assumption) ?hdr55
          case hdy55 => (intro w hSw; (try dsimp only at hSw); go_simp; (try with_reducible rfl))
          try simp only [Act.put, List.setIfInBounds_toArray, List.set_cons_zero, List.set_cons_succ]
          refine wpAnyH_take (i := 7) (oi := { dst := some 27, op := Op.move (Operand.tmp 0), type := 22, pos := "apart.go:145", after := #[{ on := 5, ground := Ground.guard }], guard := some (5, true) }) (v := ?hdv56) rfl (by kernel_rfl) (by kernel_rfl) (by kernel_rfl) (fun _ _ _ h => h) (Or.inl ⟨by rfl, ?hdy56⟩) (by assumption) ?hdr56
          case hdy56 => (intro w hSw; (try dsimp only at hSw); go_simp; (try with_reducible rfl))
          try simp only [Act.put, List.setIfInBounds_toArray, List.set_cons_zero, List.set_cons_succ]
          refine wpAnyH_take (i := 8) (oi := { dst := some 28, op := Op.indexAddr 32 (Operand.tmp 26) (Operand.tmp 27), type := 0, pos := "apart.go:145", after := #[{ on := 6, ground := Ground.data }, { on := 7, ground := Ground.data }, { on := 5, ground := Ground.guard }], guard := some (5, true) }) (v := ?hdv57) rfl (by kernel_rfl) (by kernel_rfl) (by kernel_rfl) (fun _ _ _ h => h) (Or.inl ⟨by rfl, ?hdy57⟩) (by assumption) ?hdr57
          case hdy57 => (intro w hSw; (try dsimp only at hSw); go_simp; (try with_reducible rfl))
          try simp only [Act.put, List.setIfInBounds_toArray, List.set_cons_zero, List.set_cons_succ]
          refine wpAnyH_take (i := 9) (oi := { dst := some 29, op := Op.load 28 (Operand.tmp 28), type := 28, pos := "apart.go:145", after := #[{ on := 8, ground := Ground.data }, { on := 5, ground := Ground.guard }], guard := some (5, true) }) (v := ?hdv58) rfl (by kernel_rfl) (by kernel_rfl) (by kernel_rfl) (fun _ _ _ h => h) (Or.inl ⟨by rfl, ?hdy58⟩) (by assumption) ?hdr58
          case hdy58 => (intro w hSw; (try dsimp only at hSw); go_simp; (try with_reducible rfl))
          try simp only [Act.put, List.setIfInBounds_toArray, List.set_cons_zero, List.set_cons_succ]
          refine wpAnyH_take (i := 10) (oi := { dst := some 30, op := Op.binOp BinOp.eql 28 (Operand.tmp 29) (Operand.const (Value.int IntKind.u64 0)) 28, type := 4, pos := "apart.go:145", after := #[{ on := 9, ground := Ground.data }, { on := 5, ground := Ground.guard }], guard := some (5, true) }) (v := ?hdv59) rfl (by kernel_rfl) (by kernel_rfl) (by kernel_rfl) (fun _ _ _ h => h) (Or.inl ⟨by rfl, ?hdy59⟩) (by assumption) ?hdr59
          case hdy59 => (intro w hSw; (try dsimp only at hSw); go_simp; (try with_reducible rfl))
          try simp only [Act.put, List.setIfInBounds_toArray, List.set_cons_zero, List.set_cons_succ]
          refine wpAnyH_take (i := 11) (oi := { dst := some 31, op := Op.pick (Operand.tmp 25) (Operand.tmp 30) (Operand.const (Value.bool false)), type := 4, pos := "apart.go:145", after := #[{ on := 5, ground := Ground.data }, { on := 10, ground := Ground.data }], guard := none }) (v := ?hdv60) rfl (by kernel_rfl) (by kernel_rfl) (by kernel_rfl) (fun _ _ _ h => h) (Or.inl ⟨by rfl, ?hdy60⟩) (by assumption) ?hdr60
          case hdy60 => (intro w hSw; (try dsimp only at hSw); go_simp; (try with_reducible rfl))
          try simp only [Act.put, List.setIfInBounds_toArray, List.set_cons_zero, List.set_cons_succ]
          refine wpAnyH_ready (rs := [12]) (by kernel_rfl) (by simp) ?_
          refine AllReadyH.cons (o := { dst := some 32, op := Op.call { callee := Callee.value (Operand.func 34), args := #[Operand.tmp 20, Operand.tmp 21, Operand.const (Value.int IntKind.i64 3), Operand.tmp 31], argTypes := #[58, 22, 3, 4] }, type := 0, pos := "apart.go:145", after := #[{ on := 0, ground := Ground.data }, { on := 1, ground := Ground.data }, { on := 11, ground := Ground.data }, { on := 5, ground := Ground.chain }], guard := none }) rfl (fun K hK => ?_) AllReadyH.nil
          go_simp
          ((with_reducible refine Calls.mono (broken3 db d (noted f k 1 true) k false _ HD3.out.drawn) ?_); rintro e w2 ⟨⟨x, rfl⟩, hdd, hcc⟩; (try go_wp2_with fail))
          refine Shut.out hK _ _ ?_ (fun hHeldN => ?_)
          · (exact fun b o hne hb => cell_heap (w := World.drew w3) (a := ⟨b, o, none⟩) (hcc.block b hb hne))
          ((try clear hK K); (try clear hHeld))
          try simp only [Act.put, List.setIfInBounds_toArray, List.set_cons_zero, List.set_cons_succ]
          clear hHeldN
          refine wpAnyH_done (by kernel_rfl) ?_ _
          go_wp2
          go_end0
          exact ⟨⟨_, rfl⟩, hdd, HC3.out.trans ⟨hcc.os, hcc.tape, hcc.output, hcc.size, hcc.block⟩⟩
    · have hge' : ¬ (n : Int) ≤ l0 := by omega
      have e1 : b1 = false := by rw [← hb1, decide_eq_false hge]; rfl
      subst e1
      clear hb1
      have h0' : ((l0 : Int) != 0) = true := by rw [bne_iff_ne]; omega
      by_cases hv : v1 = 0
      · have hv' : ((v1 : Int) == 0) = true := by rw [beq_iff_eq]; omega
        have e3 : b3 = true := by rw [← hb3, beq_eq_false_iff_ne.2 h0, hv]; rfl
        subst e3
        clear hb3
        go_wp2_with (go_at_call 34; ((with_reducible refine (broken1 db d f k false _ HD.out).mono ?_); rintro e w3 ⟨⟨x, rfl⟩, hd3, hc3⟩))
        have hz3 := hc3.size
        have c3 : ∀ b o, b ≠ db → b < W1.heap.size → w3.cell? ⟨b, o, none⟩ = W1.cell? ⟨b, o, none⟩ := fun b o hne hb => cell_heap (a := ⟨b, o, none⟩) (hc3.block b hb hne)
        have y0 := (c3 xb 0 hsz2 hsz1).trans x0
        have yp := (c3 pb 0 hnp bp).trans cp
        have yt := (c3 tb 0 hnt bt).trans ct'
        have yr := (c3 rb k hnr hrl).trans r1
        have zx : xb < w3.heap.size := by omega
        have zp : pb < w3.heap.size := by omega
        have zt : tb < w3.heap.size := by omega
        have zr : rb < w3.heap.size := by omega
        have HD3 := Lib.hid hd3
        have HC3 := Lib.hid (HC.out.trans hc3)
        clear c3 hd3 hc3 HD HC x0 cp ct' r1 cn bp bt bn hrl hsz1 hz3
        refine wp_region_held_drew (S := fun wz => ∀ b o, b ≠ db → b < w3.heap.size → wz.cell? ⟨b, o, none⟩ = w3.cell? ⟨b, o, none⟩) (by kernel_rfl) (fun b o _ _ => rfl) (fun hHeld => ?_)
        refine wpAnyH_take (i := 0) (oi := { dst := some 20, op := Op.load 58 (Operand.tmp 2), type := 58, pos := "apart.go:145", after := #[], guard := none }) (v := ?hdv61) rfl (by kernel_rfl) (by kernel_rfl) (by kernel_rfl) (fun _ _ _ h => h) (Or.inl ⟨by rfl, ?hdy61⟩) (by assumption) ?hdr61
        case hdy61 => (intro w hSw; (try dsimp only at hSw); go_simp; (try with_reducible rfl))
        try simp only [Act.put, List.setIfInBounds_toArray, List.set_cons_zero, List.set_cons_succ]
        refine wpAnyH_take (i := 1) (oi := { dst := some 21, op := Op.move (Operand.tmp 0), type := 22, pos := "apart.go:145", after := #[], guard := none }) (v := ?hdv62) rfl (by kernel_rfl) (by kernel_rfl) (by kernel_rfl) (fun _ _ _ h => h) (Or.inl ⟨by rfl, ?hdy62⟩) (by assumption) ?hdr62
        case hdy62 => (intro w hSw; (try dsimp only at hSw); go_simp; (try with_reducible rfl))
        try simp only [Act.put, List.setIfInBounds_toArray, List.set_cons_zero, List.set_cons_succ]
        refine wpAnyH_take (i := 2) (oi := { dst := some 22, op := Op.indexAddr 56 (Operand.tmp 6) (Operand.const (Value.int IntKind.i64 0)), type := 0, pos := "apart.go:145", after := #[], guard := none }) (v := ?hdv63) rfl (by kernel_rfl) (by kernel_rfl) (by kernel_rfl) (fun _ _ _ h => h) (Or.inl ⟨by rfl, ?hdy63⟩) (by assumption) ?hdr63
        case hdy63 => (intro w hSw; (try dsimp only at hSw); go_simp; (try with_reducible rfl))
        try simp only [Act.put, List.setIfInBounds_toArray, List.set_cons_zero, List.set_cons_succ]
        refine wpAnyH_take (i := 3) (oi := { dst := some 23, op := Op.load 28 (Operand.tmp 22), type := 28, pos := "apart.go:145", after := #[{ on := 2, ground := Ground.data }], guard := none }) (v := ?hdv64) rfl (by kernel_rfl) (by kernel_rfl) (by kernel_rfl) (fun _ _ _ h => h) (Or.inl ⟨by rfl, ?hdy64⟩) (by assumption) ?hdr64
        case hdy64 => (intro w hSw; (try dsimp only at hSw); go_simp; (try with_reducible rfl))
        try simp only [Act.put, List.setIfInBounds_toArray, List.set_cons_zero, List.set_cons_succ]
        refine wpAnyH_take (i := 4) (oi := { dst := some 24, op := Op.binOp BinOp.neq 28 (Operand.tmp 23) (Operand.const (Value.int IntKind.u64 0)) 28, type := 4, pos := "apart.go:145", after := #[{ on := 3, ground := Ground.data }], guard := none }) (v := ?hdv65) rfl (by kernel_rfl) (by kernel_rfl) (by kernel_rfl) (fun _ _ _ h => h) (Or.inl ⟨by rfl, ?hdy65⟩) (by assumption) ?hdr65
        case hdy65 => (intro w hSw; (try dsimp only at hSw); go_simp; (try with_reducible rfl))
        try simp only [Act.put, List.setIfInBounds_toArray, List.set_cons_zero, List.set_cons_succ]
        refine wpAnyH_take (i := 5) (oi := { dst := some 25, op := Op.move (Operand.tmp 24), type := 4, pos := "apart.go:145", after := #[{ on := 4, ground := Ground.data }], guard := none }) (v := ?hdv66) rfl (by kernel_rfl) (by kernel_rfl) (by kernel_rfl) (fun _ _ _ h => h) (Or.inl ⟨by rfl, ?hdy66⟩) (by assumption) ?hdr66
        case hdy66 => (intro w hSw; (try dsimp only at hSw); go_simp; (try with_reducible rfl))
        try simp only [Act.put, List.setIfInBounds_toArray, List.set_cons_zero, List.set_cons_succ]
        refine wpAnyH_take (i := 6) (oi := { dst := some 26, op := Op.load 32 (Operand.tmp 4), type := 32, pos := "apart.go:145", after := #[{ on := 5, ground := Ground.guard }], guard := some (5, true) }) (v := ?hdv67) rfl (by kernel_rfl) (by kernel_rfl) (by kernel_rfl) (fun _ _ _ h => h) (Or.inl ⟨by rfl, ?hdy67⟩) (by assumption) ?hdr67
        case hdy67 => (intro w hSw; (try dsimp only at hSw); go_simp; (try with_reducible rfl))
        try simp only [Act.put, List.setIfInBounds_toArray, List.set_cons_zero, List.set_cons_succ]
        refine wpAnyH_take (i := 7) (oi := { dst := some 27, op := Op.move (Operand.tmp 0), type := 22, pos := "apart.go:145", after := #[{ on := 5, ground := Ground.guard }], guard := some (5, true) }) (v := ?hdv68) rfl (by kernel_rfl) (by kernel_rfl) (by kernel_rfl) (fun _ _ _ h => h) (Or.inl ⟨by rfl, ?hdy68⟩) (by assumption) ?hdr68
        case hdy68 => (intro w hSw; (try dsimp only at hSw); go_simp; (try with_reducible rfl))
        try simp only [Act.put, List.setIfInBounds_toArray, List.set_cons_zero, List.set_cons_succ]
        refine wpAnyH_take (i := 8) (oi := { dst := some 28, op := Op.indexAddr 32 (Operand.tmp 26) (Operand.tmp 27), type := 0, pos := "apart.go:145", after := #[{ on := 6, ground := Ground.data }, { on := 7, ground := Ground.data }, { on := 5, ground := Ground.guard }], guard := some (5, true) }) (v := ?hdv69) rfl (by kernel_rfl) (by kernel_rfl) (by kernel_rfl) (fun _ _ _ h => h) (Or.inl ⟨by rfl, ?hdy69⟩) (by assumption) ?hdr69
        case hdy69 => (intro w hSw; (try dsimp only at hSw); go_simp; (try with_reducible rfl))
        try simp only [Act.put, List.setIfInBounds_toArray, List.set_cons_zero, List.set_cons_succ]
        refine wpAnyH_take (i := 9) (oi := { dst := some 29, op := Op.load 28 (Operand.tmp 28), type := 28, pos := "apart.go:145", after := #[{ on := 8, ground := Ground.data }, { on := 5, ground := Ground.guard }], guard := some (5, true) }) (v := ?hdv70) rfl (by kernel_rfl) (by kernel_rfl) (by kernel_rfl) (fun _ _ _ h => h) (Or.inl ⟨by rfl, ?hdy70⟩) (by assumption) ?hdr70
        case hdy70 => (intro w hSw; (try dsimp only at hSw); go_simp; (try with_reducible rfl))
        try simp only [Act.put, List.setIfInBounds_toArray, List.set_cons_zero, List.set_cons_succ]
        refine wpAnyH_take (i := 10) (oi := { dst := some 30, op := Op.binOp BinOp.eql 28 (Operand.tmp 29) (Operand.const (Value.int IntKind.u64 0)) 28, type := 4, pos := "apart.go:145", after := #[{ on := 9, ground := Ground.data }, { on := 5, ground := Ground.guard }], guard := some (5, true) }) (v := ?hdv71) rfl (by kernel_rfl) (by kernel_rfl) (by kernel_rfl) (fun _ _ _ h => h) (Or.inl ⟨by rfl, ?hdy71⟩) (by assumption) ?hdr71
        case hdy71 => (intro w hSw; (try dsimp only at hSw); go_simp; (try with_reducible rfl))
        try simp only [Act.put, List.setIfInBounds_toArray, List.set_cons_zero, List.set_cons_succ]
        refine wpAnyH_take (i := 11) (oi := { dst := some 31, op := Op.pick (Operand.tmp 25) (Operand.tmp 30) (Operand.const (Value.bool false)), type := 4, pos := "apart.go:145", after := #[{ on := 5, ground := Ground.data }, { on := 10, ground := Ground.data }], guard := none }) (v := ?hdv72) rfl (by kernel_rfl) (by kernel_rfl) (by kernel_rfl) (fun _ _ _ h => h) (Or.inl ⟨by rfl, ?hdy72⟩) (by assumption) ?hdr72
        case hdy72 => (intro w hSw; (try dsimp only at hSw); go_simp; (try with_reducible rfl))
        try simp only [Act.put, List.setIfInBounds_toArray, List.set_cons_zero, List.set_cons_succ]
        refine wpAnyH_ready (rs := [12]) (by kernel_rfl) (by simp) ?_
        refine AllReadyH.cons (o := { dst := some 32, op := Op.call { callee := Callee.value (Operand.func 34), args := #[Operand.tmp 20, Operand.tmp 21, Operand.const (Value.int IntKind.i64 3), Operand.tmp 31], argTypes := #[58, 22, 3, 4] }, type := 0, pos := "apart.go:145", after := #[{ on := 0, ground := Ground.data }, { on := 1, ground := Ground.data }, { on := 11, ground := Ground.data }, { on := 5, ground := Ground.chain }], guard := none }) rfl (fun K hK => ?_) AllReadyH.nil
        go_simp
        ((with_reducible refine Calls.mono (broken3 db d (noted f k 1 false) k true _ HD3.out.drawn) ?_); rintro e w2 ⟨⟨x, rfl⟩, hdd, hcc⟩; (try go_wp2_with fail))
        refine Shut.out hK _ _ ?_ (fun hHeldN => ?_)
        · (exact fun b o hne hb => cell_heap (w := World.drew w3) (a := ⟨b, o, none⟩) (hcc.block b hb hne))
        ((try clear hK K); (try clear hHeld))
        try simp only [Act.put, List.setIfInBounds_toArray, List.set_cons_zero, List.set_cons_succ]
        clear hHeldN
        refine wpAnyH_done (by kernel_rfl) ?_ _
        go_wp2
        go_end0
        exact ⟨⟨_, rfl⟩, hdd, HC3.out.trans ⟨hcc.os, hcc.tape, hcc.output, hcc.size, hcc.block⟩⟩
      · have hv' : ((v1 : Int) == 0) = false := by rw [beq_eq_false_iff_ne]; omega
        have e3 : b3 = false := by rw [← hb3, beq_eq_false_iff_ne.2 hv]; exact Bool.and_false _
        subst e3
        clear hb3
        go_wp2_with (go_at_call 34; ((with_reducible refine (broken1 db d f k false _ HD.out).mono ?_); rintro e w3 ⟨⟨x, rfl⟩, hd3, hc3⟩))
        have hz3 := hc3.size
        have c3 : ∀ b o, b ≠ db → b < W1.heap.size → w3.cell? ⟨b, o, none⟩ = W1.cell? ⟨b, o, none⟩ := fun b o hne hb => cell_heap (a := ⟨b, o, none⟩) (hc3.block b hb hne)
        have y0 := (c3 xb 0 hsz2 hsz1).trans x0
        have yp := (c3 pb 0 hnp bp).trans cp
        have yt := (c3 tb 0 hnt bt).trans ct'
        have yr := (c3 rb k hnr hrl).trans r1
        have zx : xb < w3.heap.size := by omega
        have zp : pb < w3.heap.size := by omega
        have zt : tb < w3.heap.size := by omega
        have zr : rb < w3.heap.size := by omega
        have HD3 := Lib.hid hd3
        have HC3 := Lib.hid (HC.out.trans hc3)
        clear c3 hd3 hc3 HD HC x0 cp ct' r1 cn bp bt bn hrl hsz1 hz3
        refine wp_region_held_drew (S := fun wz => ∀ b o, b ≠ db → b < w3.heap.size → wz.cell? ⟨b, o, none⟩ = w3.cell? ⟨b, o, none⟩) (by kernel_rfl) (fun b o _ _ => rfl) (fun hHeld => ?_)
        refine wpAnyH_take (i := 0) (oi := { dst := some 20, op := Op.load 58 (Operand.tmp 2), type := 58, pos := "apart.go:145", after := #[], guard := none }) (v := ?hdv73) rfl (by kernel_rfl) (by kernel_rfl) (by kernel_rfl) (fun _ _ _ h => h) (Or.inl ⟨by rfl, ?hdy73⟩) (by assumption) ?hdr73
        case hdy73 => (intro w hSw; (try dsimp only at hSw); go_simp; (try with_reducible rfl))
        try simp only [Act.put, List.setIfInBounds_toArray, List.set_cons_zero, List.set_cons_succ]
        refine wpAnyH_take (i := 1) (oi := { dst := some 21, op := Op.move (Operand.tmp 0), type := 22, pos := "apart.go:145", after := #[], guard := none }) (v := ?hdv74) rfl (by kernel_rfl) (by kernel_rfl) (by kernel_rfl) (fun _ _ _ h => h) (Or.inl ⟨by rfl, ?hdy74⟩) (by assumption) ?hdr74
        case hdy74 => (intro w hSw; (try dsimp only at hSw); go_simp; (try with_reducible rfl))
        try simp only [Act.put, List.setIfInBounds_toArray, List.set_cons_zero, List.set_cons_succ]
        refine wpAnyH_take (i := 2) (oi := { dst := some 22, op := Op.indexAddr 56 (Operand.tmp 6) (Operand.const (Value.int IntKind.i64 0)), type := 0, pos := "apart.go:145", after := #[], guard := none }) (v := ?hdv75) rfl (by kernel_rfl) (by kernel_rfl) (by kernel_rfl) (fun _ _ _ h => h) (Or.inl ⟨by rfl, ?hdy75⟩) (by assumption) ?hdr75
        case hdy75 => (intro w hSw; (try dsimp only at hSw); go_simp; (try with_reducible rfl))
        try simp only [Act.put, List.setIfInBounds_toArray, List.set_cons_zero, List.set_cons_succ]
        refine wpAnyH_take (i := 3) (oi := { dst := some 23, op := Op.load 28 (Operand.tmp 22), type := 28, pos := "apart.go:145", after := #[{ on := 2, ground := Ground.data }], guard := none }) (v := ?hdv76) rfl (by kernel_rfl) (by kernel_rfl) (by kernel_rfl) (fun _ _ _ h => h) (Or.inl ⟨by rfl, ?hdy76⟩) (by assumption) ?hdr76
        case hdy76 => (intro w hSw; (try dsimp only at hSw); go_simp; (try with_reducible rfl))
        try simp only [Act.put, List.setIfInBounds_toArray, List.set_cons_zero, List.set_cons_succ]
        refine wpAnyH_take (i := 4) (oi := { dst := some 24, op := Op.binOp BinOp.neq 28 (Operand.tmp 23) (Operand.const (Value.int IntKind.u64 0)) 28, type := 4, pos := "apart.go:145", after := #[{ on := 3, ground := Ground.data }], guard := none }) (v := ?hdv77) rfl (by kernel_rfl) (by kernel_rfl) (by kernel_rfl) (fun _ _ _ h => h) (Or.inl ⟨by rfl, ?hdy77⟩) (by assumption) ?hdr77
        case hdy77 => (intro w hSw; (try dsimp only at hSw); go_simp; (try with_reducible rfl))
        try simp only [Act.put, List.setIfInBounds_toArray, List.set_cons_zero, List.set_cons_succ]
        refine wpAnyH_take (i := 5) (oi := { dst := some 25, op := Op.move (Operand.tmp 24), type := 4, pos := "apart.go:145", after := #[{ on := 4, ground := Ground.data }], guard := none }) (v := ?hdv78) rfl (by kernel_rfl) (by kernel_rfl) (by kernel_rfl) (fun _ _ _ h => h) (Or.inl ⟨by rfl, ?hdy78⟩) (by assumption) ?hdr78
        case hdy78 => (intro w hSw; (try dsimp only at hSw); go_simp; (try with_reducible rfl))
        try simp only [Act.put, List.setIfInBounds_toArray, List.set_cons_zero, List.set_cons_succ]
        refine wpAnyH_take (i := 6) (oi := { dst := some 26, op := Op.load 32 (Operand.tmp 4), type := 32, pos := "apart.go:145", after := #[{ on := 5, ground := Ground.guard }], guard := some (5, true) }) (v := ?hdv79) rfl (by kernel_rfl) (by kernel_rfl) (by kernel_rfl) (fun _ _ _ h => h) (Or.inl ⟨by rfl, ?hdy79⟩) (by assumption) ?hdr79
        case hdy79 => (intro w hSw; (try dsimp only at hSw); go_simp; (try with_reducible rfl))
        try simp only [Act.put, List.setIfInBounds_toArray, List.set_cons_zero, List.set_cons_succ]
        refine wpAnyH_take (i := 7) (oi := { dst := some 27, op := Op.move (Operand.tmp 0), type := 22, pos := "apart.go:145", after := #[{ on := 5, ground := Ground.guard }], guard := some (5, true) }) (v := ?hdv80) rfl (by kernel_rfl) (by kernel_rfl) (by kernel_rfl) (fun _ _ _ h => h) (Or.inl ⟨by rfl, ?hdy80⟩) (by assumption) ?hdr80
        case hdy80 => (intro w hSw; (try dsimp only at hSw); go_simp; (try with_reducible rfl))
        try simp only [Act.put, List.setIfInBounds_toArray, List.set_cons_zero, List.set_cons_succ]
        refine wpAnyH_take (i := 8) (oi := { dst := some 28, op := Op.indexAddr 32 (Operand.tmp 26) (Operand.tmp 27), type := 0, pos := "apart.go:145", after := #[{ on := 6, ground := Ground.data }, { on := 7, ground := Ground.data }, { on := 5, ground := Ground.guard }], guard := some (5, true) }) (v := ?hdv81) rfl (by kernel_rfl) (by kernel_rfl) (by kernel_rfl) (fun _ _ _ h => h) (Or.inl ⟨by rfl, ?hdy81⟩) (by assumption) ?hdr81
        case hdy81 => (intro w hSw; (try dsimp only at hSw); go_simp; (try with_reducible rfl))
        try simp only [Act.put, List.setIfInBounds_toArray, List.set_cons_zero, List.set_cons_succ]
        refine wpAnyH_take (i := 9) (oi := { dst := some 29, op := Op.load 28 (Operand.tmp 28), type := 28, pos := "apart.go:145", after := #[{ on := 8, ground := Ground.data }, { on := 5, ground := Ground.guard }], guard := some (5, true) }) (v := ?hdv82) rfl (by kernel_rfl) (by kernel_rfl) (by kernel_rfl) (fun _ _ _ h => h) (Or.inl ⟨by rfl, ?hdy82⟩) (by assumption) ?hdr82
        case hdy82 => (intro w hSw; (try dsimp only at hSw); go_simp; (try with_reducible rfl))
        try simp only [Act.put, List.setIfInBounds_toArray, List.set_cons_zero, List.set_cons_succ]
        refine wpAnyH_take (i := 10) (oi := { dst := some 30, op := Op.binOp BinOp.eql 28 (Operand.tmp 29) (Operand.const (Value.int IntKind.u64 0)) 28, type := 4, pos := "apart.go:145", after := #[{ on := 9, ground := Ground.data }, { on := 5, ground := Ground.guard }], guard := some (5, true) }) (v := ?hdv83) rfl (by kernel_rfl) (by kernel_rfl) (by kernel_rfl) (fun _ _ _ h => h) (Or.inl ⟨by rfl, ?hdy83⟩) (by assumption) ?hdr83
        case hdy83 => (intro w hSw; (try dsimp only at hSw); go_simp; (try with_reducible rfl))
        try simp only [Act.put, List.setIfInBounds_toArray, List.set_cons_zero, List.set_cons_succ]
        refine wpAnyH_take (i := 11) (oi := { dst := some 31, op := Op.pick (Operand.tmp 25) (Operand.tmp 30) (Operand.const (Value.bool false)), type := 4, pos := "apart.go:145", after := #[{ on := 5, ground := Ground.data }, { on := 10, ground := Ground.data }], guard := none }) (v := ?hdv84) rfl (by kernel_rfl) (by kernel_rfl) (by kernel_rfl) (fun _ _ _ h => h) (Or.inl ⟨by rfl, ?hdy84⟩) (by assumption) ?hdr84
        case hdy84 => (intro w hSw; (try dsimp only at hSw); go_simp; (try with_reducible rfl))
        try simp only [Act.put, List.setIfInBounds_toArray, List.set_cons_zero, List.set_cons_succ]
        refine wpAnyH_ready (rs := [12]) (by kernel_rfl) (by simp) ?_
        refine AllReadyH.cons (o := { dst := some 32, op := Op.call { callee := Callee.value (Operand.func 34), args := #[Operand.tmp 20, Operand.tmp 21, Operand.const (Value.int IntKind.i64 3), Operand.tmp 31], argTypes := #[58, 22, 3, 4] }, type := 0, pos := "apart.go:145", after := #[{ on := 0, ground := Ground.data }, { on := 1, ground := Ground.data }, { on := 11, ground := Ground.data }, { on := 5, ground := Ground.chain }], guard := none }) rfl (fun K hK => ?_) AllReadyH.nil
        go_simp
        ((with_reducible refine Calls.mono (broken3 db d (noted f k 1 false) k false _ HD3.out.drawn) ?_); rintro e w2 ⟨⟨x, rfl⟩, hdd, hcc⟩; (try go_wp2_with fail))
        refine Shut.out hK _ _ ?_ (fun hHeldN => ?_)
        · (exact fun b o hne hb => cell_heap (w := World.drew w3) (a := ⟨b, o, none⟩) (hcc.block b hb hne))
        ((try clear hK K); (try clear hHeld))
        try simp only [Act.put, List.setIfInBounds_toArray, List.set_cons_zero, List.set_cons_succ]
        clear hHeldN
        refine wpAnyH_done (by kernel_rfl) ?_ _
        go_wp2
        go_end0
        exact ⟨⟨_, rfl⟩, hdd, HC3.out.trans ⟨hcc.os, hcc.tape, hcc.output, hcc.size, hcc.block⟩⟩


end Go.Proofs.Ytohmeobfiomfdaa
