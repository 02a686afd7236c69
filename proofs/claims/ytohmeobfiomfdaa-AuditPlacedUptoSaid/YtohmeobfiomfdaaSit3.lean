/-
  The constructors of the levels and of the two colours.
-/
import Derived.Test.YtohmeobfiomfdaaSit2
import Derived.Test.YtohmeobfiomfdaaHeld
namespace Go.Proofs.Ytohmeobfiomfdaa
open Go.RowKit
set_option maxRecDepth 100000
set_option linter.unusedSimpArgs false

attribute [local go_sem high] st_int st_bool st_slice st_func some_set

set_option maxHeartbeats 1000000 in
theorem planT_any (w : World) : Calls Try.prog 105 #[.agg #[]] w fun e w' => (∃ x0 x1 x2 x3 x4 x5 x6 x7, e = .returned (.agg #[x0, x1, x2, x3, x4, x5, x6, x7])) ∧ Below w.heap.size w w' := by
  go_enter Try.func105, Try.ntmps105
  go_upto_region 1 with fail
  have h1 := isBlk.new (w.alloc (.cells #[] 106)) 124 [.int .i64 0, .bool false, .int .i64 0, .int .i64 0, .int .i64 0, .int .i64 0, .slice none 0 0, .nilFunc]
  have hB : Below w.heap.size w ((w.alloc (.cells #[] 106)).alloc (.cells #[.int .i64 0, .bool false, .int .i64 0, .int .i64 0, .int .i64 0, .int .i64 0, .slice none 0 0, .nilFunc] 124)) := (by repeat (first | with_reducible exact Below.refl _ _ | with_reducible assumption | with_reducible refine below_drewN ?_ _ | with_reducible refine Below.drew ?_ | ((with_reducible refine Bset ?_ ?_); focus (first | omega | (simp; done) | (simp; omega))) | ((with_reducible refine Ball ?_ ?_); focus (first | omega | (simp; done) | (simp; omega)))))
  rw [World.size_alloc] at h1
  obtain ⟨W, hW⟩ : ∃ W, (w.alloc (.cells #[] 106)).alloc (.cells #[.int .i64 0, .bool false, .int .i64 0, .int .i64 0, .int .i64 0, .int .i64 0, .slice none 0 0, .nilFunc] 124) = W := ⟨_, rfl⟩
  rw [hW] at h1 hB ⊢
  clear hW
  obtain ⟨b1, hb1⟩ : ∃ b1, b1 = w.heap.size + 1 := ⟨_, rfl⟩
  rw [← hb1] at h1 ⊢
  have hzb : w.heap.size ≤ b1 := by omega
  have hbl := h1.lt
  have hbz := hB.size
  clear hb1
  obtain ⟨y0, c0⟩ : ∃ y, W.cell? ⟨b1, 0, none⟩ = some y := ⟨_, h1.cell 0⟩
  have f0 := h1.frozen 0
  obtain ⟨y1, c1⟩ : ∃ y, W.cell? ⟨b1, 1, none⟩ = some y := ⟨_, h1.cell 1⟩
  have f1 := h1.frozen 1
  obtain ⟨y2, c2⟩ : ∃ y, W.cell? ⟨b1, 2, none⟩ = some y := ⟨_, h1.cell 2⟩
  have f2 := h1.frozen 2
  obtain ⟨y3, c3⟩ : ∃ y, W.cell? ⟨b1, 3, none⟩ = some y := ⟨_, h1.cell 3⟩
  have f3 := h1.frozen 3
  obtain ⟨y4, c4⟩ : ∃ y, W.cell? ⟨b1, 4, none⟩ = some y := ⟨_, h1.cell 4⟩
  have f4 := h1.frozen 4
  obtain ⟨y5, c5⟩ : ∃ y, W.cell? ⟨b1, 5, none⟩ = some y := ⟨_, h1.cell 5⟩
  have f5 := h1.frozen 5
  obtain ⟨y6, c6⟩ : ∃ y, W.cell? ⟨b1, 6, none⟩ = some y := ⟨_, h1.cell 6⟩
  have f6 := h1.frozen 6
  obtain ⟨y7, c7⟩ : ∃ y, W.cell? ⟨b1, 7, none⟩ = some y := ⟨_, h1.cell 7⟩
  have f7 := h1.frozen 7
  go_wp2
  refine bodyPost_ret (v := .agg #[.int .i64 5, .bool false, .int .i64 2, .int .i64 5, .int .i64 3, .int .i64 2, .slice (some ⟨W.heap.size, 0, none⟩) 1 1, .func (.func 109) #[] #[]]) (by simp (maxDischargeDepth := 8) [results, Try.results105, go_sem, c0, c1, c2, c3, c4, c5, c6, c7, hbl]) rfl ⟨⟨_, _, _, _, _, _, _, _, rfl⟩, Ball (by simpa using hbz) (Bset hzb (Bset hzb (Bset hzb (Bset hzb (Bset hzb (Bset hzb (Bset hzb (Bset hzb hB)))))))) ⟩

set_option maxHeartbeats 4000000 in
theorem plan2_any (w : World) : Calls Try.prog 110 #[.agg #[]] w fun e w' => (∃ x0 x1 x2 x3 x4 x5 x6 x7, e = .returned (.agg #[x0, x1, x2, x3, x4, x5, x6, x7])) ∧ Below w.heap.size w w' := by
  go_enter Try.func110, Try.ntmps110
  go_wp2
  have h1 := isBlk.new (w.alloc (.cells #[] 107)) 124 [.int .i64 0, .bool false, .int .i64 0, .int .i64 0, .int .i64 0, .int .i64 0, .slice none 0 0, .nilFunc]
  have hB : Below w.heap.size w ((w.alloc (.cells #[] 107)).alloc (.cells #[.int .i64 0, .bool false, .int .i64 0, .int .i64 0, .int .i64 0, .int .i64 0, .slice none 0 0, .nilFunc] 124)) := (by repeat (first | with_reducible exact Below.refl _ _ | with_reducible assumption | with_reducible refine below_drewN ?_ _ | with_reducible refine Below.drew ?_ | ((with_reducible refine Bset ?_ ?_); focus (first | omega | (simp; done) | (simp; omega))) | ((with_reducible refine Ball ?_ ?_); focus (first | omega | (simp; done) | (simp; omega)))))
  have hz : w.heap.size + 1 < ((w.alloc (.cells #[] 107)).alloc (.cells #[.int .i64 0, .bool false, .int .i64 0, .int .i64 0, .int .i64 0, .int .i64 0, .slice none 0 0, .nilFunc] 124)).heap.size := by simp
  rw [World.size_alloc] at h1
  generalize (w.alloc (.cells #[] 107)).alloc (.cells #[.int .i64 0, .bool false, .int .i64 0, .int .i64 0, .int .i64 0, .int .i64 0, .slice none 0 0, .nilFunc] 124) = W at *
  have hzz : w.heap.size ≤ W.heap.size := by omega
  have hs1 : ∀ i, i < 8 → (W.cell? ⟨w.heap.size + 1, i, none⟩).isSome = true := fun i hi => by
    rw [h1.cell i]
    rcases i with _ | _ | _ | _ | _ | _ | _ | _ | i <;> first | rfl | (exfalso; omega)
  have hs2 : ∀ i, i < 8 → W.frozen? ⟨w.heap.size + 1, i, none⟩ = false := fun i _ => h1.frozen i
  clear h1
  obtain ⟨b1, hb1⟩ : ∃ b1, b1 = w.heap.size + 1 := ⟨_, rfl⟩
  rw [← hb1] at hz hs1 hs2 ⊢
  have hzb : w.heap.size ≤ b1 := by omega
  clear hb1
  refine wp_region_held_drew (S := fun wz => W.heap.size ≤ wz.heap.size ∧ Hid (Below w.heap.size w wz) ∧ (∀ i, i < 8 → (wz.cell? ⟨b1, i, none⟩).isSome = true) ∧ ∀ i, i < 8 → wz.frozen? ⟨b1, i, none⟩ = false) (by kernel_rfl) ⟨Nat.le_refl _, Lib.hid (Below.drew hB), hs1, hs2⟩ (fun hHeld => ?_)
  refine wpAnyH_take (i := 0) (oi := { dst := some 3, op := Op.build 120 #[(0, Operand.const (Value.int IntKind.i64 2)), (1, Operand.const (Value.int IntKind.i64 1)), (2, Operand.const (Value.int IntKind.i64 3)), (3, Operand.const (Value.int IntKind.i64 7))], type := 120, pos := "knots.go:244", after := #[], guard := none }) (v := ?hdv1) rfl (by kernel_rfl) (by kernel_rfl) (by kernel_rfl) (fun _ _ _ h => h) (Or.inl ⟨by rfl, ?hdy1⟩) (by assumption) ?hdr1
  case hdy1 => (intro w hSw; (try dsimp only at hSw); go_simp; (try with_reducible rfl))
  try simp only [Act.put, List.setIfInBounds_toArray, List.set_cons_zero, List.set_cons_succ]
  refine wpAnyH_take (i := 1) (oi := { dst := some 4, op := Op.load 107 (Operand.tmp 1), type := 107, pos := "knots.go:244", after := #[], guard := none }) (v := ?hdv2) rfl (by kernel_rfl) (by kernel_rfl) (by kernel_rfl) (fun _ _ _ h => h) (Or.inl ⟨by rfl, ?hdy2⟩) (by assumption) ?hdr2
  case hdy2 => (intro w hSw; (try dsimp only at hSw); go_simp; (try with_reducible rfl))
  try simp only [Act.put, List.setIfInBounds_toArray, List.set_cons_zero, List.set_cons_succ]
  refine wpAnyH_take (i := 2) (oi := { dst := some 5, op := Op.makeFunc (Fn.func 112) #[Operand.tmp 4] #[], type := 146, pos := "knots.go:244", after := #[{ on := 1, ground := Ground.data }], guard := none }) (v := ?hdv3) rfl (by kernel_rfl) (by kernel_rfl) (by kernel_rfl) (fun _ _ _ h => h) (Or.inl ⟨by rfl, ?hdy3⟩) (by assumption) ?hdr3
  case hdy3 => (intro w hSw; (try dsimp only at hSw); go_simp; (try with_reducible rfl))
  try simp only [Act.put, List.setIfInBounds_toArray, List.set_cons_zero, List.set_cons_succ]
  refine wpAnyH_take (i := 3) (oi := { dst := some 6, op := Op.load 107 (Operand.tmp 1), type := 107, pos := "knots.go:244", after := #[], guard := none }) (v := ?hdv4) rfl (by kernel_rfl) (by kernel_rfl) (by kernel_rfl) (fun _ _ _ h => h) (Or.inl ⟨by rfl, ?hdy4⟩) (by assumption) ?hdr4
  case hdy4 => (intro w hSw; (try dsimp only at hSw); go_simp; (try with_reducible rfl))
  try simp only [Act.put, List.setIfInBounds_toArray, List.set_cons_zero, List.set_cons_succ]
  refine wpAnyH_take (i := 4) (oi := { dst := some 7, op := Op.makeFunc (Fn.func 113) #[Operand.tmp 6] #[], type := 147, pos := "knots.go:244", after := #[{ on := 3, ground := Ground.data }], guard := none }) (v := ?hdv5) rfl (by kernel_rfl) (by kernel_rfl) (by kernel_rfl) (fun _ _ _ h => h) (Or.inl ⟨by rfl, ?hdy5⟩) (by assumption) ?hdr5
  case hdy5 => (intro w hSw; (try dsimp only at hSw); go_simp; (try with_reducible rfl))
  try simp only [Act.put, List.setIfInBounds_toArray, List.set_cons_zero, List.set_cons_succ]
  refine wpAnyH_take (i := 7) (oi := { dst := some 10, op := Op.load 107 (Operand.tmp 1), type := 107, pos := "knots.go:244", after := #[], guard := none }) (v := ?hdv6) rfl (by kernel_rfl) (by kernel_rfl) (by kernel_rfl) (fun _ _ _ h => h) (Or.inl ⟨by rfl, ?hdy6⟩) (by assumption) ?hdr6
  case hdy6 => (intro w hSw; (try dsimp only at hSw); go_simp; (try with_reducible rfl))
  try simp only [Act.put, List.setIfInBounds_toArray, List.set_cons_zero, List.set_cons_succ]
  refine wpAnyH_take (i := 8) (oi := { dst := some 11, op := Op.makeFunc (Fn.func 114) #[Operand.tmp 10] #[], type := 146, pos := "knots.go:244", after := #[{ on := 7, ground := Ground.data }], guard := none }) (v := ?hdv7) rfl (by kernel_rfl) (by kernel_rfl) (by kernel_rfl) (fun _ _ _ h => h) (Or.inl ⟨by rfl, ?hdy7⟩) (by assumption) ?hdr7
  case hdy7 => (intro w hSw; (try dsimp only at hSw); go_simp; (try with_reducible rfl))
  try simp only [Act.put, List.setIfInBounds_toArray, List.set_cons_zero, List.set_cons_succ]
  refine wpAnyH_take (i := 9) (oi := { dst := some 12, op := Op.load 107 (Operand.tmp 1), type := 107, pos := "knots.go:244", after := #[], guard := none }) (v := ?hdv8) rfl (by kernel_rfl) (by kernel_rfl) (by kernel_rfl) (fun _ _ _ h => h) (Or.inl ⟨by rfl, ?hdy8⟩) (by assumption) ?hdr8
  case hdy8 => (intro w hSw; (try dsimp only at hSw); go_simp; (try with_reducible rfl))
  try simp only [Act.put, List.setIfInBounds_toArray, List.set_cons_zero, List.set_cons_succ]
  refine wpAnyH_take (i := 10) (oi := { dst := some 13, op := Op.makeFunc (Fn.func 115) #[Operand.tmp 12] #[], type := 147, pos := "knots.go:244", after := #[{ on := 9, ground := Ground.data }], guard := none }) (v := ?hdv9) rfl (by kernel_rfl) (by kernel_rfl) (by kernel_rfl) (fun _ _ _ h => h) (Or.inl ⟨by rfl, ?hdy9⟩) (by assumption) ?hdr9
  case hdy9 => (intro w hSw; (try dsimp only at hSw); go_simp; (try with_reducible rfl))
  try simp only [Act.put, List.setIfInBounds_toArray, List.set_cons_zero, List.set_cons_succ]
  refine wpAnyH_take (i := 13) (oi := { dst := some 16, op := Op.load 107 (Operand.tmp 1), type := 107, pos := "knots.go:244", after := #[], guard := none }) (v := ?hdv10) rfl (by kernel_rfl) (by kernel_rfl) (by kernel_rfl) (fun _ _ _ h => h) (Or.inl ⟨by rfl, ?hdy10⟩) (by assumption) ?hdr10
  case hdy10 => (intro w hSw; (try dsimp only at hSw); go_simp; (try with_reducible rfl))
  try simp only [Act.put, List.setIfInBounds_toArray, List.set_cons_zero, List.set_cons_succ]
  refine wpAnyH_take (i := 14) (oi := { dst := some 17, op := Op.makeFunc (Fn.func 116) #[Operand.tmp 16] #[], type := 146, pos := "knots.go:244", after := #[{ on := 13, ground := Ground.data }], guard := none }) (v := ?hdv11) rfl (by kernel_rfl) (by kernel_rfl) (by kernel_rfl) (fun _ _ _ h => h) (Or.inl ⟨by rfl, ?hdy11⟩) (by assumption) ?hdr11
  case hdy11 => (intro w hSw; (try dsimp only at hSw); go_simp; (try with_reducible rfl))
  try simp only [Act.put, List.setIfInBounds_toArray, List.set_cons_zero, List.set_cons_succ]
  refine wpAnyH_take (i := 15) (oi := { dst := some 18, op := Op.load 107 (Operand.tmp 1), type := 107, pos := "knots.go:244", after := #[], guard := none }) (v := ?hdv12) rfl (by kernel_rfl) (by kernel_rfl) (by kernel_rfl) (fun _ _ _ h => h) (Or.inl ⟨by rfl, ?hdy12⟩) (by assumption) ?hdr12
  case hdy12 => (intro w hSw; (try dsimp only at hSw); go_simp; (try with_reducible rfl))
  try simp only [Act.put, List.setIfInBounds_toArray, List.set_cons_zero, List.set_cons_succ]
  refine wpAnyH_take (i := 16) (oi := { dst := some 19, op := Op.makeFunc (Fn.func 117) #[Operand.tmp 18] #[], type := 147, pos := "knots.go:244", after := #[{ on := 15, ground := Ground.data }], guard := none }) (v := ?hdv13) rfl (by kernel_rfl) (by kernel_rfl) (by kernel_rfl) (fun _ _ _ h => h) (Or.inl ⟨by rfl, ?hdy13⟩) (by assumption) ?hdr13
  case hdy13 => (intro w hSw; (try dsimp only at hSw); go_simp; (try with_reducible rfl))
  try simp only [Act.put, List.setIfInBounds_toArray, List.set_cons_zero, List.set_cons_succ]
  refine wpAnyH_take (i := 17) (oi := { dst := some 20, op := Op.build 152 #[(0, Operand.tmp 17), (1, Operand.tmp 19), (2, Operand.func 118)], type := 152, pos := "knots.go:244", after := #[{ on := 14, ground := Ground.data }, { on := 16, ground := Ground.data }], guard := none }) (v := ?hdv14) rfl (by kernel_rfl) (by kernel_rfl) (by kernel_rfl) (fun _ _ _ h => h) (Or.inl ⟨by rfl, ?hdy14⟩) (by assumption) ?hdr14
  case hdy14 => (intro w hSw; (try dsimp only at hSw); go_simp; (try with_reducible rfl))
  try simp only [Act.put, List.setIfInBounds_toArray, List.set_cons_zero, List.set_cons_succ]
  refine wpAnyH_take (i := 18) (oi := { dst := some 21, op := Op.load 107 (Operand.tmp 1), type := 107, pos := "knots.go:244", after := #[], guard := none }) (v := ?hdv15) rfl (by kernel_rfl) (by kernel_rfl) (by kernel_rfl) (fun _ _ _ h => h) (Or.inl ⟨by rfl, ?hdy15⟩) (by assumption) ?hdr15
  case hdy15 => (intro w hSw; (try dsimp only at hSw); go_simp; (try with_reducible rfl))
  try simp only [Act.put, List.setIfInBounds_toArray, List.set_cons_zero, List.set_cons_succ]
  refine wpAnyH_take (i := 19) (oi := { dst := some 22, op := Op.makeFunc (Fn.func 114) #[Operand.tmp 21] #[], type := 146, pos := "knots.go:244", after := #[{ on := 18, ground := Ground.data }], guard := none }) (v := ?hdv16) rfl (by kernel_rfl) (by kernel_rfl) (by kernel_rfl) (fun _ _ _ h => h) (Or.inl ⟨by rfl, ?hdy16⟩) (by assumption) ?hdr16
  case hdy16 => (intro w hSw; (try dsimp only at hSw); go_simp; (try with_reducible rfl))
  try simp only [Act.put, List.setIfInBounds_toArray, List.set_cons_zero, List.set_cons_succ]
  refine wpAnyH_take (i := 20) (oi := { dst := some 23, op := Op.load 107 (Operand.tmp 1), type := 107, pos := "knots.go:244", after := #[], guard := none }) (v := ?hdv17) rfl (by kernel_rfl) (by kernel_rfl) (by kernel_rfl) (fun _ _ _ h => h) (Or.inl ⟨by rfl, ?hdy17⟩) (by assumption) ?hdr17
  case hdy17 => (intro w hSw; (try dsimp only at hSw); go_simp; (try with_reducible rfl))
  try simp only [Act.put, List.setIfInBounds_toArray, List.set_cons_zero, List.set_cons_succ]
  refine wpAnyH_take (i := 21) (oi := { dst := some 24, op := Op.makeFunc (Fn.func 119) #[Operand.tmp 23] #[], type := 147, pos := "knots.go:244", after := #[{ on := 20, ground := Ground.data }], guard := none }) (v := ?hdv18) rfl (by kernel_rfl) (by kernel_rfl) (by kernel_rfl) (fun _ _ _ h => h) (Or.inl ⟨by rfl, ?hdy18⟩) (by assumption) ?hdr18
  case hdy18 => (intro w hSw; (try dsimp only at hSw); go_simp; (try with_reducible rfl))
  try simp only [Act.put, List.setIfInBounds_toArray, List.set_cons_zero, List.set_cons_succ]
  refine wpAnyH_take (i := 22) (oi := { dst := some 25, op := Op.build 152 #[(0, Operand.tmp 22), (1, Operand.tmp 24), (2, Operand.func 120)], type := 152, pos := "knots.go:244", after := #[{ on := 19, ground := Ground.data }, { on := 21, ground := Ground.data }], guard := none }) (v := ?hdv19) rfl (by kernel_rfl) (by kernel_rfl) (by kernel_rfl) (fun _ _ _ h => h) (Or.inl ⟨by rfl, ?hdy19⟩) (by assumption) ?hdr19
  case hdy19 => (intro w hSw; (try dsimp only at hSw); go_simp; (try with_reducible rfl))
  try simp only [Act.put, List.setIfInBounds_toArray, List.set_cons_zero, List.set_cons_succ]
  refine wpAnyH_ready (rs := [5]) (by kernel_rfl) (by simp) ?_
  refine AllReadyH.cons (o := { dst := some 8, op := Op.call { callee := Callee.value (Operand.func 97), args := #[Operand.const (Value.int IntKind.u64 0), Operand.const (Value.int IntKind.u64 1)], argTypes := #[28, 28] }, type := 145, pos := "knots.go:245", after := #[], guard := none }) rfl (fun K hK => ?_) AllReadyH.nil
  go_simp
  (with_reducible refine Calls.mono (still_any _ _ _) ?_; rintro e w2 ⟨rfl, hb2⟩; go_wp2_with fail)
  refine Shut.out hK _ _ ?_ (fun hHeldN => ?_)
  · (exact keepS_call hHeld.1 hHeld.2.1 hHeld.2.2.1 hHeld.2.2.2 hz hzz hb2)
  ((try clear hK K); (try clear hHeld))
  try simp only [Act.put, List.setIfInBounds_toArray, List.set_cons_zero, List.set_cons_succ]
  refine wpAnyH_take (i := 6) (oi := { dst := some 9, op := Op.build 152 #[(0, Operand.tmp 5), (1, Operand.tmp 7), (2, Operand.tmp 8)], type := 152, pos := "knots.go:244", after := #[{ on := 2, ground := Ground.data }, { on := 4, ground := Ground.data }, { on := 5, ground := Ground.data }], guard := none }) (v := ?hdv20) rfl (by kernel_rfl) (by kernel_rfl) (by kernel_rfl) (fun _ _ _ h => h) (Or.inl ⟨by rfl, ?hdy20⟩) (by assumption) ?hdr20
  case hdy20 => (intro w hSw; (try dsimp only at hSw); go_simp; (try with_reducible rfl))
  try simp only [Act.put, List.setIfInBounds_toArray, List.set_cons_zero, List.set_cons_succ]
  refine wpAnyH_ready (rs := [11]) (by kernel_rfl) (by simp) ?_
  refine AllReadyH.cons (o := { dst := some 14, op := Op.call { callee := Callee.value (Operand.func 97), args := #[Operand.const (Value.int IntKind.u64 1), Operand.const (Value.int IntKind.u64 2)], argTypes := #[28, 28] }, type := 145, pos := "knots.go:246", after := #[{ on := 5, ground := Ground.chain }], guard := none }) rfl (fun K hK => ?_) AllReadyH.nil
  go_simp
  (with_reducible refine Calls.mono (still_any _ _ _) ?_; rintro e w3 ⟨rfl, hb3⟩; go_wp2_with fail)
  refine Shut.out hK _ _ ?_ (fun hHeldN => ?_)
  · (exact keepS_call hHeldN.1 hHeldN.2.1 hHeldN.2.2.1 hHeldN.2.2.2 hz hzz hb3)
  ((try clear hK K); (try clear hHeld))
  try simp only [Act.put, List.setIfInBounds_toArray, List.set_cons_zero, List.set_cons_succ]
  refine wpAnyH_take (i := 12) (oi := { dst := some 15, op := Op.build 152 #[(0, Operand.tmp 11), (1, Operand.tmp 13), (2, Operand.tmp 14)], type := 152, pos := "knots.go:244", after := #[{ on := 8, ground := Ground.data }, { on := 10, ground := Ground.data }, { on := 11, ground := Ground.data }], guard := none }) (v := ?hdv21) rfl (by kernel_rfl) (by kernel_rfl) (by kernel_rfl) (fun _ _ _ h => h) (Or.inl ⟨by rfl, ?hdy21⟩) (by assumption) ?hdr21
  case hdy21 => (intro w hSw; (try dsimp only at hSw); go_simp; (try with_reducible rfl))
  try simp only [Act.put, List.setIfInBounds_toArray, List.set_cons_zero, List.set_cons_succ]
  refine wpAnyH_ready (rs := [23]) (by kernel_rfl) (by simp) ?_
  refine AllReadyH.cons (o := { dst := some 26, op := Op.buildSlice 121 4 #[(0, Operand.tmp 9), (1, Operand.tmp 15), (2, Operand.tmp 20), (3, Operand.tmp 25)], type := 121, pos := "knots.go:244", after := #[{ on := 6, ground := Ground.data }, { on := 12, ground := Ground.data }, { on := 17, ground := Ground.data }, { on := 22, ground := Ground.data }], guard := none }) rfl (fun K hK => ?_) AllReadyH.nil
  go_simp
  (skip)
  refine Shut.out hK _ _ ?_ (fun hHeldN => ?_)
  · (exact keepS_alloc hHeldN.1 hHeldN.2.1 hHeldN.2.2.1 hHeldN.2.2.2 hz hzz _)
  ((try clear hK K); (try clear hHeld))
  try simp only [Act.put, List.setIfInBounds_toArray, List.set_cons_zero, List.set_cons_succ]
  refine wpAnyH_take (i := 24) (oi := { dst := some 27, op := Op.build 124 #[(0, Operand.const (Value.int IntKind.i64 5)), (1, Operand.const (Value.bool true)), (2, Operand.tmp 3), (3, Operand.tmp 26), (4, Operand.func 121)], type := 124, pos := "knots.go:244", after := #[{ on := 0, ground := Ground.data }, { on := 23, ground := Ground.data }], guard := none }) (v := ?hdv22) rfl (by kernel_rfl) (by kernel_rfl) (by kernel_rfl) (fun _ _ _ h => h) (Or.inl ⟨by rfl, ?hdy22⟩) (by assumption) ?hdr22
  case hdy22 => (intro w hSw; (try dsimp only at hSw); go_simp; (try with_reducible rfl))
  try simp only [Act.put, List.setIfInBounds_toArray, List.set_cons_zero, List.set_cons_succ]
  obtain ⟨x0, hx0⟩ := Option.isSome_iff_exists.1 (hHeldN.2.2.1 0 (by omega))
  obtain ⟨x1, hx1⟩ := Option.isSome_iff_exists.1 (hHeldN.2.2.1 1 (by omega))
  obtain ⟨x2, hx2⟩ := Option.isSome_iff_exists.1 (hHeldN.2.2.1 2 (by omega))
  obtain ⟨x3, hx3⟩ := Option.isSome_iff_exists.1 (hHeldN.2.2.1 3 (by omega))
  obtain ⟨x4, hx4⟩ := Option.isSome_iff_exists.1 (hHeldN.2.2.1 4 (by omega))
  obtain ⟨x5, hx5⟩ := Option.isSome_iff_exists.1 (hHeldN.2.2.1 5 (by omega))
  obtain ⟨x6, hx6⟩ := Option.isSome_iff_exists.1 (hHeldN.2.2.1 6 (by omega))
  obtain ⟨x7, hx7⟩ := Option.isSome_iff_exists.1 (hHeldN.2.2.1 7 (by omega))
  have hff := hHeldN.2.2.2
  have hff0 := hff 0 (by omega)
  have hff1 := hff 1 (by omega)
  have hff2 := hff 2 (by omega)
  have hff3 := hff 3 (by omega)
  have hff4 := hff 4 (by omega)
  have hff5 := hff 5 (by omega)
  have hff6 := hff 6 (by omega)
  have hff7 := hff 7 (by omega)
  refine wpAnyH_ready (rs := [25]) (by kernel_rfl) (by simp) ?_
  refine AllReadyH.cons (o := { dst := none, op := Op.store 124 (Operand.tmp 2) (Operand.tmp 27), type := 0, pos := "knots.go:244", after := #[{ on := 24, ground := Ground.data }, { on := 11, ground := Ground.chain }, { on := 0, ground := Ground.phase }, { on := 1, ground := Ground.phase }, { on := 2, ground := Ground.phase }, { on := 3, ground := Ground.phase }, { on := 4, ground := Ground.phase }, { on := 5, ground := Ground.phase }, { on := 6, ground := Ground.phase }, { on := 7, ground := Ground.phase }, { on := 8, ground := Ground.phase }, { on := 9, ground := Ground.phase }, { on := 10, ground := Ground.phase }, { on := 11, ground := Ground.phase }, { on := 12, ground := Ground.phase }, { on := 13, ground := Ground.phase }, { on := 14, ground := Ground.phase }, { on := 15, ground := Ground.phase }, { on := 16, ground := Ground.phase }, { on := 17, ground := Ground.phase }, { on := 18, ground := Ground.phase }, { on := 19, ground := Ground.phase }, { on := 20, ground := Ground.phase }, { on := 21, ground := Ground.phase }, { on := 22, ground := Ground.phase }, { on := 23, ground := Ground.phase }, { on := 24, ground := Ground.phase }], guard := none }) rfl (fun K hK => ?_) AllReadyH.nil
  go_simp
  (skip)
  refine Shut.out hK _ _ ?_ (fun hHeldN => ?_)
  · (exact keepS_store8 hzb hHeldN.1 hHeldN.2.1 hHeldN.2.2.1 hHeldN.2.2.2 _ _ _ _ _ _ _ _)
  ((try clear hK K); (try clear hHeld))
  try simp only [Act.put, List.setIfInBounds_toArray, List.set_cons_zero, List.set_cons_succ]
  refine wpAnyH_done (by kernel_rfl) ?_ _
  have hbe := hHeldN.2.1
  clear hHeldN hff
  go_wp2_with fail
  refine bodyPost_ret (v := .agg #[.int .i64 5, .bool true, .int .i64 2, .int .i64 1, .int .i64 3, .int .i64 7, .slice (some ⟨w3.heap.size, 0, none⟩) 4 4, .func (.func 121) #[] #[]]) (by simp (maxDischargeDepth := 8) [results, Try.results110, go_sem, hx0, hx1, hx2, hx3, hx4, hx5, hx6, hx7]) rfl ⟨⟨_, _, _, _, _, _, _, _, rfl⟩, hbe.out⟩

@[go_sem] theorem m_planT (w : World) : (method 268 106 (.agg #[]) "sluice/knots.plan").run Try.prog w = .ok (105, .agg #[]) w := by kernel_rfl
@[go_sem] theorem m_plan2 (w : World) : (method 268 107 (.agg #[]) "sluice/knots.plan").run Try.prog w = .ok (110, .agg #[]) w := by kernel_rfl

set_option maxHeartbeats 1000000 in
theorem kmadeT_any (w : World) : Calls Try.prog 71 #[.iface 106 (.agg #[])] w fun e w' => (∃ pb : Nat, e = .returned (.pointer (some ⟨pb, 0, none⟩))) ∧ Below w.heap.size w w' := by
  go_enter Try.func71, Try.ntmps71
  go_wp2
  go_region_held3 (fun wz => w.heap.size ≤ wz.heap.size ∧ Hid (Below w.heap.size w wz))
    (first | (go_split_ands; with_reducible exact ⟨by assumption, by assumption⟩) | (go_split_ands; with_reducible exact keep2_call (by assumption) (by assumption) hb2) | (go_split_ands; with_reducible exact keep2_alloc (by assumption) (by assumption) _) | exact ⟨Nat.le_refl _, Lib.hid (Below.drew (Below.refl _ _))⟩)
    (((with_reducible refine Calls.mono (planT_any _) ?_); rintro e w2 ⟨⟨x0, x1, x2, x3, x4, x5, x6, x7, rfl⟩, hb2⟩))
  all_goals
    (go_wp2
     go_ret
     exact ⟨⟨_, rfl⟩, Ball (by have := hb2.size; exact this) (Below.trans (Below.drew (Below.refl w.heap.size w)) hb2)⟩)
set_option maxHeartbeats 400000 in
theorem wholeT_any (n : Nat) (w : World) : Calls Try.prog 64 #[.int .u32 n, .iface 106 (.agg #[])] w fun e w' => (∃ p : Option Addr, e = .returned (.tuple #[.pointer p, .int .i64 (sizeErr n)])) ∧ Below w.heap.size w w' := by
  by_cases h : n < 1 ∨ 2147483647 < n
  · have hs : sizeErr n = 2 := by unfold sizeErr; rw [if_pos h]
    rw [hs]
    clear hs
    by_cases h1 : n = 0
    · subst h1
      clear h
      go_enter Try.func64, Try.ntmps64
      go_wp2
      go_ret2
      exact ⟨⟨_, rfl⟩, (by repeat (first | with_reducible exact Below.refl _ _ | with_reducible assumption | with_reducible refine below_drewN ?_ _ | with_reducible refine Below.drew ?_ | ((with_reducible refine Bset ?_ ?_); focus (first | omega | (simp; done) | (simp; omega))) | ((with_reducible refine Ball ?_ ?_); focus (first | omega | (simp; done) | (simp; omega)))))⟩
    · have h1' : ((n : Int) == 0) = false := by rw [beq_eq_false_iff_ne]; omega
      have h2' : (2147483647 : Int) < n := by omega
      clear h h1
      go_enter Try.func64, Try.ntmps64
      go_wp2
      go_ret2
      exact ⟨⟨_, rfl⟩, (by repeat (first | with_reducible exact Below.refl _ _ | with_reducible assumption | with_reducible refine below_drewN ?_ _ | with_reducible refine Below.drew ?_ | ((with_reducible refine Bset ?_ ?_); focus (first | omega | (simp; done) | (simp; omega))) | ((with_reducible refine Ball ?_ ?_); focus (first | omega | (simp; done) | (simp; omega)))))⟩
  · have hs : sizeErr n = 0 := by unfold sizeErr; rw [if_neg h]
    rw [hs]
    clear hs
    have h1' : ((n : Int) == 0) = false := by rw [beq_eq_false_iff_ne]; omega
    have h2' : ¬ (2147483647 : Int) < n := by omega
    clear h
    go_enter Try.func64, Try.ntmps64
    go_wp2_with (go_at_call 71; refine (kmadeT_any _).mono ?_; rintro e w1 ⟨⟨pb, rfl⟩, hb1⟩)
    go_ret2
    exact ⟨⟨_, rfl⟩, hb1⟩
theorem consT_any (n : Nat) (w : World) : Calls Try.prog 48 #[.int .u32 n] w fun e w' => (∃ p : Option Addr, e = .returned (.tuple #[.pointer p, .int .i64 (sizeErr n)])) ∧ Below w.heap.size w w' := by
  go_enter Try.func48, Try.ntmps48
  go_wp2_with (go_at_call 64; refine (wholeT_any n _).mono ?_; rintro e w1 ⟨⟨pb, rfl⟩, hb1⟩)
  go_ret2
  exact ⟨⟨_, rfl⟩, hb1⟩


set_option maxHeartbeats 1000000 in
theorem kmade2_any (w : World) : Calls Try.prog 71 #[.iface 107 (.agg #[])] w fun e w' => (∃ pb : Nat, e = .returned (.pointer (some ⟨pb, 0, none⟩))) ∧ Below w.heap.size w w' := by
  go_enter Try.func71, Try.ntmps71
  go_wp2
  go_region_held3 (fun wz => w.heap.size ≤ wz.heap.size ∧ Hid (Below w.heap.size w wz))
    (first | (go_split_ands; with_reducible exact ⟨by assumption, by assumption⟩) | (go_split_ands; with_reducible exact keep2_call (by assumption) (by assumption) hb2) | (go_split_ands; with_reducible exact keep2_alloc (by assumption) (by assumption) _) | exact ⟨Nat.le_refl _, Lib.hid (Below.drew (Below.refl _ _))⟩)
    (((with_reducible refine Calls.mono (plan2_any _) ?_); rintro e w2 ⟨⟨x0, x1, x2, x3, x4, x5, x6, x7, rfl⟩, hb2⟩))
  all_goals
    (go_wp2
     go_ret
     exact ⟨⟨_, rfl⟩, Ball (by have := hb2.size; exact this) (Below.trans (Below.drew (Below.refl w.heap.size w)) hb2)⟩)
set_option maxHeartbeats 400000 in
theorem whole2_any (n : Nat) (w : World) : Calls Try.prog 64 #[.int .u32 n, .iface 107 (.agg #[])] w fun e w' => (∃ p : Option Addr, e = .returned (.tuple #[.pointer p, .int .i64 (sizeErr n)])) ∧ Below w.heap.size w w' := by
  by_cases h : n < 1 ∨ 2147483647 < n
  · have hs : sizeErr n = 2 := by unfold sizeErr; rw [if_pos h]
    rw [hs]
    clear hs
    by_cases h1 : n = 0
    · subst h1
      clear h
      go_enter Try.func64, Try.ntmps64
      go_wp2
      go_ret2
      exact ⟨⟨_, rfl⟩, (by repeat (first | with_reducible exact Below.refl _ _ | with_reducible assumption | with_reducible refine below_drewN ?_ _ | with_reducible refine Below.drew ?_ | ((with_reducible refine Bset ?_ ?_); focus (first | omega | (simp; done) | (simp; omega))) | ((with_reducible refine Ball ?_ ?_); focus (first | omega | (simp; done) | (simp; omega)))))⟩
    · have h1' : ((n : Int) == 0) = false := by rw [beq_eq_false_iff_ne]; omega
      have h2' : (2147483647 : Int) < n := by omega
      clear h h1
      go_enter Try.func64, Try.ntmps64
      go_wp2
      go_ret2
      exact ⟨⟨_, rfl⟩, (by repeat (first | with_reducible exact Below.refl _ _ | with_reducible assumption | with_reducible refine below_drewN ?_ _ | with_reducible refine Below.drew ?_ | ((with_reducible refine Bset ?_ ?_); focus (first | omega | (simp; done) | (simp; omega))) | ((with_reducible refine Ball ?_ ?_); focus (first | omega | (simp; done) | (simp; omega)))))⟩
  · have hs : sizeErr n = 0 := by unfold sizeErr; rw [if_neg h]
    rw [hs]
    clear hs
    have h1' : ((n : Int) == 0) = false := by rw [beq_eq_false_iff_ne]; omega
    have h2' : ¬ (2147483647 : Int) < n := by omega
    clear h
    go_enter Try.func64, Try.ntmps64
    go_wp2_with (go_at_call 71; refine (kmade2_any _).mono ?_; rintro e w1 ⟨⟨pb, rfl⟩, hb1⟩)
    go_ret2
    exact ⟨⟨_, rfl⟩, hb1⟩
theorem cons2_any (n : Nat) (w : World) : Calls Try.prog 51 #[.int .u32 n] w fun e w' => (∃ p : Option Addr, e = .returned (.tuple #[.pointer p, .int .i64 (sizeErr n)])) ∧ Below w.heap.size w w' := by
  go_enter Try.func51, Try.ntmps51
  go_wp2_with (go_at_call 64; refine (whole2_any n _).mono ?_; rintro e w1 ⟨⟨pb, rfl⟩, hb1⟩)
  go_ret2
  exact ⟨⟨_, rfl⟩, hb1⟩


end Go.Proofs.Ytohmeobfiomfdaa
