/-
  The document's audit of strong components.
-/
import Derived.Test.YtohmeobfiomfdaaHeld
import Derived.Test.YtohmeobfiomfdaaRef2
import Derived.Test.YtohmeobfiomfdaaRef3
namespace Go.Proofs.Ytohmeobfiomfdaa
open Go.RowKit Go.Shelf
set_option maxRecDepth 100000
set_option linter.unusedSimpArgs false

/-- What stands in memory while the document writes its faults down. -/
structure RefW (w0 : World) (g fb vb n : Nat) (R : List Nat) (W : World) : Prop where
  rg : isBlk W g 3 (i64L R)
  rf : isBlk W fb 82 [.slice (some ⟨g, 0, none⟩) n n]
  rv : isBlk W vb 35 [.bool false, .int .u32 0, .int .i64 0]
  rb : Below w0.heap.size w0 W
  n1 : w0.heap.size ≤ g ∧ w0.heap.size ≤ fb ∧ w0.heap.size ≤ vb
  n2 : fb ≠ g ∧ vb ≠ g ∧ vb ≠ fb
theorem RefW.go {w0 W W' : World} {g fb vb n : Nat} {R R' : List Nat} (h : RefW w0 g fb vb n R W) (hg : isBlk W' g 3 (i64L R')) (hc : Chg (fun j => j = g) W.drew W') : RefW w0 g fb vb n R' W' where
  rg := hg
  rf := (hc.block _ h.rf.lt h.n2.1).trans h.rf
  rv := (hc.block _ h.rv.lt h.n2.2.1).trans h.rv
  rb := by
    have hb := Chg.below (a := W.drew) hc (B := w0.heap.size) h.rb.size (fun j hj => by rw [hj]; exact h.n1.1)
    exact (Below.drew h.rb).trans hb
  n1 := h.n1
  n2 := h.n2
theorem RefW.below {w0 W W' : World} {g fb vb n : Nat} {R : List Nat} (h : RefW w0 g fb vb n R W) (hb : Below W.heap.size W W') : RefW w0 g fb vb n R W' where
  rg := h.rg.below hb h.rg.lt
  rf := h.rf.below hb h.rf.lt
  rv := h.rv.below hb h.rv.lt
  rb := h.rb.trans (hb.mono h.rb.size)
  n1 := h.n1
  n2 := h.n2

theorem Tells.next {R : List Nat} {n k rule : Nat} {B : Nat → Nat → Prop} {P : Nat → Prop} {b : Bool} (h : Tells R n (fun v r => B v r ∨ (v < k ∧ r = rule ∧ P v))) (hr : rule ≠ 0) (hk : k < n) (hb : b = true ↔ P k) : Tells (noteL R k rule b) n (fun v r => B v r ∨ (v < k + 1 ∧ r = rule ∧ P v)) := by
  refine (h.note k rule b hk hr).congr (fun v r => ?_)
  constructor
  · rintro ((h | ⟨h1, h2, h3⟩) | ⟨h1, rfl, rfl⟩)
    · exact Or.inl h
    · exact Or.inr ⟨by omega, h2, h3⟩
    · exact Or.inr ⟨by omega, rfl, hb.1 h1⟩
  · rintro (h | ⟨h1, h2, h3⟩)
    · exact Or.inl (Or.inl h)
    · by_cases e : v = k
      · subst e; exact Or.inr ⟨hb.2 h3, rfl, h2⟩
      · exact Or.inl (Or.inr ⟨by omega, h2, h3⟩)

set_option maxHeartbeats 8000000 in
theorem refSccs_any (n sb so sc ec eb eo : Nat) (a ea : Option Addr) (es : List Ed) (ss : List St) (w : World) (hs : IsSts w a sb so ss) (hE : IsEds w ea eb eo es) (hss : ss.length = n) (hn : n ≤ 5000) (hn1 : 1 ≤ n) (hlen : es.length ≤ 1048576) (hva : ∀ e, e ∈ es → Valid n e) :
    Calls Try.prog 13 #[.int .u32 n, .slice ea es.length ec, .slice a n sc] w fun e w' => ∃ (x : Bool) (y z : Nat), e = .returned (.agg #[.bool x, .int .u32 y, .int .i64 z]) ∧ (∃ f, verdC 0 f = #[.bool x, .int .u32 y, .int .i64 z] ∧ Least f (Bscc ss es n)) ∧ Below w.heap.size w w' := by
  have HSS := Lib.hid hss
  obtain rfl := hs.ad (by omega)
  have hsl := hs.lt (by omega)
  clear hss
  go_enter Try.func13, Try.ntmps13
  go_upto_block 0 with (go_at_call 43; ((with_reducible refine (begin_any n _ (by omega)).mono ?_); rintro e w1 ⟨g, rfl, hg1, hgz, hb1⟩))
  have hvk := (isBlk.new w 35 [.bool false, .int .u32 0, .int .i64 0]).below hb1 (by simp)
  have hz1 := hb1.size
  simp only [World.size_alloc] at hz1 hgz
  have HR1 : Hid (RefW w g w1.heap.size w.heap.size n (List.replicate n 0) (w1.alloc (.cells #[.slice (some ⟨g, 0, none⟩) n n] 82))) := Lib.hid ⟨hg1.old _, isBlk.new w1 82 [_], hvk.old _, Ball (by omega) (Below.trans (Ball (Nat.le_refl _) (Below.refl _ _)) (hb1.mono (by simp))), ⟨by omega, by omega, Nat.le_refl _⟩, ⟨by have := hg1.lt; omega, by omega, by omega⟩⟩
  obtain ⟨W1, hW1⟩ : ∃ W1, w1.alloc (.cells #[.slice (some ⟨g, 0, none⟩) n n] 82) = W1 := ⟨_, rfl⟩
  obtain ⟨fb, hfb⟩ : ∃ fb, fb = w1.heap.size := ⟨_, rfl⟩
  obtain ⟨vb, hvb⟩ : ∃ vb, vb = w.heap.size := ⟨_, rfl⟩
  have hsg : sb ≠ g := by omega
  have hgw : w.heap.size ≤ g := by omega
  rw [hW1, ← hfb, ← hvb] at HR1
  rw [hW1, ← hfb, ← hvb]
  clear hW1 hfb hvb hvk hz1 hgz hg1 hb1
  go_cut [8, 9] (fun _ _ wx => ∃ R, RefW w g fb vb n R wx ∧ Tells R n (fun v r => False ∨ (v < n ∧ r = 1 ∧ badLabel ss v (lab ss v) = true)))
  case first =>
    go_wp2_with fail
    go_loopg [8, 9] n (fun gk i _ wr => ∃ (k : Nat) (R : List Nat), k + gk = n ∧ i = .int .i64 k ∧ Hid (RefW w g fb vb n R wr) ∧ Tells R n (fun v r => False ∨ (v < k ∧ r = 1 ∧ badLabel ss v (lab ss v) = true)))
    case atStart => exact ⟨0, _, by omega, rfl, HR1, (Tells.none n).congr (fun v r => ⟨fun h => h.elim, fun h => h.elim id (fun h => absurd h.1 (Nat.not_lt_zero v))⟩)⟩
    case round =>
      clear HR1
      obtain ⟨k, R, hk, rfl, HR, hT⟩ := hrel
      have HT := Lib.hid hT
      have hRl := hT.1
      clear hT
      by_cases hlt : k < n
      · have i1 : (k : Int) < n := by omega
        have i2 : (0 : Int) ≤ k := Int.natCast_nonneg _
        have hgk : 0 < gk := by omega
        have hkw : IntKind.u64.wrap (k : Int) = (k : Int) := by rw [IntKind.wrap_u64]; omega
        have hnw : IntKind.u64.wrap (n : Int) = (n : Int) := by rw [IntKind.wrap_u64]; omega
        have hbw := HR.out.rb
        have hbz := hbw.size
        have hsr := hs.below hbw (fun _ => hsl)
        have hslr := hsr.lt (by rw [HSS.out]; omega)
        have hfl := HR.out.rf.lt
        have hgl := HR.out.rg.lt
        have hfg := HR.out.n2.1
        have c0 : wr.cell? ⟨sb, so + k * 8, none⟩ = some (.int .u64 (lab ss k : Nat)) := by have := hsr.c0 k (by rw [HSS.out]; exact hlt); rwa [lab_get] at this
        have cf : wr.cell? ⟨fb, 0, none⟩ = some (.slice (some ⟨g, 0, none⟩) n n) := HR.out.rf.cell 0
        have hbl : ∀ b : Bool, b = badLabel ss k (lab ss k) → Tells (noteL R k 1 b) n (fun v r => False ∨ (v < k + 1 ∧ r = 1 ∧ badLabel ss v (lab ss v) = true)) := fun b hb => HT.out.next (by decide) hlt (by rw [hb])
        have HB := Lib.hid hbl
        clear hbl hbw
        have hlu : badLabel ss k (lab ss k) = (decide (k < lab ss k) || !(lab ss (lab ss k) == lab ss k)) := rfl
        have HLU := Lib.hid hlu
        clear hlu
        by_cases h1 : k < lab ss k
        · have h1' : (k : Int) < (lab ss k : Nat) := by omega
          have H1 := Lib.hid (HB.out true (by rw [HLU.out, decide_eq_true h1]; rfl))
          clear HB HLU h1 hsr
          generalize lab ss k = y at *
          go_upto_region 6 with fail
          refine wp_region_held_drew (S := fun wz => ∀ b o, b ≠ g → b < wr.heap.size → wz.cell? ⟨b, o, none⟩ = wr.cell? ⟨b, o, none⟩) (by kernel_rfl) (fun b o _ _ => rfl) (fun hHeld => ?_)
          refine wpAnyH_take (i := 0) (oi := { dst := some 30, op := Op.load 82 (Operand.tmp 7), type := 82, pos := "ref.go:333", after := #[], guard := none }) (v := ?hdv1) rfl (by kernel_rfl) (by kernel_rfl) (by kernel_rfl) (fun _ _ _ h => h) (Or.inl ⟨by rfl, ?hdy1⟩) (by assumption) ?hdr1
          case hdy1 => (intro w hSw; (try dsimp only at hSw); go_simp; (try with_reducible rfl))
          try simp only [Act.put, List.setIfInBounds_toArray, List.set_cons_zero, List.set_cons_succ]
          refine wpAnyH_take (i := 1) (oi := { dst := some 31, op := Op.move (Operand.tmp 8), type := 3, pos := "ref.go:333", after := #[], guard := none }) (v := ?hdv2) rfl (by kernel_rfl) (by kernel_rfl) (by kernel_rfl) (fun _ _ _ h => h) (Or.inl ⟨by rfl, ?hdy2⟩) (by assumption) ?hdr2
          case hdy2 => (intro w hSw; (try dsimp only at hSw); go_simp; (try with_reducible rfl))
          try simp only [Act.put, List.setIfInBounds_toArray, List.set_cons_zero, List.set_cons_succ]
          refine wpAnyH_take (i := 2) (oi := { dst := some 32, op := Op.move (Operand.tmp 9), type := 28, pos := "ref.go:333", after := #[], guard := none }) (v := ?hdv3) rfl (by kernel_rfl) (by kernel_rfl) (by kernel_rfl) (fun _ _ _ h => h) (Or.inl ⟨by rfl, ?hdy3⟩) (by assumption) ?hdr3
          case hdy3 => (intro w hSw; (try dsimp only at hSw); go_simp; (try with_reducible rfl))
          try simp only [Act.put, List.setIfInBounds_toArray, List.set_cons_zero, List.set_cons_succ]
          refine wpAnyH_take (i := 3) (oi := { dst := some 33, op := Op.move (Operand.tmp 8), type := 3, pos := "ref.go:333", after := #[], guard := none }) (v := ?hdv4) rfl (by kernel_rfl) (by kernel_rfl) (by kernel_rfl) (fun _ _ _ h => h) (Or.inl ⟨by rfl, ?hdy4⟩) (by assumption) ?hdr4
          case hdy4 => (intro w hSw; (try dsimp only at hSw); go_simp; (try with_reducible rfl))
          try simp only [Act.put, List.setIfInBounds_toArray, List.set_cons_zero, List.set_cons_succ]
          refine wpAnyH_take (i := 4) (oi := { dst := some 34, op := Op.convert 3 28 (Operand.tmp 33), type := 28, pos := "ref.go:333", after := #[{ on := 3, ground := Ground.data }], guard := none }) (v := ?hdv5) rfl (by kernel_rfl) (by kernel_rfl) (by kernel_rfl) (fun _ _ _ h => h) (Or.inl ⟨by rfl, ?hdy5⟩) (by assumption) ?hdr5
          case hdy5 => (intro w hSw; (try dsimp only at hSw); go_simp; (try with_reducible rfl))
          try simp only [Act.put, List.setIfInBounds_toArray, List.set_cons_zero, List.set_cons_succ]
          refine wpAnyH_take (i := 5) (oi := { dst := some 35, op := Op.binOp BinOp.gtr 28 (Operand.tmp 32) (Operand.tmp 34) 28, type := 4, pos := "ref.go:333", after := #[{ on := 2, ground := Ground.data }, { on := 4, ground := Ground.data }], guard := none }) (v := ?hdv6) rfl (by kernel_rfl) (by kernel_rfl) (by kernel_rfl) (fun _ _ _ h => h) (Or.inl ⟨by rfl, ?hdy6⟩) (by assumption) ?hdr6
          case hdy6 => (intro w hSw; (try dsimp only at hSw); go_simp; (try with_reducible rfl))
          try simp only [Act.put, List.setIfInBounds_toArray, List.set_cons_zero, List.set_cons_succ]
          refine wpAnyH_take (i := 6) (oi := { dst := some 36, op := Op.move (Operand.tmp 35), type := 4, pos := "ref.go:333", after := #[{ on := 5, ground := Ground.data }], guard := none }) (v := ?hdv7) rfl (by kernel_rfl) (by kernel_rfl) (by kernel_rfl) (fun _ _ _ h => h) (Or.inl ⟨by rfl, ?hdy7⟩) (by assumption) ?hdr7
          case hdy7 => (intro w hSw; (try dsimp only at hSw); go_simp; (try with_reducible rfl))
          try simp only [Act.put, List.setIfInBounds_toArray, List.set_cons_zero, List.set_cons_succ]
          refine wpAnyH_take (i := 7) (oi := { dst := some 37, op := Op.move (Operand.tmp 9), type := 28, pos := "ref.go:333", after := #[{ on := 6, ground := Ground.guard }], guard := some (6, false) }) (v := undef) rfl (by kernel_rfl) (by kernel_rfl) (by kernel_rfl) (fun _ _ _ h => h) (Or.inr ⟨by rfl, rfl⟩) (by assumption) ?_
          try simp only [Act.put, List.setIfInBounds_toArray, List.set_cons_zero, List.set_cons_succ]
          refine wpAnyH_take (i := 8) (oi := { dst := some 38, op := Op.move (Operand.tmp 0), type := 22, pos := "ref.go:333", after := #[{ on := 6, ground := Ground.guard }], guard := some (6, false) }) (v := undef) rfl (by kernel_rfl) (by kernel_rfl) (by kernel_rfl) (fun _ _ _ h => h) (Or.inr ⟨by rfl, rfl⟩) (by assumption) ?_
          try simp only [Act.put, List.setIfInBounds_toArray, List.set_cons_zero, List.set_cons_succ]
          refine wpAnyH_take (i := 9) (oi := { dst := some 39, op := Op.convert 22 28 (Operand.tmp 38), type := 28, pos := "ref.go:333", after := #[{ on := 8, ground := Ground.data }, { on := 6, ground := Ground.guard }], guard := some (6, false) }) (v := undef) rfl (by kernel_rfl) (by kernel_rfl) (by kernel_rfl) (fun _ _ _ h => h) (Or.inr ⟨by rfl, rfl⟩) (by assumption) ?_
          try simp only [Act.put, List.setIfInBounds_toArray, List.set_cons_zero, List.set_cons_succ]
          refine wpAnyH_take (i := 10) (oi := { dst := some 40, op := Op.binOp BinOp.geq 28 (Operand.tmp 37) (Operand.tmp 39) 28, type := 4, pos := "ref.go:333", after := #[{ on := 7, ground := Ground.data }, { on := 9, ground := Ground.data }, { on := 6, ground := Ground.guard }], guard := some (6, false) }) (v := undef) rfl (by kernel_rfl) (by kernel_rfl) (by kernel_rfl) (fun _ _ _ h => h) (Or.inr ⟨by rfl, rfl⟩) (by assumption) ?_
          try simp only [Act.put, List.setIfInBounds_toArray, List.set_cons_zero, List.set_cons_succ]
          refine wpAnyH_take (i := 11) (oi := { dst := some 41, op := Op.pick (Operand.tmp 36) (Operand.const (Value.bool true)) (Operand.tmp 40), type := 4, pos := "ref.go:333", after := #[{ on := 6, ground := Ground.data }, { on := 10, ground := Ground.data }], guard := none }) (v := ?hdv12) rfl (by kernel_rfl) (by kernel_rfl) (by kernel_rfl) (fun _ _ _ h => h) (Or.inl ⟨by rfl, ?hdy12⟩) (by assumption) ?hdr12
          case hdy12 => (intro w hSw; (try dsimp only at hSw); go_simp; (try with_reducible rfl))
          try simp only [Act.put, List.setIfInBounds_toArray, List.set_cons_zero, List.set_cons_succ]
          refine wpAnyH_take (i := 12) (oi := { dst := some 42, op := Op.move (Operand.tmp 41), type := 4, pos := "ref.go:333", after := #[{ on := 11, ground := Ground.data }, { on := 6, ground := Ground.chain }], guard := none }) (v := ?hdv13) rfl (by kernel_rfl) (by kernel_rfl) (by kernel_rfl) (fun _ _ _ h => h) (Or.inl ⟨by rfl, ?hdy13⟩) (by assumption) ?hdr13
          case hdy13 => (intro w hSw; (try dsimp only at hSw); go_simp; (try with_reducible rfl))
          try simp only [Act.put, List.setIfInBounds_toArray, List.set_cons_zero, List.set_cons_succ]
          refine wpAnyH_take (i := 13) (oi := { dst := some 43, op := Op.move (Operand.tmp 2), type := 23, pos := "ref.go:333", after := #[{ on := 12, ground := Ground.guard }], guard := some (12, false) }) (v := undef) rfl (by kernel_rfl) (by kernel_rfl) (by kernel_rfl) (fun _ _ _ h => h) (Or.inr ⟨by rfl, rfl⟩) (by assumption) ?_
          try simp only [Act.put, List.setIfInBounds_toArray, List.set_cons_zero, List.set_cons_succ]
          refine wpAnyH_take (i := 14) (oi := { dst := some 44, op := Op.move (Operand.tmp 9), type := 28, pos := "ref.go:333", after := #[{ on := 12, ground := Ground.guard }], guard := some (12, false) }) (v := undef) rfl (by kernel_rfl) (by kernel_rfl) (by kernel_rfl) (fun _ _ _ h => h) (Or.inr ⟨by rfl, rfl⟩) (by assumption) ?_
          try simp only [Act.put, List.setIfInBounds_toArray, List.set_cons_zero, List.set_cons_succ]
          refine wpAnyH_take (i := 15) (oi := { dst := some 45, op := Op.indexAddr 23 (Operand.tmp 43) (Operand.tmp 44), type := 0, pos := "ref.go:333", after := #[{ on := 13, ground := Ground.data }, { on := 14, ground := Ground.data }, { on := 12, ground := Ground.guard }], guard := some (12, false) }) (v := undef) rfl (by kernel_rfl) (by kernel_rfl) (by kernel_rfl) (fun _ _ _ h => h) (Or.inr ⟨by rfl, rfl⟩) (by assumption) ?_
          try simp only [Act.put, List.setIfInBounds_toArray, List.set_cons_zero, List.set_cons_succ]
          refine wpAnyH_take (i := 16) (oi := { dst := some 46, op := Op.indexAddr 56 (Operand.tmp 45) (Operand.const (Value.int IntKind.i64 0)), type := 0, pos := "ref.go:333", after := #[{ on := 15, ground := Ground.data }, { on := 12, ground := Ground.guard }], guard := some (12, false) }) (v := undef) rfl (by kernel_rfl) (by kernel_rfl) (by kernel_rfl) (fun _ _ _ h => h) (Or.inr ⟨by rfl, rfl⟩) (by assumption) ?_
          try simp only [Act.put, List.setIfInBounds_toArray, List.set_cons_zero, List.set_cons_succ]
          refine wpAnyH_take (i := 17) (oi := { dst := some 47, op := Op.load 28 (Operand.tmp 46), type := 28, pos := "ref.go:333", after := #[{ on := 16, ground := Ground.data }, { on := 12, ground := Ground.guard }], guard := some (12, false) }) (v := undef) rfl (by kernel_rfl) (by kernel_rfl) (by kernel_rfl) (fun _ _ _ h => h) (Or.inr ⟨by rfl, rfl⟩) (by assumption) ?_
          try simp only [Act.put, List.setIfInBounds_toArray, List.set_cons_zero, List.set_cons_succ]
          refine wpAnyH_take (i := 18) (oi := { dst := some 48, op := Op.move (Operand.tmp 9), type := 28, pos := "ref.go:333", after := #[{ on := 12, ground := Ground.guard }], guard := some (12, false) }) (v := undef) rfl (by kernel_rfl) (by kernel_rfl) (by kernel_rfl) (fun _ _ _ h => h) (Or.inr ⟨by rfl, rfl⟩) (by assumption) ?_
          try simp only [Act.put, List.setIfInBounds_toArray, List.set_cons_zero, List.set_cons_succ]
          refine wpAnyH_take (i := 19) (oi := { dst := some 49, op := Op.binOp BinOp.neq 28 (Operand.tmp 47) (Operand.tmp 48) 28, type := 4, pos := "ref.go:333", after := #[{ on := 17, ground := Ground.data }, { on := 18, ground := Ground.data }, { on := 12, ground := Ground.guard }], guard := some (12, false) }) (v := undef) rfl (by kernel_rfl) (by kernel_rfl) (by kernel_rfl) (fun _ _ _ h => h) (Or.inr ⟨by rfl, rfl⟩) (by assumption) ?_
          try simp only [Act.put, List.setIfInBounds_toArray, List.set_cons_zero, List.set_cons_succ]
          refine wpAnyH_take (i := 20) (oi := { dst := some 50, op := Op.pick (Operand.tmp 42) (Operand.const (Value.bool true)) (Operand.tmp 49), type := 4, pos := "ref.go:333", after := #[{ on := 12, ground := Ground.data }, { on := 19, ground := Ground.data }], guard := none }) (v := ?hdv21) rfl (by kernel_rfl) (by kernel_rfl) (by kernel_rfl) (fun _ _ _ h => h) (Or.inl ⟨by rfl, ?hdy21⟩) (by assumption) ?hdr21
          case hdy21 => (intro w hSw; (try dsimp only at hSw); go_simp; (try with_reducible rfl))
          try simp only [Act.put, List.setIfInBounds_toArray, List.set_cons_zero, List.set_cons_succ]
          refine wpAnyH_ready (rs := [21]) (by kernel_rfl) (by simp) ?_
          refine AllReadyH.cons (o := { dst := some 51, op := Op.call { callee := Callee.value (Operand.func 44), args := #[Operand.tmp 30, Operand.tmp 31, Operand.const (Value.int IntKind.i64 1), Operand.tmp 50], argTypes := #[82, 3, 3, 4] }, type := 0, pos := "ref.go:333", after := #[{ on := 0, ground := Ground.data }, { on := 1, ground := Ground.data }, { on := 20, ground := Ground.data }, { on := 12, ground := Ground.chain }], guard := none }) rfl (fun K hK => ?_) AllReadyH.nil
          go_simp
          ((with_reducible refine Calls.mono (note_any g n k 1 true R _ HR.out.rg.drawn hRl hlt) ?_); rintro e w2 ⟨⟨x2, rfl⟩, hd2, hc2⟩; (try go_wp2_with fail))
          refine Shut.out hK _ _ ?_ (fun hHeldN => ?_)
          · (exact fun b o hg hb => cell_heap (w := World.drew wr) (a := ⟨b, o, none⟩) (hc2.block b hb hg))
          ((try clear hK K); (try clear hHeld))
          try simp only [Act.put, List.setIfInBounds_toArray, List.set_cons_zero, List.set_cons_succ]
          clear hHeldN
          refine wpAnyH_done (by kernel_rfl) ?_ _
          go_wp2
          go_roundg (gk - 1)
          case measure => omega
          case rel => exact ⟨k + 1, _, by omega, by go_num, Lib.hid (HR.out.go hd2 hc2), H1.out⟩
        · have h1' : ¬ (k : Int) < (lab ss k : Nat) := by omega
          have h2' : ¬ (n : Int) ≤ (lab ss k : Nat) := by omega
          have h3' : (lab ss k : Int) < n := by omega
          have h4' : (0 : Int) ≤ (lab ss k : Nat) := Int.natCast_nonneg _
          have c1 : wr.cell? ⟨sb, so + lab ss k * 8, none⟩ = some (.int .u64 (lab ss (lab ss k) : Nat)) := by have := hsr.c0 (lab ss k) (by rw [HSS.out]; omega); rwa [lab_get] at this
          clear hsr
          by_cases h5 : lab ss (lab ss k) = lab ss k
          · have h5' : ((lab ss (lab ss k) : Int) != (lab ss k : Int)) = false := by rw [bne_eq_false_iff_eq]; omega
            have H1 := Lib.hid (HB.out false (by rw [HLU.out, decide_eq_false h1, h5]; simp))
            clear HB HLU h1 h5
            generalize lab ss (lab ss k) = t at *
            generalize lab ss k = y at *
            go_upto_region 6 with fail
            go_region_held3 (fun wz => ∀ b o, b ≠ g → b < wr.heap.size → wz.cell? ⟨b, o, none⟩ = wr.cell? ⟨b, o, none⟩)
              (first | (intro b o _ _; rfl) | (intro b o hg hb; exact cell_heap (w := World.drew wr) (a := ⟨b, o, none⟩) (hc2.block b hb hg)))
              (((with_reducible refine Calls.mono (note_any g n k 1 false R _ HR.out.rg.drawn hRl hlt) ?_); rintro e w2 ⟨⟨x2, rfl⟩, hd2, hc2⟩))
            repeat (rename (∀ b o, b ≠ g → b < wr.heap.size → World.cell? _ ⟨b, o, none⟩ = _) => hSS; clear hSS)
            go_wp2
            go_roundg (gk - 1)
            case measure => omega
            case rel => exact ⟨k + 1, _, by omega, by go_num, Lib.hid (HR.out.go hd2 hc2), H1.out⟩
          · have h5' : ((lab ss (lab ss k) : Int) != (lab ss k : Int)) = true := by rw [bne_iff_ne]; omega
            have H1 := Lib.hid (HB.out true (by rw [HLU.out, decide_eq_false h1]; simp [h5]))
            clear HB HLU h1 h5
            generalize lab ss (lab ss k) = t at *
            generalize lab ss k = y at *
            go_upto_region 6 with fail
            go_region_held3 (fun wz => ∀ b o, b ≠ g → b < wr.heap.size → wz.cell? ⟨b, o, none⟩ = wr.cell? ⟨b, o, none⟩)
              (first | (intro b o _ _; rfl) | (intro b o hg hb; exact cell_heap (w := World.drew wr) (a := ⟨b, o, none⟩) (hc2.block b hb hg)))
              (((with_reducible refine Calls.mono (note_any g n k 1 true R _ HR.out.rg.drawn hRl hlt) ?_); rintro e w2 ⟨⟨x2, rfl⟩, hd2, hc2⟩))
            repeat (rename (∀ b o, b ≠ g → b < wr.heap.size → World.cell? _ ⟨b, o, none⟩ = _) => hSS; clear hSS)
            go_wp2
            go_roundg (gk - 1)
            case measure => omega
            case rel => exact ⟨k + 1, _, by omega, by go_num, Lib.hid (HR.out.go hd2 hc2), H1.out⟩
      · obtain rfl : k = n := by omega
        go_wp2
        go_meet
        exact ⟨R, HR.out, HT.out⟩
  case rest =>
    obtain ⟨R1, hR1, hT1⟩ := hcut
    clear HR1
    have HR1 := Lib.hid hR1
    have HT1 := Lib.hid hT1
    have hbw1 := hR1.rb
    have hsA := hs.below hbw1 (fun _ => hsl)
    have hEA := hE.below hbw1 hE.lt
    clear hR1 hT1 hbw1
    go_upto_block 2 with (first | (go_at_call 45; ((with_reducible refine (within_any n sb so sc ec eb eo _ ea es ss false _ hsA hEA HSS.out hn hn1 hlen hva).mono ?_); rintro e wA ⟨gA, LA, rfl, hkA, hlA, hmA, hzA, hbA⟩; have hsB := hsA.below hbA hsA.lt; have hEB := hEA.below hbA hEA.lt)) | (go_at_call 45; ((with_reducible refine (within_any n sb so sc ec eb eo _ ea es ss true _ hsB hEB HSS.out hn hn1 hlen hva).mono ?_); rintro e wB ⟨gB, LB, rfl, hkB, hlB, hmB, hzB, hbB⟩)))
    have HR2 := Lib.hid ((HR1.out.below hbA).below hbB)
    have hA2 := hkA.below hbB hkA.lt
    have hgA : gA ≠ g ∧ gB ≠ g := ⟨by have := HR1.out.rg.lt; omega, by have := HR1.out.rg.lt; have := hbA.size; omega⟩
    have HAB := Lib.hid (And.intro hA2 hkB)
    have hmm : ∀ v, v < n → ((LA.getD v false = true ∧ LB.getD v false = true) ↔ (Fwd ss es n v ∧ Bwd ss es n v)) := fun v hv => by rw [hmA v hv, hmB v hv, Rch.fwd, Rch.bwd]
    have HMM := Lib.hid hmm
    clear hmm hmA hmB hkA hkB hA2 hbA hbB hsA hEA hsB hEB hzA hzB HR1
    go_cut [12] (fun _ wx => ∃ R, Hid (RefW w g fb vb n R wx) ∧ Hid (Tells R n (fun v r => (False ∨ (v < n ∧ r = 1 ∧ badLabel ss v (lab ss v) = true)) ∨ (v < n ∧ r = 2 ∧ ¬ (Fwd ss es n v ∧ Bwd ss es n v)))))
    case first =>
      go_wp2_with fail
      go_loopg [12] n (fun gk i wr => ∃ (k : Nat) (R : List Nat), k + gk = n ∧ i = .int .i64 k ∧ Hid (RefW w g fb vb n R wr) ∧ Hid (isBlk wr gA 4 (boolL LA) ∧ isBlk wr gB 4 (boolL LB)) ∧ Hid (Tells R n (fun v r => (False ∨ (v < n ∧ r = 1 ∧ badLabel ss v (lab ss v) = true)) ∨ (v < k ∧ r = 2 ∧ ¬ (Fwd ss es n v ∧ Bwd ss es n v)))))
      case atStart => exact ⟨0, R1, by omega, rfl, HR2, HAB, Lib.hid (HT1.out.congr (fun v r => ⟨Or.inl, fun h => h.elim id (fun h => absurd h.1 (Nat.not_lt_zero v))⟩))⟩
      case round =>
        clear HR2 HAB HT1
        obtain ⟨k, R, hk, rfl, HR, HAB, HT⟩ := hrel
        have hRl := HT.out.1
        by_cases hlt : k < n
        · have i1 : (k : Int) < n := by omega
          have i2 : (0 : Int) ≤ k := Int.natCast_nonneg _
          have hgk : 0 < gk := by omega
          have hfl := HR.out.rf.lt
          have hgl := HR.out.rg.lt
          have hfg := HR.out.n2.1
          have hAl := HAB.out.1.lt
          have hBl := HAB.out.2.lt
          have hgA1 := hgA.1
          have hgB1 := hgA.2
          have cf : wr.cell? ⟨fb, 0, none⟩ = some (.slice (some ⟨g, 0, none⟩) n n) := HR.out.rf.cell 0
          have cA : wr.cell? ⟨gA, k, none⟩ = some (.bool (LA.getD k false)) := by rw [HAB.out.1.cell k]; exact boolL_get LA k (by omega)
          have cB : wr.cell? ⟨gB, k, none⟩ = some (.bool (LB.getD k false)) := by rw [HAB.out.2.cell k]; exact boolL_get LB k (by omega)
          have hbl : ∀ b : Bool, (b = true ↔ ¬ (LA.getD k false = true ∧ LB.getD k false = true)) → Tells (noteL R k 2 b) n (fun v r => (False ∨ (v < n ∧ r = 1 ∧ badLabel ss v (lab ss v) = true)) ∨ (v < k + 1 ∧ r = 2 ∧ ¬ (Fwd ss es n v ∧ Bwd ss es n v))) := fun b hb => HT.out.next (by decide) hlt (by rw [hb, HMM.out k hlt])
          have HB := Lib.hid hbl
          have hkeep : ∀ w2, Chg (fun j => j = g) wr.drew w2 → isBlk w2 gA 4 (boolL LA) ∧ isBlk w2 gB 4 (boolL LB) := fun w2 hc => ⟨(hc.block _ hAl hgA1).trans HAB.out.1, (hc.block _ hBl hgB1).trans HAB.out.2⟩
          have HK := Lib.hid hkeep
          clear hbl hkeep hgA
          generalize LA.getD k false = bA at *
          generalize LB.getD k false = bB at *
          cases bA
          · have H1 := Lib.hid (HB.out true (by simp))
            clear HB
            go_upto_region 12 with fail
            refine wp_region_held_drew (S := fun wz => ∀ b o, b ≠ g → b < wr.heap.size → wz.cell? ⟨b, o, none⟩ = wr.cell? ⟨b, o, none⟩) (by kernel_rfl) (fun b o _ _ => rfl) (fun hHeld => ?_)
            refine wpAnyH_take (i := 0) (oi := { dst := some 66, op := Op.load 82 (Operand.tmp 7), type := 82, pos := "ref.go:338", after := #[], guard := none }) (v := ?hdv22) rfl (by kernel_rfl) (by kernel_rfl) (by kernel_rfl) (fun _ _ _ h => h) (Or.inl ⟨by rfl, ?hdy22⟩) (by assumption) ?hdr22
            case hdy22 => (intro w hSw; (try dsimp only at hSw); go_simp; (try with_reducible rfl))
            try simp only [Act.put, List.setIfInBounds_toArray, List.set_cons_zero, List.set_cons_succ]
            refine wpAnyH_take (i := 1) (oi := { dst := some 67, op := Op.move (Operand.tmp 12), type := 3, pos := "ref.go:338", after := #[], guard := none }) (v := ?hdv23) rfl (by kernel_rfl) (by kernel_rfl) (by kernel_rfl) (fun _ _ _ h => h) (Or.inl ⟨by rfl, ?hdy23⟩) (by assumption) ?hdr23
            case hdy23 => (intro w hSw; (try dsimp only at hSw); go_simp; (try with_reducible rfl))
            try simp only [Act.put, List.setIfInBounds_toArray, List.set_cons_zero, List.set_cons_succ]
            refine wpAnyH_take (i := 2) (oi := { dst := some 68, op := Op.move (Operand.tmp 10), type := 85, pos := "ref.go:338", after := #[], guard := none }) (v := ?hdv24) rfl (by kernel_rfl) (by kernel_rfl) (by kernel_rfl) (fun _ _ _ h => h) (Or.inl ⟨by rfl, ?hdy24⟩) (by assumption) ?hdr24
            case hdy24 => (intro w hSw; (try dsimp only at hSw); go_simp; (try with_reducible rfl))
            try simp only [Act.put, List.setIfInBounds_toArray, List.set_cons_zero, List.set_cons_succ]
            refine wpAnyH_take (i := 3) (oi := { dst := some 69, op := Op.move (Operand.tmp 12), type := 3, pos := "ref.go:338", after := #[], guard := none }) (v := ?hdv25) rfl (by kernel_rfl) (by kernel_rfl) (by kernel_rfl) (fun _ _ _ h => h) (Or.inl ⟨by rfl, ?hdy25⟩) (by assumption) ?hdr25
            case hdy25 => (intro w hSw; (try dsimp only at hSw); go_simp; (try with_reducible rfl))
            try simp only [Act.put, List.setIfInBounds_toArray, List.set_cons_zero, List.set_cons_succ]
            refine wpAnyH_take (i := 4) (oi := { dst := some 70, op := Op.indexAddr 85 (Operand.tmp 68) (Operand.tmp 69), type := 0, pos := "ref.go:338", after := #[{ on := 2, ground := Ground.data }, { on := 3, ground := Ground.data }], guard := none }) (v := ?hdv26) rfl (by kernel_rfl) (by kernel_rfl) (by kernel_rfl) (fun _ _ _ h => h) (Or.inl ⟨by rfl, ?hdy26⟩) (by assumption) ?hdr26
            case hdy26 => (intro w hSw; (try dsimp only at hSw); go_simp; (try with_reducible rfl))
            try simp only [Act.put, List.setIfInBounds_toArray, List.set_cons_zero, List.set_cons_succ]
            refine wpAnyH_take (i := 5) (oi := { dst := some 71, op := Op.load 4 (Operand.tmp 70), type := 4, pos := "ref.go:338", after := #[{ on := 4, ground := Ground.data }], guard := none }) (v := ?hdv27) rfl (by kernel_rfl) (by kernel_rfl) (by kernel_rfl) (fun _ _ _ h => h) (Or.inl ⟨by rfl, ?hdy27⟩) (by assumption) ?hdr27
            case hdy27 => (intro w hSw; (try dsimp only at hSw); go_simp; (try with_reducible rfl))
            try simp only [Act.put, List.setIfInBounds_toArray, List.set_cons_zero, List.set_cons_succ]
            refine wpAnyH_take (i := 6) (oi := { dst := some 72, op := Op.unOp UnOp.not 4 (Operand.tmp 71), type := 4, pos := "ref.go:338", after := #[{ on := 5, ground := Ground.data }], guard := none }) (v := ?hdv28) rfl (by kernel_rfl) (by kernel_rfl) (by kernel_rfl) (fun _ _ _ h => h) (Or.inl ⟨by rfl, ?hdy28⟩) (by assumption) ?hdr28
            case hdy28 => (intro w hSw; (try dsimp only at hSw); go_simp; (try with_reducible rfl))
            try simp only [Act.put, List.setIfInBounds_toArray, List.set_cons_zero, List.set_cons_succ]
            refine wpAnyH_take (i := 7) (oi := { dst := some 73, op := Op.move (Operand.tmp 72), type := 4, pos := "ref.go:338", after := #[{ on := 6, ground := Ground.data }], guard := none }) (v := ?hdv29) rfl (by kernel_rfl) (by kernel_rfl) (by kernel_rfl) (fun _ _ _ h => h) (Or.inl ⟨by rfl, ?hdy29⟩) (by assumption) ?hdr29
            case hdy29 => (intro w hSw; (try dsimp only at hSw); go_simp; (try with_reducible rfl))
            try simp only [Act.put, List.setIfInBounds_toArray, List.set_cons_zero, List.set_cons_succ]
            refine wpAnyH_take (i := 8) (oi := { dst := some 74, op := Op.move (Operand.tmp 11), type := 85, pos := "ref.go:338", after := #[{ on := 7, ground := Ground.guard }], guard := some (7, false) }) (v := undef) rfl (by kernel_rfl) (by kernel_rfl) (by kernel_rfl) (fun _ _ _ h => h) (Or.inr ⟨by rfl, rfl⟩) (by assumption) ?_
            try simp only [Act.put, List.setIfInBounds_toArray, List.set_cons_zero, List.set_cons_succ]
            refine wpAnyH_take (i := 9) (oi := { dst := some 75, op := Op.move (Operand.tmp 12), type := 3, pos := "ref.go:338", after := #[{ on := 7, ground := Ground.guard }], guard := some (7, false) }) (v := undef) rfl (by kernel_rfl) (by kernel_rfl) (by kernel_rfl) (fun _ _ _ h => h) (Or.inr ⟨by rfl, rfl⟩) (by assumption) ?_
            try simp only [Act.put, List.setIfInBounds_toArray, List.set_cons_zero, List.set_cons_succ]
            refine wpAnyH_take (i := 10) (oi := { dst := some 76, op := Op.indexAddr 85 (Operand.tmp 74) (Operand.tmp 75), type := 0, pos := "ref.go:338", after := #[{ on := 8, ground := Ground.data }, { on := 9, ground := Ground.data }, { on := 7, ground := Ground.guard }], guard := some (7, false) }) (v := undef) rfl (by kernel_rfl) (by kernel_rfl) (by kernel_rfl) (fun _ _ _ h => h) (Or.inr ⟨by rfl, rfl⟩) (by assumption) ?_
            try simp only [Act.put, List.setIfInBounds_toArray, List.set_cons_zero, List.set_cons_succ]
            refine wpAnyH_take (i := 11) (oi := { dst := some 77, op := Op.load 4 (Operand.tmp 76), type := 4, pos := "ref.go:338", after := #[{ on := 10, ground := Ground.data }, { on := 7, ground := Ground.guard }], guard := some (7, false) }) (v := undef) rfl (by kernel_rfl) (by kernel_rfl) (by kernel_rfl) (fun _ _ _ h => h) (Or.inr ⟨by rfl, rfl⟩) (by assumption) ?_
            try simp only [Act.put, List.setIfInBounds_toArray, List.set_cons_zero, List.set_cons_succ]
            refine wpAnyH_take (i := 12) (oi := { dst := some 78, op := Op.unOp UnOp.not 4 (Operand.tmp 77), type := 4, pos := "ref.go:338", after := #[{ on := 11, ground := Ground.data }, { on := 7, ground := Ground.guard }], guard := some (7, false) }) (v := undef) rfl (by kernel_rfl) (by kernel_rfl) (by kernel_rfl) (fun _ _ _ h => h) (Or.inr ⟨by rfl, rfl⟩) (by assumption) ?_
            try simp only [Act.put, List.setIfInBounds_toArray, List.set_cons_zero, List.set_cons_succ]
            refine wpAnyH_take (i := 13) (oi := { dst := some 79, op := Op.pick (Operand.tmp 73) (Operand.const (Value.bool true)) (Operand.tmp 78), type := 4, pos := "ref.go:338", after := #[{ on := 7, ground := Ground.data }, { on := 12, ground := Ground.data }], guard := none }) (v := ?hdv35) rfl (by kernel_rfl) (by kernel_rfl) (by kernel_rfl) (fun _ _ _ h => h) (Or.inl ⟨by rfl, ?hdy35⟩) (by assumption) ?hdr35
            case hdy35 => (intro w hSw; (try dsimp only at hSw); go_simp; (try with_reducible rfl))
            try simp only [Act.put, List.setIfInBounds_toArray, List.set_cons_zero, List.set_cons_succ]
            refine wpAnyH_ready (rs := [14]) (by kernel_rfl) (by simp) ?_
            refine AllReadyH.cons (o := { dst := some 80, op := Op.call { callee := Callee.value (Operand.func 44), args := #[Operand.tmp 66, Operand.tmp 67, Operand.const (Value.int IntKind.i64 2), Operand.tmp 79], argTypes := #[82, 3, 3, 4] }, type := 0, pos := "ref.go:338", after := #[{ on := 0, ground := Ground.data }, { on := 1, ground := Ground.data }, { on := 13, ground := Ground.data }, { on := 7, ground := Ground.chain }], guard := none }) rfl (fun K hK => ?_) AllReadyH.nil
            go_simp
            ((with_reducible refine Calls.mono (note_any g n k 2 true R _ HR.out.rg.drawn hRl hlt) ?_); rintro e w2 ⟨⟨x2, rfl⟩, hd2, hc2⟩; (try go_wp2_with fail))
            refine Shut.out hK _ _ ?_ (fun hHeldN => ?_)
            · (exact fun b o hg hb => cell_heap (w := World.drew wr) (a := ⟨b, o, none⟩) (hc2.block b hb hg))
            ((try clear hK K); (try clear hHeld))
            try simp only [Act.put, List.setIfInBounds_toArray, List.set_cons_zero, List.set_cons_succ]
            clear hHeldN
            refine wpAnyH_done (by kernel_rfl) ?_ _
            go_wp2
            go_roundg (gk - 1)
            case measure => omega
            case rel => exact ⟨k + 1, _, by omega, by go_num, Lib.hid (HR.out.go hd2 hc2), Lib.hid (HK.out _ hc2), H1⟩
          · cases bB
            · have H1 := Lib.hid (HB.out true (by simp))
              clear HB
              go_upto_region 12 with fail
              go_region_held3 (fun wz => ∀ b o, b ≠ g → b < wr.heap.size → wz.cell? ⟨b, o, none⟩ = wr.cell? ⟨b, o, none⟩)
                (first | (intro b o _ _; rfl) | (intro b o hg hb; exact cell_heap (w := World.drew wr) (a := ⟨b, o, none⟩) (hc2.block b hb hg)))
                (((with_reducible refine Calls.mono (note_any g n k 2 true R _ HR.out.rg.drawn hRl hlt) ?_); rintro e w2 ⟨⟨x2, rfl⟩, hd2, hc2⟩))
              repeat (rename (∀ b o, b ≠ g → b < wr.heap.size → World.cell? _ ⟨b, o, none⟩ = _) => hSS; clear hSS)
              go_wp2
              go_roundg (gk - 1)
              case measure => omega
              case rel => exact ⟨k + 1, _, by omega, by go_num, Lib.hid (HR.out.go hd2 hc2), Lib.hid (HK.out _ hc2), H1⟩
            · have H1 := Lib.hid (HB.out false (by simp))
              clear HB
              go_upto_region 12 with fail
              go_region_held3 (fun wz => ∀ b o, b ≠ g → b < wr.heap.size → wz.cell? ⟨b, o, none⟩ = wr.cell? ⟨b, o, none⟩)
                (first | (intro b o _ _; rfl) | (intro b o hg hb; exact cell_heap (w := World.drew wr) (a := ⟨b, o, none⟩) (hc2.block b hb hg)))
                (((with_reducible refine Calls.mono (note_any g n k 2 false R _ HR.out.rg.drawn hRl hlt) ?_); rintro e w2 ⟨⟨x2, rfl⟩, hd2, hc2⟩))
              repeat (rename (∀ b o, b ≠ g → b < wr.heap.size → World.cell? _ ⟨b, o, none⟩ = _) => hSS; clear hSS)
              go_wp2
              go_roundg (gk - 1)
              case measure => omega
              case rel => exact ⟨k + 1, _, by omega, by go_num, Lib.hid (HR.out.go hd2 hc2), Lib.hid (HK.out _ hc2), H1⟩
        · obtain rfl : k = n := by omega
          go_wp2
          go_meet
          exact ⟨R, HR, HT⟩
    case rest =>
      obtain ⟨R2, HR3, HT2⟩ := hcut
      clear HR2 HAB HT1 HMM hgA hlA hlB
      have hT2 : Tells R2 n (fun v r => v < n ∧ ((r = 1 ∧ badLabel ss v (lab ss v) = true) ∨ (r = 2 ∧ ¬ (Fwd ss es n v ∧ Bwd ss es n v)))) := HT2.out.congr (fun v r => by
        constructor
        · rintro ((h | ⟨h1, h2, h3⟩) | ⟨h1, h2, h3⟩)
          · exact h.elim
          · exact ⟨h1, Or.inl ⟨h2, h3⟩⟩
          · exact ⟨h1, Or.inr ⟨h2, h3⟩⟩
        · rintro ⟨h1, ⟨h2, h3⟩ | ⟨h2, h3⟩⟩
          · exact Or.inl (Or.inr ⟨h1, h2, h3⟩)
          · exact Or.inr ⟨h1, h2, h3⟩)
      have HT3 := Lib.hid hT2
      have hRl2 := hT2.1
      have cf : wc.cell? ⟨fb, 0, none⟩ = some (.slice (some ⟨g, 0, none⟩) n n) := HR3.out.rf.cell 0
      clear hT2 HT2
      go_upto_region 14 with (go_at_call 46; ((with_reducible refine (verdictR_any g n R2 _ HR3.out.rg hRl2 (by omega)).mono ?_); rintro e wv ⟨x, y, z, rfl, hv, hbv⟩))
      have hle := HT3.out.least hv
      have HLE := Lib.hid hle
      have HR4 := Lib.hid ((HR3.out.below hbv).below (Ball (o := .cells #[.bool x, .int .u32 y, .int .i64 z] 35) (Nat.le_refl _) (Below.refl _ wv)))
      have hke := isBlk.new wv 35 [.bool x, .int .u32 y, .int .i64 z]
      obtain ⟨W5, hW5⟩ : ∃ W5, wv.alloc (.cells #[.bool x, .int .u32 y, .int .i64 z] 35) = W5 := ⟨_, rfl⟩
      obtain ⟨eb2, heb⟩ : ∃ eb2, eb2 = wv.heap.size := ⟨_, rfl⟩
      rw [← heb] at hke
      rw [hW5] at HR4 hke
      rw [hW5, ← heb]
      have hev : vb ≠ eb2 := by have := HR3.out.rv.lt; have := hbv.size; omega
      clear hW5 heb hv hle hbv cf HR3
      have e0 : W5.cell? ⟨eb2, 0, none⟩ = some (.bool x) := hke.cell 0
      have e1 : W5.cell? ⟨eb2, 1, none⟩ = some (.int .u32 y) := hke.cell 1
      have e2 : W5.cell? ⟨eb2, 2, none⟩ = some (.int .i64 z) := hke.cell 2
      have hv5 := HR4.out.rv
      have v0 : W5.cell? ⟨vb, 0, none⟩ = some (.bool false) := hv5.cell 0
      have v1 : W5.cell? ⟨vb, 1, none⟩ = some (.int .u32 0) := hv5.cell 1
      have v2 : W5.cell? ⟨vb, 2, none⟩ = some (.int .i64 0) := hv5.cell 2
      have f0 := hv5.frozen 0
      have f1 := hv5.frozen 1
      have f2 := hv5.frozen 2
      have hvz := HR4.out.n1.2.2
      have HBW := Lib.hid HR4.out.rb
      cases x
      · go_wp2
        obtain ⟨hk9, hg9⟩ := set3 hv5 (.bool false) (.int .u32 y) (.int .i64 z)
        have r0 := hk9.cell 0
        have r1 := hk9.cell 1
        have r2 := hk9.cell 2
        refine bodyPost_ret (v := .agg #[.bool false, .int .u32 y, .int .i64 z]) (by simp (maxDischargeDepth := 8) [results, Try.results13, go_sem, r0, r1, r2]) rfl ?_
        refine ⟨false, y, z, rfl, ⟨⟨y, z⟩, HLE.out.1, scc_early HLE.out.2.1 (fun h => ?_)⟩, Bset hvz (Bset hvz (Bset hvz HBW.out))⟩
        have := HLE.out.2.2.2 h
        cases this
      · have hz0 := HLE.out.2.2.1 rfl
        obtain ⟨hlab, hlate⟩ := scc_late HLE.out.2.1 hz0
        have HLA := Lib.hid hlate
        have HZ := Lib.hid hz0
        have hs5 := hs.below HBW.out (fun _ => hsl)
        have hE5 := hE.below HBW.out hE.lt
        clear hlab hlate hz0 v0 v1 v2 f0 f1 f2 hv5
        have hgw5 := HR4.out.rg.lt
        go_upto_block 4 with (go_at_call 47; ((with_reducible refine (labels_step n sb so sc ec eb eo _ ea es ss _ hs5 hE5 HSS.out hn hn1 hlen hva).mono ?_); rintro e w6 ⟨ka, kc, kb, K, rfl, huK, hkz, hKl, hKm, hb6⟩))
        have HR6 := Lib.hid (HR4.out.below hb6)
        have hkg : 0 < K.length → kb ≠ g := fun h => by have := hkz h; omega
        have HU6 := Lib.hid huK
        have HKM := Lib.hid hKm
        clear hkz hKm huK hb6 hs5 hE5 HR4 hgw5 HBW e0 e1 e2
        go_cut [15, 16] (fun _ _ wx => ∃ R, Hid (RefW w g fb vb n R wx) ∧ Hid (Tells R n (fun v r => (v < n ∧ ((r = 1 ∧ badLabel ss v (lab ss v) = true) ∨ (r = 2 ∧ ¬ (Fwd ss es n v ∧ Bwd ss es n v)))) ∨ (v < n ∧ r = 3 ∧ lab ss v ∈ K))))
        case first =>
          go_wp2_with fail
          go_loopg [15, 16] n (fun gk i _ wr => ∃ (k : Nat) (R : List Nat), k + gk = n ∧ i = .int .i64 k ∧ Hid (RefW w g fb vb n R wr) ∧ Hid (IsU wr ka kb K) ∧ Hid (Tells R n (fun v r => (v < n ∧ ((r = 1 ∧ badLabel ss v (lab ss v) = true) ∨ (r = 2 ∧ ¬ (Fwd ss es n v ∧ Bwd ss es n v)))) ∨ (v < k ∧ r = 3 ∧ lab ss v ∈ K))))
          case atStart => exact ⟨0, R2, by omega, rfl, HR6, HU6, Lib.hid (HT3.out.congr (fun v r => ⟨Or.inl, fun h => h.elim id (fun h => absurd h.1 (Nat.not_lt_zero v))⟩))⟩
          case round =>
            clear HR6 HU6
            obtain ⟨k, R0, hk, rfl, HR0, HU0, HT0⟩ := hrel
            by_cases hlt : k < n
            · have i1 : (k : Int) < n := by omega
              have i2 : (0 : Int) ≤ k := Int.natCast_nonneg _
              obtain ⟨gq, rfl⟩ : ∃ gq : Nat, gq = gk := ⟨_, rfl⟩
              have hgq : 0 < gq := by omega
              go_upto_block 6 with fail
              go_wp2_with fail
              go_loopg [16] K.length (fun gk j wx => ∃ (m : Nat) (R : List Nat), m + gk = K.length ∧ j = .int .i64 m ∧ Hid (RefW w g fb vb n R wx) ∧ Hid (IsU wx ka kb K) ∧ Hid (Tells R n (fun v r => ((v < n ∧ ((r = 1 ∧ badLabel ss v (lab ss v) = true) ∨ (r = 2 ∧ ¬ (Fwd ss es n v ∧ Bwd ss es n v)))) ∨ (v < k ∧ r = 3 ∧ lab ss v ∈ K)) ∨ (v = k ∧ r = 3 ∧ ∃ i, i < m ∧ K.getD i 0 = lab ss k))))
              case atStart => exact ⟨0, R0, by omega, rfl, HR0, HU0, Lib.hid (HT0.out.congr (fun v r => ⟨Or.inl, fun h => h.elim id (fun h => by obtain ⟨_, _, i, hi, _⟩ := h; exact absurd hi (Nat.not_lt_zero i))⟩))⟩
              case round =>
                clear HR0 HU0 HT0
                obtain ⟨m, R, hm, rfl, HR, HU, HT⟩ := hrel
                have hRl := HT.out.1
                by_cases hmt : m < K.length
                · have j1 : (m : Int) < K.length := by omega
                  have j2 : (0 : Int) ≤ m := Int.natCast_nonneg _
                  have hgk : 0 < gk := by omega
                  have hfl := HR.out.rf.lt
                  have hgl := HR.out.rg.lt
                  have hfg := HR.out.n2.1
                  have hbw := HR.out.rb
                  have hsr := hs.below hbw (fun _ => hsl)
                  have hslr := hsr.lt (by rw [HSS.out]; omega)
                  have hkb := hkg (by omega)
                  have hkl := HU.out.lt (by omega)
                  have had := HU.out.ad (by omega)
                  subst had
                  have cf : wr.cell? ⟨fb, 0, none⟩ = some (.slice (some ⟨g, 0, none⟩) n n) := HR.out.rf.cell 0
                  have cK := HU.out.c m hmt
                  have c0 : wr.cell? ⟨sb, so + k * 8, none⟩ = some (.int .u64 (lab ss k : Nat)) := by have := hsr.c0 k (by rw [HSS.out]; exact hlt); rwa [lab_get] at this
                  have hbl : ∀ b : Bool, (b = true ↔ K.getD m 0 = lab ss k) → Tells (noteL R k 3 b) n (fun v r => ((v < n ∧ ((r = 1 ∧ badLabel ss v (lab ss v) = true) ∨ (r = 2 ∧ ¬ (Fwd ss es n v ∧ Bwd ss es n v)))) ∨ (v < k ∧ r = 3 ∧ lab ss v ∈ K)) ∨ (v = k ∧ r = 3 ∧ ∃ i, i < m + 1 ∧ K.getD i 0 = lab ss k)) := fun b hb => by
                    refine (HT.out.note k 3 b hlt (by decide)).congr (fun v r => ?_)
                    constructor
                    · rintro ((h | ⟨h1, h2, i, h3, h4⟩) | ⟨h1, h2, h3⟩)
                      · exact Or.inl h
                      · exact Or.inr ⟨h1, h2, i, by omega, h4⟩
                      · exact Or.inr ⟨h2, h3, m, by omega, hb.1 h1⟩
                    · rintro (h | ⟨h1, h2, i, h3, h4⟩)
                      · exact Or.inl (Or.inl h)
                      · by_cases e : i = m
                        · subst e; exact Or.inr ⟨hb.2 h4, h1, h2⟩
                        · exact Or.inl (Or.inr ⟨h1, h2, i, by omega, h4⟩)
                  have HB := Lib.hid hbl
                  have hkeep : ∀ w2, Chg (fun j => j = g) wr.drew w2 → IsU w2 (some ⟨kb, 0, none⟩) kb K := fun w2 hc => ⟨fun _ => rfl, fun _ => Nat.lt_of_lt_of_le hkl hc.size, fun j hj => (cell_heap (w := wr.drew) (a := ⟨kb, j, none⟩) (hc.block _ hkl hkb)).trans (HU.out.c j hj)⟩
                  have HK := Lib.hid hkeep
                  clear hbl hkeep hbw hsr
                  generalize lab ss k = yl at *
                  generalize K.getD m 0 = ym at *
                  by_cases h1 : ym = yl
                  · have h1' : ((ym : Int) == (yl : Int)) = true := by rw [beq_iff_eq]; omega
                    have H1 := Lib.hid (HB.out true (by simp [h1]))
                    clear HB h1
                    go_upto_region 23 with fail
                    go_region_held3 (fun wz => ∀ b o, b ≠ g → b < wr.heap.size → wz.cell? ⟨b, o, none⟩ = wr.cell? ⟨b, o, none⟩)
                      (first | (intro b o _ _; rfl) | (intro b o hg hb; exact cell_heap (w := World.drew wr) (a := ⟨b, o, none⟩) (hc2.block b hb hg)))
                      (((with_reducible refine Calls.mono (note_any g n k 3 true R _ HR.out.rg.drawn hRl hlt) ?_); rintro e w2 ⟨⟨x2, rfl⟩, hd2, hc2⟩))
                    repeat (rename (∀ b o, b ≠ g → b < wr.heap.size → World.cell? _ ⟨b, o, none⟩ = _) => hSS; clear hSS)
                    go_wp2
                    go_roundg (gk - 1)
                    case measure => omega
                    case rel => exact ⟨m + 1, _, by omega, by go_num, Lib.hid (HR.out.go hd2 hc2), Lib.hid (HK.out _ hc2), H1⟩
                  · have h1' : ((ym : Int) == (yl : Int)) = false := by rw [beq_eq_false_iff_ne]; omega
                    have H1 := Lib.hid (HB.out false (by simp [h1]))
                    clear HB h1
                    go_upto_region 23 with fail
                    go_region_held3 (fun wz => ∀ b o, b ≠ g → b < wr.heap.size → wz.cell? ⟨b, o, none⟩ = wr.cell? ⟨b, o, none⟩)
                      (first | (intro b o _ _; rfl) | (intro b o hg hb; exact cell_heap (w := World.drew wr) (a := ⟨b, o, none⟩) (hc2.block b hb hg)))
                      (((with_reducible refine Calls.mono (note_any g n k 3 false R _ HR.out.rg.drawn hRl hlt) ?_); rintro e w2 ⟨⟨x2, rfl⟩, hd2, hc2⟩))
                    repeat (rename (∀ b o, b ≠ g → b < wr.heap.size → World.cell? _ ⟨b, o, none⟩ = _) => hSS; clear hSS)
                    go_wp2
                    go_roundg (gk - 1)
                    case measure => omega
                    case rel => exact ⟨m + 1, _, by omega, by go_num, Lib.hid (HR.out.go hd2 hc2), Lib.hid (HK.out _ hc2), H1⟩
                · obtain rfl : m = K.length := by omega
                  have HN := Lib.hid (HT.out.congr (B' := fun v r => (v < n ∧ ((r = 1 ∧ badLabel ss v (lab ss v) = true) ∨ (r = 2 ∧ ¬ (Fwd ss es n v ∧ Bwd ss es n v)))) ∨ (v < k + 1 ∧ r = 3 ∧ lab ss v ∈ K)) (fun v r => by
                    have hmem : (∃ i, i < K.length ∧ K.getD i 0 = lab ss k) ↔ lab ss k ∈ K := by
                      constructor
                      · rintro ⟨i, h1, h2⟩
                        rw [List.getD_eq_getElem?_getD, List.getElem?_eq_getElem h1, Option.getD_some] at h2
                        rw [← h2]; exact List.getElem_mem h1
                      · intro h
                        obtain ⟨i, h1, h2⟩ := List.mem_iff_getElem.1 h
                        exact ⟨i, h1, by rw [List.getD_eq_getElem?_getD, List.getElem?_eq_getElem h1]; exact h2⟩
                    rw [hmem]
                    constructor
                    · rintro ((h | ⟨h1, h2, h3⟩) | ⟨h1, h2, h3⟩)
                      · exact Or.inl h
                      · exact Or.inr ⟨by omega, h2, h3⟩
                      · exact Or.inr ⟨by omega, h2, by rw [h1]; exact h3⟩
                    · rintro (h | ⟨h1, h2, h3⟩)
                      · exact Or.inl (Or.inl h)
                      · by_cases e : v = k
                        · exact Or.inr ⟨e, h2, by rw [← e]; exact h3⟩
                        · exact Or.inl (Or.inr ⟨by omega, h2, h3⟩)))
                  go_wp2
                  go_roundg (gq - 1)
                  case measure => omega
                  case rel => exact ⟨k + 1, R, by omega, by go_num, HR, HU, HN⟩
            · obtain rfl : k = n := by omega
              go_wp2
              go_meet
              exact ⟨R0, HR0, HT0⟩
        case rest =>
          obtain ⟨R7, HR7, HT7⟩ := hcut
          have hRl7 := HT7.out.1
          have cf : wc.cell? ⟨fb, 0, none⟩ = some (.slice (some ⟨g, 0, none⟩) n n) := HR7.out.rf.cell 0
          have hfin : ∀ f, Least f (fun v r => (v < n ∧ ((r = 1 ∧ badLabel ss v (lab ss v) = true) ∨ (r = 2 ∧ ¬ (Fwd ss es n v ∧ Bwd ss es n v)))) ∨ (v < n ∧ r = 3 ∧ lab ss v ∈ K)) → Least f (Bscc ss es n) := fun f hf => by
            refine Least.congr hf (fun v r => ?_)
            have h0 := HLA.out (fun v => decide (lab ss v ∈ K)) (fun v hv => by rw [decide_eq_true_iff]; exact HKM.out v hv)
            have hb := HLE.out.2.1
            have hz := HZ.out
            have hnone : ∀ v r, ¬ (v < n ∧ ((r = 1 ∧ badLabel ss v (lab ss v) = true) ∨ (r = 2 ∧ ¬ (Fwd ss es n v ∧ Bwd ss es n v)))) := by
              rcases hb with ⟨_, h2⟩ | ⟨h1, _⟩
              · exact h2
              · exact absurd hz h1
            have hall : ∀ u, u < n → badLabel ss u (lab ss u) = false ∧ Fwd ss es n u ∧ Bwd ss es n u := fun u hu => by
              refine ⟨?_, ?_⟩
              · cases hb2 : badLabel ss u (lab ss u)
                · rfl
                · exact absurd ⟨hu, Or.inl ⟨rfl, hb2⟩⟩ (hnone u 1)
              · exact Classical.byContradiction fun hc => hnone u 2 ⟨hu, Or.inr ⟨rfl, hc⟩⟩
            constructor
            · rintro (h1 | ⟨h1, h2, h3⟩)
              · exact absurd h1 (hnone v r)
              · exact ⟨h1, Or.inr (Or.inr ⟨h2, hall, (HKM.out v h1).1 h3⟩)⟩
            · rintro ⟨h1, h2 | h2 | ⟨h2, _, h3⟩⟩
              · exact absurd ⟨h1, Or.inl h2⟩ (hnone v r)
              · exact absurd ⟨h1, Or.inr h2⟩ (hnone v r)
              · exact Or.inr ⟨h1, h2, (HKM.out v h1).2 h3⟩
          have HFI := Lib.hid hfin
          clear hfin
          go_wp2_with (go_at_call 46; ((with_reducible refine (verdictR_any g n R7 _ HR7.out.rg hRl7 (by omega)).mono ?_); rintro e wv ⟨x, y, z, rfl, hv, hbv⟩; have HV := Lib.hid hv; clear hv; have hv5 := (HR7.out.below hbv).rv; have v0 : wv.cell? ⟨vb, 0, none⟩ = some (.bool false) := hv5.cell 0; have v1 : wv.cell? ⟨vb, 1, none⟩ = some (.int .u32 0) := hv5.cell 1; have v2 : wv.cell? ⟨vb, 2, none⟩ = some (.int .i64 0) := hv5.cell 2; have f0 := hv5.frozen 0; have f1 := hv5.frozen 1; have f2 := hv5.frozen 2))
          obtain ⟨hk9, hg9⟩ := set3 hv5 (.bool x) (.int .u32 y) (.int .i64 z)
          have r0 := hk9.cell 0
          have r1 := hk9.cell 1
          have r2 := hk9.cell 2
          refine bodyPost_ret (v := .agg #[.bool x, .int .u32 y, .int .i64 z]) (by simp (maxDischargeDepth := 8) [results, Try.results13, go_sem, r0, r1, r2]) rfl ?_
          have hle := HT7.out.least HV.out
          exact ⟨x, y, z, rfl, ⟨⟨y, z⟩, hle.1, HFI.out _ hle.2.1⟩, Bset hvz (Bset hvz (Bset hvz (HR7.out.below hbv).rb))⟩

end Go.Proofs.Ytohmeobfiomfdaa
