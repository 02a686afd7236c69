/-
  The closures of an audit of strong components.
-/
import Derived.Test.YtohmeobfiomfdaaHeld
namespace Go.Proofs.Ytohmeobfiomfdaa
open Go.RowKit
set_option maxRecDepth 100000
set_option linter.unusedSimpArgs false

/-- Words at the start of a block. -/
structure Wds (w : World) (rb : Nat) (l : List Nat) : Prop where
  lt : rb < w.heap.size
  c : ∀ j (h : j < l.length), w.cell? ⟨rb, j, none⟩ = some (.int .u64 l[j])
  f : ∀ j, w.frozen? ⟨rb, j, none⟩ = false

theorem Wds.keep {w w' : World} {rb : Nat} {l : List Nat} (h : Wds w rb l) (hk : w'.heap[rb]? = w.heap[rb]?) (hz : w.heap.size ≤ w'.heap.size) : Wds w' rb l where
  lt := Nat.lt_of_lt_of_le h.lt hz
  c := fun j hj => by rw [← h.c j hj]; exact cell_heap (a := ⟨rb, j, none⟩) hk
  f := fun j => by rw [← h.f j]; exact frozen_heap (a := ⟨rb, j, none⟩) hk
theorem Wds.other {w : World} {rb : Nat} {l : List Nat} (h : Wds w rb l) {p : Addr} {v : Value} (hp : rb ≠ p.block) : Wds (w.setCell p v) rb l :=
  h.keep (Below.heap_setCell _ _ _ _ hp) (by simp)
theorem Wds.all {w : World} {rb : Nat} {l : List Nat} (h : Wds w rb l) (o : Obj) : Wds (w.alloc o) rb l := h.keep (Below.heap_alloc _ _ _ h.lt) (by simp)
theorem Wds.set {w : World} {rb : Nat} {l : List Nat} (h : Wds w rb l) (i v : Nat) (hi : i < l.length) : Wds (w.setCell ⟨rb, i, none⟩ (.int .u64 v)) rb (l.set i v) where
  lt := by simpa using h.lt
  c := fun j hj => by
    rw [List.length_set] at hj
    by_cases hij : i = j
    · subst hij
      rw [List.getElem_set_self]
      exact World.cell?_setCell_same' _ _ _ (by rw [h.c i hi]; rfl)
    · rw [List.getElem_set_ne hij, World.cell?_setCell_other (h := fun e => by cases e; exact hij rfl) ..]
      exact h.c j hj
  f := fun j => by rw [World.frozen?_setCell]; exact h.f j

/-- What a closure of an audit of strong components sees. -/
structure Env (w : World) (pb qb tb bb db sb so rb n cs ct cb : Nat) (ss : List St) : Prop where
  p : w.cell? ⟨pb, 0, none⟩ = some (.pointer (some ⟨db, 0, none⟩))
  q : w.cell? ⟨qb, 0, none⟩ = some (.slice (some ⟨sb, so, none⟩) n cs)
  t : w.cell? ⟨tb, 0, none⟩ = some (.slice (some ⟨rb, 0, none⟩) n ct)
  b : w.cell? ⟨bb, 0, none⟩ = some (.slice (some ⟨rb, n, none⟩) n cb)
  s : IsSts w (some ⟨sb, so, none⟩) sb so ss
  np : pb ≠ db ∧ pb ≠ rb
  nq : qb ≠ db ∧ qb ≠ rb
  nt : tb ≠ db ∧ tb ≠ rb
  nb : bb ≠ db ∧ bb ≠ rb
  ns : 0 < ss.length → sb ≠ db ∧ sb ≠ rb
  nd : db ≠ rb
/-- The blocks that an audit writes. -/
def Two (db rb : Nat) : Nat → Prop := fun j => j = db ∨ j = rb

theorem Env.keep {w w' : World} {pb qb tb bb db sb so rb n cs ct cb : Nat} {ss : List St} (h : Env w pb qb tb bb db sb so rb n cs ct cb ss) (hk : ∀ j, j < w.heap.size → j ≠ db → j ≠ rb → w'.heap[j]? = w.heap[j]?) (hz : w.heap.size ≤ w'.heap.size) : Env w' pb qb tb bb db sb so rb n cs ct cb ss where
  p := (cell_heap (a := ⟨pb, 0, none⟩) (hk _ (World.block_lt_of_cell? w _ h.p) h.np.1 h.np.2)).trans h.p
  q := (cell_heap (a := ⟨qb, 0, none⟩) (hk _ (World.block_lt_of_cell? w _ h.q) h.nq.1 h.nq.2)).trans h.q
  t := (cell_heap (a := ⟨tb, 0, none⟩) (hk _ (World.block_lt_of_cell? w _ h.t) h.nt.1 h.nt.2)).trans h.t
  b := (cell_heap (a := ⟨bb, 0, none⟩) (hk _ (World.block_lt_of_cell? w _ h.b) h.nb.1 h.nb.2)).trans h.b
  s := h.s.keep (fun h0 => hk _ (h.s.lt h0) (h.ns h0).1 (h.ns h0).2) hz
  np := h.np
  nq := h.nq
  nt := h.nt
  nb := h.nb
  ns := h.ns
  nd := h.nd
theorem Env.chg {w w' : World} {pb qb tb bb db sb so rb n cs ct cb : Nat} {ss : List St} (h : Env w pb qb tb bb db sb so rb n cs ct cb ss) (hc : Chg (Two db rb) w w') : Env w' pb qb tb bb db sb so rb n cs ct cb ss :=
  h.keep (fun j hj h1 h2 => hc.block j hj (fun e => e.elim h1 h2)) hc.size


theorem Chg.dr {R : Nat → Prop} {a b : World} (h : Chg R a b) : Chg R a b.drew := ⟨h.os, h.tape, h.output, h.size, h.block⟩
theorem isBlk.drawn {w : World} {b : Nat} {T : TypeId} {vs : List Value} (h : isBlk w b T vs) : isBlk w.drew b T vs := h
theorem Wds.drew {w : World} {rb : Nat} {l : List Nat} (h : Wds w rb l) : Wds w.drew rb l := ⟨h.lt, h.c, h.f⟩

/-- What the first closure finds at a vertex: is its label not right? -/
def badLabel (ss : List St) (k : Nat) (l : Nat) : Bool := decide (k < l) || !(((ss.map St.a0).getD l 0) == l)
def rooted (k l : Nat) : Nat := if l = k then 1 else 0
theorem set_twice (l : List Nat) (i j a b : Nat) (hij : i ≠ j) : (((l.set i a).set j a).set i b).set j b = (l.set i b).set j b := by
  rw [List.set_comm a b (by omega : j ≠ i), List.set_set, List.set_set]

set_option maxHeartbeats 2000000 in
theorem f33_any (pb qb tb bb db sb so rb n cs ct cb : Nat) (ss : List St) (d : Dk) (f : Fd) (l : List Nat) (k : Nat) (s : St) (w : World)
    (hE : Env w pb qb tb bb db sb so rb n cs ct cb ss) (hn : ss.length = n) (hnl : n + n ≤ l.length) (hk : k < n) (hl1 : l.length ≤ 5000)
    (hd : isBlk w db 75 (d.cells f)) (hw : Wds w rb l) :
    Calls Try.prog 33 #[.int .u32 k, s.val, .pointer (some ⟨pb, 0, none⟩), .pointer (some ⟨qb, 0, none⟩), .pointer (some ⟨tb, 0, none⟩), .pointer (some ⟨bb, 0, none⟩)] w fun e w' =>
      (∃ x, e = .returned x) ∧ isBlk w' db 75 (d.cells (noted f k 1 (badLabel ss k s.a0))) ∧ Wds w' rb ((l.set k (rooted k s.a0)).set (n + k) (rooted k s.a0)) ∧ Chg (Two db rb) w w' := by
  obtain ⟨l0, s1, s2, s3, s4, s5, s6, s7⟩ := s
  unfold St.val
  simp only []
  have hE1 := hE.keep (w' := w.alloc (.cells #[.int .u64 l0, .int .u64 s1, .int .u64 s2, .int .u64 s3, .int .u64 s4, .int .u64 s5, .int .u64 s6, .int .u64 s7] 56)) (fun j hj _ _ => Below.heap_alloc _ _ _ hj) (by simp)
  have hd1 := hd.old (.cells #[.int .u64 l0, .int .u64 s1, .int .u64 s2, .int .u64 s3, .int .u64 s4, .int .u64 s5, .int .u64 s6, .int .u64 s7] 56)
  have hw1 := hw.all (.cells #[.int .u64 l0, .int .u64 s1, .int .u64 s2, .int .u64 s3, .int .u64 s4, .int .u64 s5, .int .u64 s6, .int .u64 s7] 56)
  have hc1 := (Chg.refl (Two db rb) w).all (.cells #[.int .u64 l0, .int .u64 s1, .int .u64 s2, .int .u64 s3, .int .u64 s4, .int .u64 s5, .int .u64 s6, .int .u64 s7] 56)
  have x0 : (w.alloc (.cells #[.int .u64 l0, .int .u64 s1, .int .u64 s2, .int .u64 s3, .int .u64 s4, .int .u64 s5, .int .u64 s6, .int .u64 s7] 56)).cell? ⟨w.heap.size, 0, none⟩ = some (.int .u64 l0) := (isBlk.new w 56 [.int .u64 l0, .int .u64 s1, .int .u64 s2, .int .u64 s3, .int .u64 s4, .int .u64 s5, .int .u64 s6, .int .u64 s7]).cell 0
  have hfin : ∀ (w' : World) (nf : Fd) (l' : List Nat), isBlk w' db 75 (d.cells nf) → Wds w' rb l' → Chg (Two db rb) w w' → nf = noted f k 1 (badLabel ss k l0) → l' = (l.set k (rooted k l0)).set (n + k) (rooted k l0) → isBlk w' db 75 (d.cells (noted f k 1 (badLabel ss k l0))) ∧ Wds w' rb ((l.set k (rooted k l0)).set (n + k) (rooted k l0)) ∧ Chg (Two db rb) w w' := by
    rintro w' nf l' h1 h2 h3 rfl rfl
    exact ⟨h1, h2, h3⟩
  have HF := Lib.hid hfin
  have hdl := hd1.lt
  have hrl := hw1.lt
  have hnd := hE.nd
  have hnp := hE.np
  have hnq := hE.nq
  have hnt := hE.nt
  have hnb := hE.nb
  go_enter Try.func33, Try.ntmps33
  go_wp2
  obtain ⟨W1, hW1⟩ : ∃ W1, w.alloc (.cells #[.int .u64 l0, .int .u64 s1, .int .u64 s2, .int .u64 s3, .int .u64 s4, .int .u64 s5, .int .u64 s6, .int .u64 s7] 56) = W1 := ⟨_, rfl⟩
  have hsz1 : w.heap.size < W1.heap.size := by rw [← hW1]; simp
  have hsz2 : w.heap.size ≠ db := by have := hd.lt; omega
  have hsz3 : w.heap.size ≠ rb := by have := hw.lt; omega
  rw [hW1] at hE1 hd1 hw1 hc1 x0 hdl hrl ⊢
  clear hW1 hE hd hw hfin
  have cp := hE1.p
  have cq := hE1.q
  have ct' := hE1.t
  have cb' := hE1.b
  have bp := World.block_lt_of_cell? W1 _ cp
  have bq := World.block_lt_of_cell? W1 _ cq
  have bt := World.block_lt_of_cell? W1 _ ct'
  have bb' := World.block_lt_of_cell? W1 _ cb'
  simp only [] at bp bq bt bb'
  have HE := Lib.hid hE1
  have HD := Lib.hid hd1
  have HW := Lib.hid hw1
  have HC := Lib.hid hc1
  generalize w.heap.size = xb at *
  clear hE1 hd1 hw1 hc1

  by_cases hgt : k < l0
  · have hbl : true = badLabel ss k l0 := by unfold badLabel; rw [decide_eq_true hgt]; rfl
    have hro : 0 = rooted k l0 := by unfold rooted; rw [if_neg (by omega)]
    have HB := Lib.hid hbl
    have HR := Lib.hid hro
    have hi1 : (k : Int) < (l0 : Int) := by omega
    have hi2 : ¬ l0 = k := by omega
    have hkw : IntKind.u64.wrap (k : Int) = (k : Int) := by rw [IntKind.wrap_u64]; omega
    clear hbl hro
    refine wp_region_held_drew (S := fun wz => ∀ b o, b ≠ db → b < W1.heap.size → wz.cell? ⟨b, o, none⟩ = W1.cell? ⟨b, o, none⟩) (by kernel_rfl) (fun b o _ _ => rfl) (fun hHeld => ?_)
    refine wpAnyH_take (i := 0) (oi := { dst := some 11, op := Op.load 58 (Operand.tmp 2), type := 58, pos := "apart.go:65", after := #[], guard := none }) (v := ?hdv1) rfl (by kernel_rfl) (by kernel_rfl) (by kernel_rfl) (fun _ _ _ h => h) (Or.inl ⟨by rfl, ?hdy1⟩) (by assumption) ?hdr1
    case hdy1 => (intro w hSw; (try dsimp only at hSw); go_simp; (try with_reducible rfl))
    try simp only [Act.put, List.setIfInBounds_toArray, List.set_cons_zero, List.set_cons_succ]
    refine wpAnyH_take (i := 1) (oi := { dst := some 12, op := Op.move (Operand.tmp 0), type := 22, pos := "apart.go:65", after := #[], guard := none }) (v := ?hdv2) rfl (by kernel_rfl) (by kernel_rfl) (by kernel_rfl) (fun _ _ _ h => h) (Or.inl ⟨by rfl, ?hdy2⟩) (by assumption) ?hdr2
    case hdy2 => (intro w hSw; (try dsimp only at hSw); go_simp; (try with_reducible rfl))
    try simp only [Act.put, List.setIfInBounds_toArray, List.set_cons_zero, List.set_cons_succ]
    refine wpAnyH_take (i := 2) (oi := { dst := some 13, op := Op.move (Operand.tmp 8), type := 28, pos := "apart.go:65", after := #[], guard := none }) (v := ?hdv3) rfl (by kernel_rfl) (by kernel_rfl) (by kernel_rfl) (fun _ _ _ h => h) (Or.inl ⟨by rfl, ?hdy3⟩) (by assumption) ?hdr3
    case hdy3 => (intro w hSw; (try dsimp only at hSw); go_simp; (try with_reducible rfl))
    try simp only [Act.put, List.setIfInBounds_toArray, List.set_cons_zero, List.set_cons_succ]
    refine wpAnyH_take (i := 3) (oi := { dst := some 14, op := Op.move (Operand.tmp 0), type := 22, pos := "apart.go:65", after := #[], guard := none }) (v := ?hdv4) rfl (by kernel_rfl) (by kernel_rfl) (by kernel_rfl) (fun _ _ _ h => h) (Or.inl ⟨by rfl, ?hdy4⟩) (by assumption) ?hdr4
    case hdy4 => (intro w hSw; (try dsimp only at hSw); go_simp; (try with_reducible rfl))
    try simp only [Act.put, List.setIfInBounds_toArray, List.set_cons_zero, List.set_cons_succ]
    refine wpAnyH_take (i := 4) (oi := { dst := some 15, op := Op.convert 22 28 (Operand.tmp 14), type := 28, pos := "apart.go:65", after := #[{ on := 3, ground := Ground.data }], guard := none }) (v := ?hdv5) rfl (by kernel_rfl) (by kernel_rfl) (by kernel_rfl) (fun _ _ _ h => h) (Or.inl ⟨by rfl, ?hdy5⟩) (by assumption) ?hdr5
    case hdy5 => (intro w hSw; (try dsimp only at hSw); go_simp; (try with_reducible rfl))
    try simp only [Act.put, List.setIfInBounds_toArray, List.set_cons_zero, List.set_cons_succ]
    refine wpAnyH_take (i := 5) (oi := { dst := some 16, op := Op.binOp BinOp.gtr 28 (Operand.tmp 13) (Operand.tmp 15) 28, type := 4, pos := "apart.go:65", after := #[{ on := 2, ground := Ground.data }, { on := 4, ground := Ground.data }], guard := none }) (v := ?hdv6) rfl (by kernel_rfl) (by kernel_rfl) (by kernel_rfl) (fun _ _ _ h => h) (Or.inl ⟨by rfl, ?hdy6⟩) (by assumption) ?hdr6
    case hdy6 => (intro w hSw; (try dsimp only at hSw); go_simp; (try with_reducible rfl))
    try simp only [Act.put, List.setIfInBounds_toArray, List.set_cons_zero, List.set_cons_succ]
    refine wpAnyH_take (i := 6) (oi := { dst := some 17, op := Op.move (Operand.tmp 16), type := 4, pos := "apart.go:65", after := #[{ on := 5, ground := Ground.data }], guard := none }) (v := ?hdv7) rfl (by kernel_rfl) (by kernel_rfl) (by kernel_rfl) (fun _ _ _ h => h) (Or.inl ⟨by rfl, ?hdy7⟩) (by assumption) ?hdr7
    case hdy7 => (intro w hSw; (try dsimp only at hSw); go_simp; (try with_reducible rfl))
    try simp only [Act.put, List.setIfInBounds_toArray, List.set_cons_zero, List.set_cons_succ]
    refine wpAnyH_take (i := 7) (oi := { dst := some 18, op := Op.load 23 (Operand.tmp 3), type := 23, pos := "apart.go:65", after := #[{ on := 6, ground := Ground.guard }], guard := some (6, false) }) (v := undef) rfl (by kernel_rfl) (by kernel_rfl) (by kernel_rfl) (fun _ _ _ h => h) (Or.inr ⟨by rfl, rfl⟩) (by assumption) ?_
    try simp only [Act.put, List.setIfInBounds_toArray, List.set_cons_zero, List.set_cons_succ]
    refine wpAnyH_take (i := 8) (oi := { dst := some 19, op := Op.move (Operand.tmp 8), type := 28, pos := "apart.go:65", after := #[{ on := 6, ground := Ground.guard }], guard := some (6, false) }) (v := undef) rfl (by kernel_rfl) (by kernel_rfl) (by kernel_rfl) (fun _ _ _ h => h) (Or.inr ⟨by rfl, rfl⟩) (by assumption) ?_
    try simp only [Act.put, List.setIfInBounds_toArray, List.set_cons_zero, List.set_cons_succ]
    refine wpAnyH_take (i := 9) (oi := { dst := some 20, op := Op.indexAddr 23 (Operand.tmp 18) (Operand.tmp 19), type := 0, pos := "apart.go:65", after := #[{ on := 7, ground := Ground.data }, { on := 8, ground := Ground.data }, { on := 6, ground := Ground.guard }], guard := some (6, false) }) (v := undef) rfl (by kernel_rfl) (by kernel_rfl) (by kernel_rfl) (fun _ _ _ h => h) (Or.inr ⟨by rfl, rfl⟩) (by assumption) ?_
    try simp only [Act.put, List.setIfInBounds_toArray, List.set_cons_zero, List.set_cons_succ]
    refine wpAnyH_take (i := 10) (oi := { dst := some 21, op := Op.indexAddr 56 (Operand.tmp 20) (Operand.const (Value.int IntKind.i64 0)), type := 0, pos := "apart.go:65", after := #[{ on := 9, ground := Ground.data }, { on := 6, ground := Ground.guard }], guard := some (6, false) }) (v := undef) rfl (by kernel_rfl) (by kernel_rfl) (by kernel_rfl) (fun _ _ _ h => h) (Or.inr ⟨by rfl, rfl⟩) (by assumption) ?_
    try simp only [Act.put, List.setIfInBounds_toArray, List.set_cons_zero, List.set_cons_succ]
    refine wpAnyH_take (i := 11) (oi := { dst := some 22, op := Op.load 28 (Operand.tmp 21), type := 28, pos := "apart.go:65", after := #[{ on := 10, ground := Ground.data }, { on := 6, ground := Ground.guard }], guard := some (6, false) }) (v := undef) rfl (by kernel_rfl) (by kernel_rfl) (by kernel_rfl) (fun _ _ _ h => h) (Or.inr ⟨by rfl, rfl⟩) (by assumption) ?_
    try simp only [Act.put, List.setIfInBounds_toArray, List.set_cons_zero, List.set_cons_succ]
    refine wpAnyH_take (i := 12) (oi := { dst := some 23, op := Op.move (Operand.tmp 8), type := 28, pos := "apart.go:65", after := #[{ on := 6, ground := Ground.guard }], guard := some (6, false) }) (v := undef) rfl (by kernel_rfl) (by kernel_rfl) (by kernel_rfl) (fun _ _ _ h => h) (Or.inr ⟨by rfl, rfl⟩) (by assumption) ?_
    try simp only [Act.put, List.setIfInBounds_toArray, List.set_cons_zero, List.set_cons_succ]
    refine wpAnyH_take (i := 13) (oi := { dst := some 24, op := Op.binOp BinOp.neq 28 (Operand.tmp 22) (Operand.tmp 23) 28, type := 4, pos := "apart.go:65", after := #[{ on := 11, ground := Ground.data }, { on := 12, ground := Ground.data }, { on := 6, ground := Ground.guard }], guard := some (6, false) }) (v := undef) rfl (by kernel_rfl) (by kernel_rfl) (by kernel_rfl) (fun _ _ _ h => h) (Or.inr ⟨by rfl, rfl⟩) (by assumption) ?_
    try simp only [Act.put, List.setIfInBounds_toArray, List.set_cons_zero, List.set_cons_succ]
    refine wpAnyH_take (i := 14) (oi := { dst := some 25, op := Op.pick (Operand.tmp 17) (Operand.const (Value.bool true)) (Operand.tmp 24), type := 4, pos := "apart.go:65", after := #[{ on := 6, ground := Ground.data }, { on := 13, ground := Ground.data }], guard := none }) (v := ?hdv15) rfl (by kernel_rfl) (by kernel_rfl) (by kernel_rfl) (fun _ _ _ h => h) (Or.inl ⟨by rfl, ?hdy15⟩) (by assumption) ?hdr15
    case hdy15 => (intro w hSw; (try dsimp only at hSw); go_simp; (try with_reducible rfl))
    try simp only [Act.put, List.setIfInBounds_toArray, List.set_cons_zero, List.set_cons_succ]
    refine wpAnyH_ready (rs := [15]) (by kernel_rfl) (by simp) ?_
    refine AllReadyH.cons (o := { dst := some 26, op := Op.call { callee := Callee.value (Operand.func 34), args := #[Operand.tmp 11, Operand.tmp 12, Operand.const (Value.int IntKind.i64 1), Operand.tmp 25], argTypes := #[58, 22, 3, 4] }, type := 0, pos := "apart.go:65", after := #[{ on := 0, ground := Ground.data }, { on := 1, ground := Ground.data }, { on := 14, ground := Ground.data }, { on := 6, ground := Ground.chain }], guard := none }) rfl (fun K hK => ?_) AllReadyH.nil
    go_simp
    ((with_reducible refine Calls.mono (broken_any db d f k 1 true _ HD.out.drew) ?_); rintro e w2 ⟨⟨x, rfl⟩, hdd, hcc⟩; (try go_wp2_with fail))
    refine Shut.out hK _ _ ?_ (fun hHeldN => ?_)
    · (exact fun b o hne hb => cell_heap (w := World.drew W1) (a := ⟨b, o, none⟩) (hcc.block b hb hne))
    ((try clear hK K); (try clear hHeld))
    try simp only [Act.put, List.setIfInBounds_toArray, List.set_cons_zero, List.set_cons_succ]
    clear hHeldN
    refine wpAnyH_done (by kernel_rfl) ?_ _
    have hE2 := HE.out.chg (w' := w2) ⟨hcc.os, hcc.tape, hcc.output, hcc.size, fun j hj hr => hcc.block j hj (fun e => hr (Or.inl e))⟩
    have hW2 : Wds w2 rb l := (HW.out.drew).keep (hcc.block rb HW.out.lt (fun e => hnd e.symm)) hcc.size
    have hC2 : Chg (Two db rb) w w2 := HC.out.trans ⟨hcc.os, hcc.tape, hcc.output, hcc.size, fun j hj hr => hcc.block j hj (fun e => hr (Or.inl e))⟩
    have HDw2 := Lib.hid hdd
    have HWw2 := Lib.hid hW2
    have HCw2 := Lib.hid hC2
    have HEw2 := Lib.hid hE2
    clear hcc hW2 hE2 hC2 hdd HD HW HC HE
    have hki : (k : Int) < n := by omega
    have hki0 : (0 : Int) ≤ k := Int.natCast_nonneg _
    go_upto_region 3 with fail
    have ct_ := (HEw2.out).t
    have cb_ := (HEw2.out).b
    have bt_ := World.block_lt_of_cell? w2 _ ct_
    have bb_ := World.block_lt_of_cell? w2 _ cb_
    simp only [] at bt_ bb_
    have k1 := (HWw2.out).c k (by (repeat rw [List.length_set]); omega)
    have k2 := (HWw2.out).c (n + k) (by (repeat rw [List.length_set]); omega)
    have g1 := (HWw2.out).f k
    have g2 := (HWw2.out).f (n + k)
    have hW3 := (((HWw2.out).set k 0 (by (repeat rw [List.length_set]); omega)).set (n + k) 0 (by (repeat rw [List.length_set]); omega)).drew
    have hC3 := ((((HCw2.out)).set (p := ⟨rb, k, none⟩) (Or.inl (Or.inr rfl)) (.int .u64 (0 : Nat))).set (p := ⟨rb, n + k, none⟩) (Or.inl (Or.inr rfl)) (.int .u64 (0 : Nat))).dr
    have hD3 := ((HDw2.out.other (p := ⟨rb, k, none⟩) (v := .int .u64 (0 : Nat)) hnd).other (p := ⟨rb, n + k, none⟩) (v := .int .u64 (0 : Nat)) hnd).drawn
    have hE3 := HEw2.out.chg ((((Chg.refl (Two db rb) w2).set (p := ⟨rb, k, none⟩) (Or.inl (Or.inr rfl)) (.int .u64 (0 : Nat))).set (p := ⟨rb, n + k, none⟩) (Or.inl (Or.inr rfl)) (.int .u64 (0 : Nat))).dr)
    have HDw3 := Lib.hid hD3
    have HWw3 := Lib.hid hW3
    have HCw3 := Lib.hid hC3
    have HEw3 := Lib.hid hE3
    clear hD3 hW3 hC3 hE3
    go_region_held3 (fun wz => ∀ b o, b ≠ rb → b < w2.heap.size → wz.cell? ⟨b, o, none⟩ = w2.cell? ⟨b, o, none⟩)
      ((intro b o hne hb; (repeat first | rw [World.cell?_setCell_far _ _ _ _ (by first | omega | (simp; omega) | (simp; done))] | rw [cell_drew] | rw [World.cell?_alloc_past _ _ _ (by first | omega | (simp; omega) | (simp; done))]); done))
      (fail)
    repeat (rename (∀ b o, b ≠ rb → b < w2.heap.size → World.cell? _ ⟨b, o, none⟩ = _) => hSS; clear hSS)
    obtain ⟨w3, hw3⟩ : ∃ W3, ((World.setCell (World.setCell w2 ⟨rb, k, none⟩ (.int .u64 (0 : Int))) ⟨rb, n + k, none⟩ (.int .u64 (0 : Int))).drew) = W3 := ⟨_, rfl⟩
    simp only [Int.cast_ofNat_Int, hw3] at HDw3 HWw3 HCw3 HEw3 ⊢
    clear hw3 k1 k2 g1 g2 ct_ cb_ bt_ bb_
    go_wp2
    go_end0
    exact ⟨⟨_, rfl⟩, HF.out _ _ _ HDw3.out HWw3.out HCw3.out (by rw [← HB.out]) (by rw [← HR.out])⟩

  · have hl0 : l0 < ss.length := by omega
    have hs0 := HE.out.s.c0 l0 hl0
    have hlsb := HE.out.s.lt (by omega)
    obtain ⟨hn1, hn2⟩ := HE.out.ns (by omega)
    have hsm : (ss.map St.a0).getD l0 0 = (ss[l0]).a0 := by rw [List.getD_eq_getElem?_getD, List.getElem?_map, List.getElem?_eq_getElem hl0]; rfl
    have hi1 : ¬ (k : Int) < (l0 : Int) := by omega
    have hi3 : (l0 : Int) < n := by omega
    have hi4 : (0 : Int) ≤ l0 := Int.natCast_nonneg _
    have hkw : IntKind.u64.wrap (k : Int) = (k : Int) := by rw [IntKind.wrap_u64]; omega
    have hbl : ∀ x, x = !decide ((ss[l0]).a0 = l0) → x = badLabel ss k l0 := by
      rintro x rfl
      unfold badLabel
      rw [decide_eq_false hgt, hsm]
      rfl
    generalize (ss[l0]).a0 = t0 at *
    have HB0 := Lib.hid hbl
    clear hbl hsm
    by_cases ht : t0 = l0
    · have HB := Lib.hid (HB0.out false (by rw [decide_eq_true ht]; rfl))
      have hti : ((t0 : Int) != (l0 : Int)) = false := by rw [bne_eq_false_iff_eq]; omega
      clear HB0
      by_cases hr : l0 = k
      · have hro : 1 = rooted k l0 := by unfold rooted; rw [if_pos hr]
        have HR := Lib.hid hro
        have hri : ((l0 : Int) == (k : Int)) = true := by rw [beq_iff_eq]; omega
        clear hro ht hr
        refine wp_region_held_drew (S := fun wz => ∀ b o, b ≠ db → b < W1.heap.size → wz.cell? ⟨b, o, none⟩ = W1.cell? ⟨b, o, none⟩) (by kernel_rfl) (fun b o _ _ => rfl) (fun hHeld => ?_)
        refine wpAnyH_take (i := 0) (oi := { dst := some 11, op := Op.load 58 (Operand.tmp 2), type := 58, pos := "apart.go:65", after := #[], guard := none }) (v := ?hdv16) rfl (by kernel_rfl) (by kernel_rfl) (by kernel_rfl) (fun _ _ _ h => h) (Or.inl ⟨by rfl, ?hdy16⟩) (by assumption) ?hdr16
        case hdy16 => (intro w hSw; (try dsimp only at hSw); go_simp; (try with_reducible rfl))
        try simp only [Act.put, List.setIfInBounds_toArray, List.set_cons_zero, List.set_cons_succ]
        refine wpAnyH_take (i := 1) (oi := { dst := some 12, op := Op.move (Operand.tmp 0), type := 22, pos := "apart.go:65", after := #[], guard := none }) (v := ?hdv17) rfl (by kernel_rfl) (by kernel_rfl) (by kernel_rfl) (fun _ _ _ h => h) (Or.inl ⟨by rfl, ?hdy17⟩) (by assumption) ?hdr17
        case hdy17 => (intro w hSw; (try dsimp only at hSw); go_simp; (try with_reducible rfl))
        try simp only [Act.put, List.setIfInBounds_toArray, List.set_cons_zero, List.set_cons_succ]
        refine wpAnyH_take (i := 2) (oi := { dst := some 13, op := Op.move (Operand.tmp 8), type := 28, pos := "apart.go:65", after := #[], guard := none }) (v := ?hdv18) rfl (by kernel_rfl) (by kernel_rfl) (by kernel_rfl) (fun _ _ _ h => h) (Or.inl ⟨by rfl, ?hdy18⟩) (by assumption) ?hdr18
        case hdy18 => (intro w hSw; (try dsimp only at hSw); go_simp; (try with_reducible rfl))
        try simp only [Act.put, List.setIfInBounds_toArray, List.set_cons_zero, List.set_cons_succ]
        refine wpAnyH_take (i := 3) (oi := { dst := some 14, op := Op.move (Operand.tmp 0), type := 22, pos := "apart.go:65", after := #[], guard := none }) (v := ?hdv19) rfl (by kernel_rfl) (by kernel_rfl) (by kernel_rfl) (fun _ _ _ h => h) (Or.inl ⟨by rfl, ?hdy19⟩) (by assumption) ?hdr19
        case hdy19 => (intro w hSw; (try dsimp only at hSw); go_simp; (try with_reducible rfl))
        try simp only [Act.put, List.setIfInBounds_toArray, List.set_cons_zero, List.set_cons_succ]
        refine wpAnyH_take (i := 4) (oi := { dst := some 15, op := Op.convert 22 28 (Operand.tmp 14), type := 28, pos := "apart.go:65", after := #[{ on := 3, ground := Ground.data }], guard := none }) (v := ?hdv20) rfl (by kernel_rfl) (by kernel_rfl) (by kernel_rfl) (fun _ _ _ h => h) (Or.inl ⟨by rfl, ?hdy20⟩) (by assumption) ?hdr20
        case hdy20 => (intro w hSw; (try dsimp only at hSw); go_simp; (try with_reducible rfl))
        try simp only [Act.put, List.setIfInBounds_toArray, List.set_cons_zero, List.set_cons_succ]
        refine wpAnyH_take (i := 5) (oi := { dst := some 16, op := Op.binOp BinOp.gtr 28 (Operand.tmp 13) (Operand.tmp 15) 28, type := 4, pos := "apart.go:65", after := #[{ on := 2, ground := Ground.data }, { on := 4, ground := Ground.data }], guard := none }) (v := ?hdv21) rfl (by kernel_rfl) (by kernel_rfl) (by kernel_rfl) (fun _ _ _ h => h) (Or.inl ⟨by rfl, ?hdy21⟩) (by assumption) ?hdr21
        case hdy21 => (intro w hSw; (try dsimp only at hSw); go_simp; (try with_reducible rfl))
        try simp only [Act.put, List.setIfInBounds_toArray, List.set_cons_zero, List.set_cons_succ]
        refine wpAnyH_take (i := 6) (oi := { dst := some 17, op := Op.move (Operand.tmp 16), type := 4, pos := "apart.go:65", after := #[{ on := 5, ground := Ground.data }], guard := none }) (v := ?hdv22) rfl (by kernel_rfl) (by kernel_rfl) (by kernel_rfl) (fun _ _ _ h => h) (Or.inl ⟨by rfl, ?hdy22⟩) (by assumption) ?hdr22
        case hdy22 => (intro w hSw; (try dsimp only at hSw); go_simp; (try with_reducible rfl))
        try simp only [Act.put, List.setIfInBounds_toArray, List.set_cons_zero, List.set_cons_succ]
        refine wpAnyH_take (i := 7) (oi := { dst := some 18, op := Op.load 23 (Operand.tmp 3), type := 23, pos := "apart.go:65", after := #[{ on := 6, ground := Ground.guard }], guard := some (6, false) }) (v := ?hdv23) rfl (by kernel_rfl) (by kernel_rfl) (by kernel_rfl) (fun _ _ _ h => h) (Or.inl ⟨by rfl, ?hdy23⟩) (by assumption) ?hdr23
        case hdy23 => (intro w hSw; (try dsimp only at hSw); go_simp; (try with_reducible rfl))
        try simp only [Act.put, List.setIfInBounds_toArray, List.set_cons_zero, List.set_cons_succ]
        refine wpAnyH_take (i := 8) (oi := { dst := some 19, op := Op.move (Operand.tmp 8), type := 28, pos := "apart.go:65", after := #[{ on := 6, ground := Ground.guard }], guard := some (6, false) }) (v := ?hdv24) rfl (by kernel_rfl) (by kernel_rfl) (by kernel_rfl) (fun _ _ _ h => h) (Or.inl ⟨by rfl, ?hdy24⟩) (by assumption) ?hdr24
        case hdy24 => (intro w hSw; (try dsimp only at hSw); go_simp; (try with_reducible rfl))
        try simp only [Act.put, List.setIfInBounds_toArray, List.set_cons_zero, List.set_cons_succ]
        refine wpAnyH_take (i := 9) (oi := { dst := some 20, op := Op.indexAddr 23 (Operand.tmp 18) (Operand.tmp 19), type := 0, pos := "apart.go:65", after := #[{ on := 7, ground := Ground.data }, { on := 8, ground := Ground.data }, { on := 6, ground := Ground.guard }], guard := some (6, false) }) (v := ?hdv25) rfl (by kernel_rfl) (by kernel_rfl) (by kernel_rfl) (fun _ _ _ h => h) (Or.inl ⟨by rfl, ?hdy25⟩) (by assumption) ?hdr25
        case hdy25 => (intro w hSw; (try dsimp only at hSw); go_simp; (try with_reducible rfl))
        try simp only [Act.put, List.setIfInBounds_toArray, List.set_cons_zero, List.set_cons_succ]
        refine wpAnyH_take (i := 10) (oi := { dst := some 21, op := Op.indexAddr 56 (Operand.tmp 20) (Operand.const (Value.int IntKind.i64 0)), type := 0, pos := "apart.go:65", after := #[{ on := 9, ground := Ground.data }, { on := 6, ground := Ground.guard }], guard := some (6, false) }) (v := ?hdv26) rfl (by kernel_rfl) (by kernel_rfl) (by kernel_rfl) (fun _ _ _ h => h) (Or.inl ⟨by rfl, ?hdy26⟩) (by assumption) ?hdr26
        case hdy26 => (intro w hSw; (try dsimp only at hSw); go_simp; (try with_reducible rfl))
        try simp only [Act.put, List.setIfInBounds_toArray, List.set_cons_zero, List.set_cons_succ]
        refine wpAnyH_take (i := 11) (oi := { dst := some 22, op := Op.load 28 (Operand.tmp 21), type := 28, pos := "apart.go:65", after := #[{ on := 10, ground := Ground.data }, { on := 6, ground := Ground.guard }], guard := some (6, false) }) (v := ?hdv27) rfl (by kernel_rfl) (by kernel_rfl) (by kernel_rfl) (fun _ _ _ h => h) (Or.inl ⟨by rfl, ?hdy27⟩) (by assumption) ?hdr27
        case hdy27 => (intro w hSw; (try dsimp only at hSw); go_simp; (try with_reducible rfl))
        try simp only [Act.put, List.setIfInBounds_toArray, List.set_cons_zero, List.set_cons_succ]
        refine wpAnyH_take (i := 12) (oi := { dst := some 23, op := Op.move (Operand.tmp 8), type := 28, pos := "apart.go:65", after := #[{ on := 6, ground := Ground.guard }], guard := some (6, false) }) (v := ?hdv28) rfl (by kernel_rfl) (by kernel_rfl) (by kernel_rfl) (fun _ _ _ h => h) (Or.inl ⟨by rfl, ?hdy28⟩) (by assumption) ?hdr28
        case hdy28 => (intro w hSw; (try dsimp only at hSw); go_simp; (try with_reducible rfl))
        try simp only [Act.put, List.setIfInBounds_toArray, List.set_cons_zero, List.set_cons_succ]
        refine wpAnyH_take (i := 13) (oi := { dst := some 24, op := Op.binOp BinOp.neq 28 (Operand.tmp 22) (Operand.tmp 23) 28, type := 4, pos := "apart.go:65", after := #[{ on := 11, ground := Ground.data }, { on := 12, ground := Ground.data }, { on := 6, ground := Ground.guard }], guard := some (6, false) }) (v := ?hdv29) rfl (by kernel_rfl) (by kernel_rfl) (by kernel_rfl) (fun _ _ _ h => h) (Or.inl ⟨by rfl, ?hdy29⟩) (by assumption) ?hdr29
        case hdy29 => (intro w hSw; (try dsimp only at hSw); go_simp; (try with_reducible rfl))
        try simp only [Act.put, List.setIfInBounds_toArray, List.set_cons_zero, List.set_cons_succ]
        refine wpAnyH_take (i := 14) (oi := { dst := some 25, op := Op.pick (Operand.tmp 17) (Operand.const (Value.bool true)) (Operand.tmp 24), type := 4, pos := "apart.go:65", after := #[{ on := 6, ground := Ground.data }, { on := 13, ground := Ground.data }], guard := none }) (v := ?hdv30) rfl (by kernel_rfl) (by kernel_rfl) (by kernel_rfl) (fun _ _ _ h => h) (Or.inl ⟨by rfl, ?hdy30⟩) (by assumption) ?hdr30
        case hdy30 => (intro w hSw; (try dsimp only at hSw); go_simp; (try with_reducible rfl))
        try simp only [Act.put, List.setIfInBounds_toArray, List.set_cons_zero, List.set_cons_succ]
        refine wpAnyH_ready (rs := [15]) (by kernel_rfl) (by simp) ?_
        refine AllReadyH.cons (o := { dst := some 26, op := Op.call { callee := Callee.value (Operand.func 34), args := #[Operand.tmp 11, Operand.tmp 12, Operand.const (Value.int IntKind.i64 1), Operand.tmp 25], argTypes := #[58, 22, 3, 4] }, type := 0, pos := "apart.go:65", after := #[{ on := 0, ground := Ground.data }, { on := 1, ground := Ground.data }, { on := 14, ground := Ground.data }, { on := 6, ground := Ground.chain }], guard := none }) rfl (fun K hK => ?_) AllReadyH.nil
        go_simp
        ((with_reducible refine Calls.mono (broken_any db d f k 1 false _ HD.out.drew) ?_); rintro e w2 ⟨⟨x, rfl⟩, hdd, hcc⟩; (try go_wp2_with fail))
        refine Shut.out hK _ _ ?_ (fun hHeldN => ?_)
        · (exact fun b o hne hb => cell_heap (w := World.drew W1) (a := ⟨b, o, none⟩) (hcc.block b hb hne))
        ((try clear hK K); (try clear hHeld))
        try simp only [Act.put, List.setIfInBounds_toArray, List.set_cons_zero, List.set_cons_succ]
        clear hHeldN
        refine wpAnyH_done (by kernel_rfl) ?_ _
        have hE2 := HE.out.chg (w' := w2) ⟨hcc.os, hcc.tape, hcc.output, hcc.size, fun j hj hr => hcc.block j hj (fun e => hr (Or.inl e))⟩
        have hW2 : Wds w2 rb l := (HW.out.drew).keep (hcc.block rb HW.out.lt (fun e => hnd e.symm)) hcc.size
        have hC2 : Chg (Two db rb) w w2 := HC.out.trans ⟨hcc.os, hcc.tape, hcc.output, hcc.size, fun j hj hr => hcc.block j hj (fun e => hr (Or.inl e))⟩
        have HDw2 := Lib.hid hdd
        have HWw2 := Lib.hid hW2
        have HCw2 := Lib.hid hC2
        have HEw2 := Lib.hid hE2
        clear hcc hW2 hE2 hC2 hdd HD HW HC HE
        have hki : (k : Int) < n := by omega
        have hki0 : (0 : Int) ≤ k := Int.natCast_nonneg _
        go_upto_region 3 with fail
        have ct_ := (HEw2.out).t
        have cb_ := (HEw2.out).b
        have bt_ := World.block_lt_of_cell? w2 _ ct_
        have bb_ := World.block_lt_of_cell? w2 _ cb_
        simp only [] at bt_ bb_
        have k1 := (HWw2.out).c k (by (repeat rw [List.length_set]); omega)
        have k2 := (HWw2.out).c (n + k) (by (repeat rw [List.length_set]); omega)
        have g1 := (HWw2.out).f k
        have g2 := (HWw2.out).f (n + k)
        have hW3 := (((HWw2.out).set k 0 (by (repeat rw [List.length_set]); omega)).set (n + k) 0 (by (repeat rw [List.length_set]); omega)).drew
        have hC3 := ((((HCw2.out)).set (p := ⟨rb, k, none⟩) (Or.inl (Or.inr rfl)) (.int .u64 (0 : Nat))).set (p := ⟨rb, n + k, none⟩) (Or.inl (Or.inr rfl)) (.int .u64 (0 : Nat))).dr
        have hD3 := ((HDw2.out.other (p := ⟨rb, k, none⟩) (v := .int .u64 (0 : Nat)) hnd).other (p := ⟨rb, n + k, none⟩) (v := .int .u64 (0 : Nat)) hnd).drawn
        have hE3 := HEw2.out.chg ((((Chg.refl (Two db rb) w2).set (p := ⟨rb, k, none⟩) (Or.inl (Or.inr rfl)) (.int .u64 (0 : Nat))).set (p := ⟨rb, n + k, none⟩) (Or.inl (Or.inr rfl)) (.int .u64 (0 : Nat))).dr)
        have HDw3 := Lib.hid hD3
        have HWw3 := Lib.hid hW3
        have HCw3 := Lib.hid hC3
        have HEw3 := Lib.hid hE3
        clear hD3 hW3 hC3 hE3
        go_region_held3 (fun wz => ∀ b o, b ≠ rb → b < w2.heap.size → wz.cell? ⟨b, o, none⟩ = w2.cell? ⟨b, o, none⟩)
          ((intro b o hne hb; (repeat first | rw [World.cell?_setCell_far _ _ _ _ (by first | omega | (simp; omega) | (simp; done))] | rw [cell_drew] | rw [World.cell?_alloc_past _ _ _ (by first | omega | (simp; omega) | (simp; done))]); done))
          (fail)
        repeat (rename (∀ b o, b ≠ rb → b < w2.heap.size → World.cell? _ ⟨b, o, none⟩ = _) => hSS; clear hSS)
        obtain ⟨w3, hw3⟩ : ∃ W3, ((World.setCell (World.setCell w2 ⟨rb, k, none⟩ (.int .u64 (0 : Int))) ⟨rb, n + k, none⟩ (.int .u64 (0 : Int))).drew) = W3 := ⟨_, rfl⟩
        simp only [Int.cast_ofNat_Int, hw3] at HDw3 HWw3 HCw3 HEw3 ⊢
        clear hw3 k1 k2 g1 g2 ct_ cb_ bt_ bb_
        go_upto_region 5 with fail
        have ct_ := (HEw3.out).t
        have cb_ := (HEw3.out).b
        have bt_ := World.block_lt_of_cell? w3 _ ct_
        have bb_ := World.block_lt_of_cell? w3 _ cb_
        simp only [] at bt_ bb_
        have k1 := (HWw3.out).c k (by (repeat rw [List.length_set]); omega)
        have k2 := (HWw3.out).c (n + k) (by (repeat rw [List.length_set]); omega)
        have g1 := (HWw3.out).f k
        have g2 := (HWw3.out).f (n + k)
        have hW3 := (((HWw3.out).set k 1 (by (repeat rw [List.length_set]); omega)).set (n + k) 1 (by (repeat rw [List.length_set]); omega)).drew
        have hC3 := ((((HCw3.out)).set (p := ⟨rb, k, none⟩) (Or.inl (Or.inr rfl)) (.int .u64 (1 : Nat))).set (p := ⟨rb, n + k, none⟩) (Or.inl (Or.inr rfl)) (.int .u64 (1 : Nat))).dr
        have hD3 := ((HDw3.out.other (p := ⟨rb, k, none⟩) (v := .int .u64 (1 : Nat)) hnd).other (p := ⟨rb, n + k, none⟩) (v := .int .u64 (1 : Nat)) hnd).drawn
        have hE3 := HEw3.out.chg ((((Chg.refl (Two db rb) w3).set (p := ⟨rb, k, none⟩) (Or.inl (Or.inr rfl)) (.int .u64 (1 : Nat))).set (p := ⟨rb, n + k, none⟩) (Or.inl (Or.inr rfl)) (.int .u64 (1 : Nat))).dr)
        have HDw4 := Lib.hid hD3
        have HWw4 := Lib.hid hW3
        have HCw4 := Lib.hid hC3
        have HEw4 := Lib.hid hE3
        clear hD3 hW3 hC3 hE3
        go_region_held3 (fun wz => ∀ b o, b ≠ rb → b < w3.heap.size → wz.cell? ⟨b, o, none⟩ = w3.cell? ⟨b, o, none⟩)
          ((intro b o hne hb; (repeat first | rw [World.cell?_setCell_far _ _ _ _ (by first | omega | (simp; omega) | (simp; done))] | rw [cell_drew] | rw [World.cell?_alloc_past _ _ _ (by first | omega | (simp; omega) | (simp; done))]); done))
          (fail)
        repeat (rename (∀ b o, b ≠ rb → b < w3.heap.size → World.cell? _ ⟨b, o, none⟩ = _) => hSS; clear hSS)
        obtain ⟨w4, hw4⟩ : ∃ W3, ((World.setCell (World.setCell w3 ⟨rb, k, none⟩ (.int .u64 (1 : Int))) ⟨rb, n + k, none⟩ (.int .u64 (1 : Int))).drew) = W3 := ⟨_, rfl⟩
        simp only [Int.cast_ofNat_Int, hw4] at HDw4 HWw4 HCw4 HEw4 ⊢
        clear hw4 k1 k2 g1 g2 ct_ cb_ bt_ bb_
        go_wp2
        go_end0
        exact ⟨⟨_, rfl⟩, HF.out _ _ _ HDw4.out HWw4.out HCw4.out (by rw [← HB.out]) (by rw [← HR.out, set_twice _ _ _ _ _ (by omega)])⟩
      · have hro : 0 = rooted k l0 := by unfold rooted; rw [if_neg hr]
        have HR := Lib.hid hro
        have hri : ((l0 : Int) == (k : Int)) = false := by rw [beq_eq_false_iff_ne]; omega
        clear hro ht hr
        refine wp_region_held_drew (S := fun wz => ∀ b o, b ≠ db → b < W1.heap.size → wz.cell? ⟨b, o, none⟩ = W1.cell? ⟨b, o, none⟩) (by kernel_rfl) (fun b o _ _ => rfl) (fun hHeld => ?_)
        refine wpAnyH_take (i := 0) (oi := { dst := some 11, op := Op.load 58 (Operand.tmp 2), type := 58, pos := "apart.go:65", after := #[], guard := none }) (v := ?hdv31) rfl (by kernel_rfl) (by kernel_rfl) (by kernel_rfl) (fun _ _ _ h => h) (Or.inl ⟨by rfl, ?hdy31⟩) (by assumption) ?hdr31
        case hdy31 => (intro w hSw; (try dsimp only at hSw); go_simp; (try with_reducible rfl))
        try simp only [Act.put, List.setIfInBounds_toArray, List.set_cons_zero, List.set_cons_succ]
        refine wpAnyH_take (i := 1) (oi := { dst := some 12, op := Op.move (Operand.tmp 0), type := 22, pos := "apart.go:65", after := #[], guard := none }) (v := ?hdv32) rfl (by kernel_rfl) (by kernel_rfl) (by kernel_rfl) (fun _ _ _ h => h) (Or.inl ⟨by rfl, ?hdy32⟩) (by assumption) ?hdr32
        case hdy32 => (intro w hSw; (try dsimp only at hSw); go_simp; (try with_reducible rfl))
        try simp only [Act.put, List.setIfInBounds_toArray, List.set_cons_zero, List.set_cons_succ]
        refine wpAnyH_take (i := 2) (oi := { dst := some 13, op := Op.move (Operand.tmp 8), type := 28, pos := "apart.go:65", after := #[], guard := none }) (v := ?hdv33) rfl (by kernel_rfl) (by kernel_rfl) (by kernel_rfl) (fun _ _ _ h => h) (Or.inl ⟨by rfl, ?hdy33⟩) (by assumption) ?hdr33
        case hdy33 => (intro w hSw; (try dsimp only at hSw); go_simp; (try with_reducible rfl))
        try simp only [Act.put, List.setIfInBounds_toArray, List.set_cons_zero, List.set_cons_succ]
        refine wpAnyH_take (i := 3) (oi := { dst := some 14, op := Op.move (Operand.tmp 0), type := 22, pos := "apart.go:65", after := #[], guard := none }) (v := ?hdv34) rfl (by kernel_rfl) (by kernel_rfl) (by kernel_rfl) (fun _ _ _ h => h) (Or.inl ⟨by rfl, ?hdy34⟩) (by assumption) ?hdr34
        case hdy34 => (intro w hSw; (try dsimp only at hSw); go_simp; (try with_reducible rfl))
        try simp only [Act.put, List.setIfInBounds_toArray, List.set_cons_zero, List.set_cons_succ]
        refine wpAnyH_take (i := 4) (oi := { dst := some 15, op := Op.convert 22 28 (Operand.tmp 14), type := 28, pos := "apart.go:65", after := #[{ on := 3, ground := Ground.data }], guard := none }) (v := ?hdv35) rfl (by kernel_rfl) (by kernel_rfl) (by kernel_rfl) (fun _ _ _ h => h) (Or.inl ⟨by rfl, ?hdy35⟩) (by assumption) ?hdr35
        case hdy35 => (intro w hSw; (try dsimp only at hSw); go_simp; (try with_reducible rfl))
        try simp only [Act.put, List.setIfInBounds_toArray, List.set_cons_zero, List.set_cons_succ]
        refine wpAnyH_take (i := 5) (oi := { dst := some 16, op := Op.binOp BinOp.gtr 28 (Operand.tmp 13) (Operand.tmp 15) 28, type := 4, pos := "apart.go:65", after := #[{ on := 2, ground := Ground.data }, { on := 4, ground := Ground.data }], guard := none }) (v := ?hdv36) rfl (by kernel_rfl) (by kernel_rfl) (by kernel_rfl) (fun _ _ _ h => h) (Or.inl ⟨by rfl, ?hdy36⟩) (by assumption) ?hdr36
        case hdy36 => (intro w hSw; (try dsimp only at hSw); go_simp; (try with_reducible rfl))
        try simp only [Act.put, List.setIfInBounds_toArray, List.set_cons_zero, List.set_cons_succ]
        refine wpAnyH_take (i := 6) (oi := { dst := some 17, op := Op.move (Operand.tmp 16), type := 4, pos := "apart.go:65", after := #[{ on := 5, ground := Ground.data }], guard := none }) (v := ?hdv37) rfl (by kernel_rfl) (by kernel_rfl) (by kernel_rfl) (fun _ _ _ h => h) (Or.inl ⟨by rfl, ?hdy37⟩) (by assumption) ?hdr37
        case hdy37 => (intro w hSw; (try dsimp only at hSw); go_simp; (try with_reducible rfl))
        try simp only [Act.put, List.setIfInBounds_toArray, List.set_cons_zero, List.set_cons_succ]
        refine wpAnyH_take (i := 7) (oi := { dst := some 18, op := Op.load 23 (Operand.tmp 3), type := 23, pos := "apart.go:65", after := #[{ on := 6, ground := Ground.guard }], guard := some (6, false) }) (v := ?hdv38) rfl (by kernel_rfl) (by kernel_rfl) (by kernel_rfl) (fun _ _ _ h => h) (Or.inl ⟨by rfl, ?hdy38⟩) (by assumption) ?hdr38
        case hdy38 => (intro w hSw; (try dsimp only at hSw); go_simp; (try with_reducible rfl))
        try simp only [Act.put, List.setIfInBounds_toArray, List.set_cons_zero, List.set_cons_succ]
        refine wpAnyH_take (i := 8) (oi := { dst := some 19, op := Op.move (Operand.tmp 8), type := 28, pos := "apart.go:65", after := #[{ on := 6, ground := Ground.guard }], guard := some (6, false) }) (v := ?hdv39) rfl (by kernel_rfl) (by kernel_rfl) (by kernel_rfl) (fun _ _ _ h => h) (Or.inl ⟨by rfl, ?hdy39⟩) (by assumption) ?hdr39
        case hdy39 => (intro w hSw; (try dsimp only at hSw); go_simp; (try with_reducible rfl))
        try simp only [Act.put, List.setIfInBounds_toArray, List.set_cons_zero, List.set_cons_succ]
        refine wpAnyH_take (i := 9) (oi := { dst := some 20, op := Op.indexAddr 23 (Operand.tmp 18) (Operand.tmp 19), type := 0, pos := "apart.go:65", after := #[{ on := 7, ground := Ground.data }, { on := 8, ground := Ground.data }, { on := 6, ground := Ground.guard }], guard := some (6, false) }) (v := ?hdv40) rfl (by kernel_rfl) (by kernel_rfl) (by kernel_rfl) (fun _ _ _ h => h) (Or.inl ⟨by rfl, ?hdy40⟩) (by assumption) ?hdr40
        case hdy40 => (intro w hSw; (try dsimp only at hSw); go_simp; (try with_reducible rfl))
        try simp only [Act.put, List.setIfInBounds_toArray, List.set_cons_zero, List.set_cons_succ]
        refine wpAnyH_take (i := 10) (oi := { dst := some 21, op := Op.indexAddr 56 (Operand.tmp 20) (Operand.const (Value.int IntKind.i64 0)), type := 0, pos := "apart.go:65", after := #[{ on := 9, ground := Ground.data }, { on := 6, ground := Ground.guard }], guard := some (6, false) }) (v := ?hdv41) rfl (by kernel_rfl) (by kernel_rfl) (by kernel_rfl) (fun _ _ _ h => h) (Or.inl ⟨by rfl, ?hdy41⟩) (by assumption) ?hdr41
        case hdy41 => (intro w hSw; (try dsimp only at hSw); go_simp; (try with_reducible rfl))
        try simp only [Act.put, List.setIfInBounds_toArray, List.set_cons_zero, List.set_cons_succ]
        refine wpAnyH_take (i := 11) (oi := { dst := some 22, op := Op.load 28 (Operand.tmp 21), type := 28, pos := "apart.go:65", after := #[{ on := 10, ground := Ground.data }, { on := 6, ground := Ground.guard }], guard := some (6, false) }) (v := ?hdv42) rfl (by kernel_rfl) (by kernel_rfl) (by kernel_rfl) (fun _ _ _ h => h) (Or.inl ⟨by rfl, ?hdy42⟩) (by assumption) ?hdr42
        case hdy42 => (intro w hSw; (try dsimp only at hSw); go_simp; (try with_reducible rfl))
        try simp only [Act.put, List.setIfInBounds_toArray, List.set_cons_zero, List.set_cons_succ]
        refine wpAnyH_take (i := 12) (oi := { dst := some 23, op := Op.move (Operand.tmp 8), type := 28, pos := "apart.go:65", after := #[{ on := 6, ground := Ground.guard }], guard := some (6, false) }) (v := ?hdv43) rfl (by kernel_rfl) (by kernel_rfl) (by kernel_rfl) (fun _ _ _ h => h) (Or.inl ⟨by rfl, ?hdy43⟩) (by assumption) ?hdr43
        case hdy43 => (intro w hSw; (try dsimp only at hSw); go_simp; (try with_reducible rfl))
        try simp only [Act.put, List.setIfInBounds_toArray, List.set_cons_zero, List.set_cons_succ]
        refine wpAnyH_take (i := 13) (oi := { dst := some 24, op := Op.binOp BinOp.neq 28 (Operand.tmp 22) (Operand.tmp 23) 28, type := 4, pos := "apart.go:65", after := #[{ on := 11, ground := Ground.data }, { on := 12, ground := Ground.data }, { on := 6, ground := Ground.guard }], guard := some (6, false) }) (v := ?hdv44) rfl (by kernel_rfl) (by kernel_rfl) (by kernel_rfl) (fun _ _ _ h => h) (Or.inl ⟨by rfl, ?hdy44⟩) (by assumption) ?hdr44
        case hdy44 => (intro w hSw; (try dsimp only at hSw); go_simp; (try with_reducible rfl))
        try simp only [Act.put, List.setIfInBounds_toArray, List.set_cons_zero, List.set_cons_succ]
        refine wpAnyH_take (i := 14) (oi := { dst := some 25, op := Op.pick (Operand.tmp 17) (Operand.const (Value.bool true)) (Operand.tmp 24), type := 4, pos := "apart.go:65", after := #[{ on := 6, ground := Ground.data }, { on := 13, ground := Ground.data }], guard := none }) (v := ?hdv45) rfl (by kernel_rfl) (by kernel_rfl) (by kernel_rfl) (fun _ _ _ h => h) (Or.inl ⟨by rfl, ?hdy45⟩) (by assumption) ?hdr45
        case hdy45 => (intro w hSw; (try dsimp only at hSw); go_simp; (try with_reducible rfl))
        try simp only [Act.put, List.setIfInBounds_toArray, List.set_cons_zero, List.set_cons_succ]
        refine wpAnyH_ready (rs := [15]) (by kernel_rfl) (by simp) ?_
        refine AllReadyH.cons (o := { dst := some 26, op := Op.call { callee := Callee.value (Operand.func 34), args := #[Operand.tmp 11, Operand.tmp 12, Operand.const (Value.int IntKind.i64 1), Operand.tmp 25], argTypes := #[58, 22, 3, 4] }, type := 0, pos := "apart.go:65", after := #[{ on := 0, ground := Ground.data }, { on := 1, ground := Ground.data }, { on := 14, ground := Ground.data }, { on := 6, ground := Ground.chain }], guard := none }) rfl (fun K hK => ?_) AllReadyH.nil
        go_simp
        ((with_reducible refine Calls.mono (broken_any db d f k 1 false _ HD.out.drew) ?_); rintro e w2 ⟨⟨x, rfl⟩, hdd, hcc⟩; (try go_wp2_with fail))
        refine Shut.out hK _ _ ?_ (fun hHeldN => ?_)
        · (exact fun b o hne hb => cell_heap (w := World.drew W1) (a := ⟨b, o, none⟩) (hcc.block b hb hne))
        ((try clear hK K); (try clear hHeld))
        try simp only [Act.put, List.setIfInBounds_toArray, List.set_cons_zero, List.set_cons_succ]
        clear hHeldN
        refine wpAnyH_done (by kernel_rfl) ?_ _
        have hE2 := HE.out.chg (w' := w2) ⟨hcc.os, hcc.tape, hcc.output, hcc.size, fun j hj hr => hcc.block j hj (fun e => hr (Or.inl e))⟩
        have hW2 : Wds w2 rb l := (HW.out.drew).keep (hcc.block rb HW.out.lt (fun e => hnd e.symm)) hcc.size
        have hC2 : Chg (Two db rb) w w2 := HC.out.trans ⟨hcc.os, hcc.tape, hcc.output, hcc.size, fun j hj hr => hcc.block j hj (fun e => hr (Or.inl e))⟩
        have HDw2 := Lib.hid hdd
        have HWw2 := Lib.hid hW2
        have HCw2 := Lib.hid hC2
        have HEw2 := Lib.hid hE2
        clear hcc hW2 hE2 hC2 hdd HD HW HC HE
        have hki : (k : Int) < n := by omega
        have hki0 : (0 : Int) ≤ k := Int.natCast_nonneg _
        go_upto_region 3 with fail
        have ct_ := (HEw2.out).t
        have cb_ := (HEw2.out).b
        have bt_ := World.block_lt_of_cell? w2 _ ct_
        have bb_ := World.block_lt_of_cell? w2 _ cb_
        simp only [] at bt_ bb_
        have k1 := (HWw2.out).c k (by (repeat rw [List.length_set]); omega)
        have k2 := (HWw2.out).c (n + k) (by (repeat rw [List.length_set]); omega)
        have g1 := (HWw2.out).f k
        have g2 := (HWw2.out).f (n + k)
        have hW3 := (((HWw2.out).set k 0 (by (repeat rw [List.length_set]); omega)).set (n + k) 0 (by (repeat rw [List.length_set]); omega)).drew
        have hC3 := ((((HCw2.out)).set (p := ⟨rb, k, none⟩) (Or.inl (Or.inr rfl)) (.int .u64 (0 : Nat))).set (p := ⟨rb, n + k, none⟩) (Or.inl (Or.inr rfl)) (.int .u64 (0 : Nat))).dr
        have hD3 := ((HDw2.out.other (p := ⟨rb, k, none⟩) (v := .int .u64 (0 : Nat)) hnd).other (p := ⟨rb, n + k, none⟩) (v := .int .u64 (0 : Nat)) hnd).drawn
        have hE3 := HEw2.out.chg ((((Chg.refl (Two db rb) w2).set (p := ⟨rb, k, none⟩) (Or.inl (Or.inr rfl)) (.int .u64 (0 : Nat))).set (p := ⟨rb, n + k, none⟩) (Or.inl (Or.inr rfl)) (.int .u64 (0 : Nat))).dr)
        have HDw3 := Lib.hid hD3
        have HWw3 := Lib.hid hW3
        have HCw3 := Lib.hid hC3
        have HEw3 := Lib.hid hE3
        clear hD3 hW3 hC3 hE3
        go_region_held3 (fun wz => ∀ b o, b ≠ rb → b < w2.heap.size → wz.cell? ⟨b, o, none⟩ = w2.cell? ⟨b, o, none⟩)
          ((intro b o hne hb; (repeat first | rw [World.cell?_setCell_far _ _ _ _ (by first | omega | (simp; omega) | (simp; done))] | rw [cell_drew] | rw [World.cell?_alloc_past _ _ _ (by first | omega | (simp; omega) | (simp; done))]); done))
          (fail)
        repeat (rename (∀ b o, b ≠ rb → b < w2.heap.size → World.cell? _ ⟨b, o, none⟩ = _) => hSS; clear hSS)
        obtain ⟨w3, hw3⟩ : ∃ W3, ((World.setCell (World.setCell w2 ⟨rb, k, none⟩ (.int .u64 (0 : Int))) ⟨rb, n + k, none⟩ (.int .u64 (0 : Int))).drew) = W3 := ⟨_, rfl⟩
        simp only [Int.cast_ofNat_Int, hw3] at HDw3 HWw3 HCw3 HEw3 ⊢
        clear hw3 k1 k2 g1 g2 ct_ cb_ bt_ bb_
        go_wp2
        go_end0
        exact ⟨⟨_, rfl⟩, HF.out _ _ _ HDw3.out HWw3.out HCw3.out (by rw [← HB.out]) (by rw [← HR.out])⟩
    · have HB := Lib.hid (HB0.out true (by rw [decide_eq_false ht]; rfl))
      have hti : ((t0 : Int) != (l0 : Int)) = true := by rw [bne_iff_ne]; omega
      clear HB0
      by_cases hr : l0 = k
      · have hro : 1 = rooted k l0 := by unfold rooted; rw [if_pos hr]
        have HR := Lib.hid hro
        have hri : ((l0 : Int) == (k : Int)) = true := by rw [beq_iff_eq]; omega
        clear hro ht hr
        refine wp_region_held_drew (S := fun wz => ∀ b o, b ≠ db → b < W1.heap.size → wz.cell? ⟨b, o, none⟩ = W1.cell? ⟨b, o, none⟩) (by kernel_rfl) (fun b o _ _ => rfl) (fun hHeld => ?_)
        refine wpAnyH_take (i := 0) (oi := { dst := some 11, op := Op.load 58 (Operand.tmp 2), type := 58, pos := "apart.go:65", after := #[], guard := none }) (v := ?hdv46) rfl (by kernel_rfl) (by kernel_rfl) (by kernel_rfl) (fun _ _ _ h => h) (Or.inl ⟨by rfl, ?hdy46⟩) (by assumption) ?hdr46
        case hdy46 => (intro w hSw; (try dsimp only at hSw); go_simp; (try with_reducible rfl))
        try simp only [Act.put, List.setIfInBounds_toArray, List.set_cons_zero, List.set_cons_succ]
        refine wpAnyH_take (i := 1) (oi := { dst := some 12, op := Op.move (Operand.tmp 0), type := 22, pos := "apart.go:65", after := #[], guard := none }) (v := ?hdv47) rfl (by kernel_rfl) (by kernel_rfl) (by kernel_rfl) (fun _ _ _ h => h) (Or.inl ⟨by rfl, ?hdy47⟩) (by assumption) ?hdr47
        case hdy47 => (intro w hSw; (try dsimp only at hSw); go_simp; (try with_reducible rfl))
        try simp only [Act.put, List.setIfInBounds_toArray, List.set_cons_zero, List.set_cons_succ]
        refine wpAnyH_take (i := 2) (oi := { dst := some 13, op := Op.move (Operand.tmp 8), type := 28, pos := "apart.go:65", after := #[], guard := none }) (v := ?hdv48) rfl (by kernel_rfl) (by kernel_rfl) (by kernel_rfl) (fun _ _ _ h => h) (Or.inl ⟨by rfl, ?hdy48⟩) (by assumption) ?hdr48
        case hdy48 => (intro w hSw; (try dsimp only at hSw); go_simp; (try with_reducible rfl))
        try simp only [Act.put, List.setIfInBounds_toArray, List.set_cons_zero, List.set_cons_succ]
        refine wpAnyH_take (i := 3) (oi := { dst := some 14, op := Op.move (Operand.tmp 0), type := 22, pos := "apart.go:65", after := #[], guard := none }) (v := ?hdv49) rfl (by kernel_rfl) (by kernel_rfl) (by kernel_rfl) (fun _ _ _ h => h) (Or.inl ⟨by rfl, ?hdy49⟩) (by assumption) ?hdr49
        case hdy49 => (intro w hSw; (try dsimp only at hSw); go_simp; (try with_reducible rfl))
        try simp only [Act.put, List.setIfInBounds_toArray, List.set_cons_zero, List.set_cons_succ]
        refine wpAnyH_take (i := 4) (oi := { dst := some 15, op := Op.convert 22 28 (Operand.tmp 14), type := 28, pos := "apart.go:65", after := #[{ on := 3, ground := Ground.data }], guard := none }) (v := ?hdv50) rfl (by kernel_rfl) (by kernel_rfl) (by kernel_rfl) (fun _ _ _ h => h) (Or.inl ⟨by rfl, ?hdy50⟩) (by assumption) ?hdr50
        case hdy50 => (intro w hSw; (try dsimp only at hSw); go_simp; (try with_reducible rfl))
        try simp only [Act.put, List.setIfInBounds_toArray, List.set_cons_zero, List.set_cons_succ]
        refine wpAnyH_take (i := 5) (oi := { dst := some 16, op := Op.binOp BinOp.gtr 28 (Operand.tmp 13) (Operand.tmp 15) 28, type := 4, pos := "apart.go:65", after := #[{ on := 2, ground := Ground.data }, { on := 4, ground := Ground.data }], guard := none }) (v := ?hdv51) rfl (by kernel_rfl) (by kernel_rfl) (by kernel_rfl) (fun _ _ _ h => h) (Or.inl ⟨by rfl, ?hdy51⟩) (by assumption) ?hdr51
        case hdy51 => (intro w hSw; (try dsimp only at hSw); go_simp; (try with_reducible rfl))
        try simp only [Act.put, List.setIfInBounds_toArray, List.set_cons_zero, List.set_cons_succ]
        refine wpAnyH_take (i := 6) (oi := { dst := some 17, op := Op.move (Operand.tmp 16), type := 4, pos := "apart.go:65", after := #[{ on := 5, ground := Ground.data }], guard := none }) (v := ?hdv52) rfl (by kernel_rfl) (by kernel_rfl) (by kernel_rfl) (fun _ _ _ h => h) (Or.inl ⟨by rfl, ?hdy52⟩) (by assumption) ?hdr52
        case hdy52 => (intro w hSw; (try dsimp only at hSw); go_simp; (try with_reducible rfl))
        try simp only [Act.put, List.setIfInBounds_toArray, List.set_cons_zero, List.set_cons_succ]
        refine wpAnyH_take (i := 7) (oi := { dst := some 18, op := Op.load 23 (Operand.tmp 3), type := 23, pos := "apart.go:65", after := #[{ on := 6, ground := Ground.guard }], guard := some (6, false) }) (v := ?hdv53) rfl (by kernel_rfl) (by kernel_rfl) (by kernel_rfl) (fun _ _ _ h => h) (Or.inl ⟨by rfl, ?hdy53⟩) (by assumption) ?hdr53
        case hdy53 => (intro w hSw; (try dsimp only at hSw); go_simp; (try with_reducible rfl))
        try simp only [Act.put, List.setIfInBounds_toArray, List.set_cons_zero, List.set_cons_succ]
        refine wpAnyH_take (i := 8) (oi := { dst := some 19, op := Op.move (Operand.tmp 8), type := 28, pos := "apart.go:65", after := #[{ on := 6, ground := Ground.guard }], guard := some (6, false) }) (v := ?hdv54) rfl (by kernel_rfl) (by kernel_rfl) (by kernel_rfl) (fun _ _ _ h => h) (Or.inl ⟨by rfl, ?hdy54⟩) (by assumption) ?hdr54
        case hdy54 => (intro w hSw; (try dsimp only at hSw); go_simp; (try with_reducible rfl))
        try simp only [Act.put, List.setIfInBounds_toArray, List.set_cons_zero, List.set_cons_succ]
        refine wpAnyH_take (i := 9) (oi := { dst := some 20, op := Op.indexAddr 23 (Operand.tmp 18) (Operand.tmp 19), type := 0, pos := "apart.go:65", after := #[{ on := 7, ground := Ground.data }, { on := 8, ground := Ground.data }, { on := 6, ground := Ground.guard }], guard := some (6, false) }) (v := ?hdv55) rfl (by kernel_rfl) (by kernel_rfl) (by kernel_rfl) (fun _ _ _ h => h) (Or.inl ⟨by rfl, ?hdy55⟩) (by assumption) ?hdr55
        case hdy55 => (intro w hSw; (try dsimp only at hSw); go_simp; (try with_reducible rfl))
        try simp only [Act.put, List.setIfInBounds_toArray, List.set_cons_zero, List.set_cons_succ]
        refine wpAnyH_take (i := 10) (oi := { dst := some 21, op := Op.indexAddr 56 (Operand.tmp 20) (Operand.const (Value.int IntKind.i64 0)), type := 0, pos := "apart.go:65", after := #[{ on := 9, ground := Ground.data }, { on := 6, ground := Ground.guard }], guard := some (6, false) }) (v := ?hdv56) rfl (by kernel_rfl) (by kernel_rfl) (by kernel_rfl) (fun _ _ _ h => h) (Or.inl ⟨by rfl, ?hdy56⟩) (by assumption) ?hdr56
        case hdy56 => (intro w hSw; (try dsimp only at hSw); go_simp; (try with_reducible rfl))
        try simp only [Act.put, List.setIfInBounds_toArray, List.set_cons_zero, List.set_cons_succ]
        refine wpAnyH_take (i := 11) (oi := { dst := some 22, op := Op.load 28 (Operand.tmp 21), type := 28, pos := "apart.go:65", after := #[{ on := 10, ground := Ground.data }, { on := 6, ground := Ground.guard }], guard := some (6, false) }) (v := ?hdv57) rfl (by kernel_rfl) (by kernel_rfl) (by kernel_rfl) (fun _ _ _ h => h) (Or.inl ⟨by rfl, ?hdy57⟩) (by assumption) ?hdr57
        case hdy57 => (intro w hSw; (try dsimp only at hSw); go_simp; (try with_reducible rfl))
        try simp only [Act.put, List.setIfInBounds_toArray, List.set_cons_zero, List.set_cons_succ]
        refine wpAnyH_take (i := 12) (oi := { dst := some 23, op := Op.move (Operand.tmp 8), type := 28, pos := "apart.go:65", after := #[{ on := 6, ground := Ground.guard }], guard := some (6, false) }) (v := ?hdv58) rfl (by kernel_rfl) (by kernel_rfl) (by kernel_rfl) (fun _ _ _ h => h) (Or.inl ⟨by rfl, ?hdy58⟩) (by assumption) ?hdr58
        case hdy58 => (intro w hSw; (try dsimp only at hSw); go_simp; (try with_reducible rfl))
        try simp only [Act.put, List.setIfInBounds_toArray, List.set_cons_zero, List.set_cons_succ]
        refine wpAnyH_take (i := 13) (oi := { dst := some 24, op := Op.binOp BinOp.neq 28 (Operand.tmp 22) (Operand.tmp 23) 28, type := 4, pos := "apart.go:65", after := #[{ on := 11, ground := Ground.data }, { on := 12, ground := Ground.data }, { on := 6, ground := Ground.guard }], guard := some (6, false) }) (v := ?hdv59) rfl (by kernel_rfl) (by kernel_rfl) (by kernel_rfl) (fun _ _ _ h => h) (Or.inl ⟨by rfl, ?hdy59⟩) (by assumption) ?hdr59
        case hdy59 => (intro w hSw; (try dsimp only at hSw); go_simp; (try with_reducible rfl))
        try simp only [Act.put, List.setIfInBounds_toArray, List.set_cons_zero, List.set_cons_succ]
        refine wpAnyH_take (i := 14) (oi := { dst := some 25, op := Op.pick (Operand.tmp 17) (Operand.const (Value.bool true)) (Operand.tmp 24), type := 4, pos := "apart.go:65", after := #[{ on := 6, ground := Ground.data }, { on := 13, ground := Ground.data }], guard := none }) (v := ?hdv60) rfl (by kernel_rfl) (by kernel_rfl) (by kernel_rfl) (fun _ _ _ h => h) (Or.inl ⟨by rfl, ?hdy60⟩) (by assumption) ?hdr60
        case hdy60 => (intro w hSw; (try dsimp only at hSw); go_simp; (try with_reducible rfl))
        try simp only [Act.put, List.setIfInBounds_toArray, List.set_cons_zero, List.set_cons_succ]
        refine wpAnyH_ready (rs := [15]) (by kernel_rfl) (by simp) ?_
        refine AllReadyH.cons (o := { dst := some 26, op := Op.call { callee := Callee.value (Operand.func 34), args := #[Operand.tmp 11, Operand.tmp 12, Operand.const (Value.int IntKind.i64 1), Operand.tmp 25], argTypes := #[58, 22, 3, 4] }, type := 0, pos := "apart.go:65", after := #[{ on := 0, ground := Ground.data }, { on := 1, ground := Ground.data }, { on := 14, ground := Ground.data }, { on := 6, ground := Ground.chain }], guard := none }) rfl (fun K hK => ?_) AllReadyH.nil
        go_simp
        ((with_reducible refine Calls.mono (broken_any db d f k 1 true _ HD.out.drew) ?_); rintro e w2 ⟨⟨x, rfl⟩, hdd, hcc⟩; (try go_wp2_with fail))
        refine Shut.out hK _ _ ?_ (fun hHeldN => ?_)
        · (exact fun b o hne hb => cell_heap (w := World.drew W1) (a := ⟨b, o, none⟩) (hcc.block b hb hne))
        ((try clear hK K); (try clear hHeld))
        try simp only [Act.put, List.setIfInBounds_toArray, List.set_cons_zero, List.set_cons_succ]
        clear hHeldN
        refine wpAnyH_done (by kernel_rfl) ?_ _
        have hE2 := HE.out.chg (w' := w2) ⟨hcc.os, hcc.tape, hcc.output, hcc.size, fun j hj hr => hcc.block j hj (fun e => hr (Or.inl e))⟩
        have hW2 : Wds w2 rb l := (HW.out.drew).keep (hcc.block rb HW.out.lt (fun e => hnd e.symm)) hcc.size
        have hC2 : Chg (Two db rb) w w2 := HC.out.trans ⟨hcc.os, hcc.tape, hcc.output, hcc.size, fun j hj hr => hcc.block j hj (fun e => hr (Or.inl e))⟩
        have HDw2 := Lib.hid hdd
        have HWw2 := Lib.hid hW2
        have HCw2 := Lib.hid hC2
        have HEw2 := Lib.hid hE2
        clear hcc hW2 hE2 hC2 hdd HD HW HC HE
        have hki : (k : Int) < n := by omega
        have hki0 : (0 : Int) ≤ k := Int.natCast_nonneg _
        go_upto_region 3 with fail
        have ct_ := (HEw2.out).t
        have cb_ := (HEw2.out).b
        have bt_ := World.block_lt_of_cell? w2 _ ct_
        have bb_ := World.block_lt_of_cell? w2 _ cb_
        simp only [] at bt_ bb_
        have k1 := (HWw2.out).c k (by (repeat rw [List.length_set]); omega)
        have k2 := (HWw2.out).c (n + k) (by (repeat rw [List.length_set]); omega)
        have g1 := (HWw2.out).f k
        have g2 := (HWw2.out).f (n + k)
        have hW3 := (((HWw2.out).set k 0 (by (repeat rw [List.length_set]); omega)).set (n + k) 0 (by (repeat rw [List.length_set]); omega)).drew
        have hC3 := ((((HCw2.out)).set (p := ⟨rb, k, none⟩) (Or.inl (Or.inr rfl)) (.int .u64 (0 : Nat))).set (p := ⟨rb, n + k, none⟩) (Or.inl (Or.inr rfl)) (.int .u64 (0 : Nat))).dr
        have hD3 := ((HDw2.out.other (p := ⟨rb, k, none⟩) (v := .int .u64 (0 : Nat)) hnd).other (p := ⟨rb, n + k, none⟩) (v := .int .u64 (0 : Nat)) hnd).drawn
        have hE3 := HEw2.out.chg ((((Chg.refl (Two db rb) w2).set (p := ⟨rb, k, none⟩) (Or.inl (Or.inr rfl)) (.int .u64 (0 : Nat))).set (p := ⟨rb, n + k, none⟩) (Or.inl (Or.inr rfl)) (.int .u64 (0 : Nat))).dr)
        have HDw3 := Lib.hid hD3
        have HWw3 := Lib.hid hW3
        have HCw3 := Lib.hid hC3
        have HEw3 := Lib.hid hE3
        clear hD3 hW3 hC3 hE3
        go_region_held3 (fun wz => ∀ b o, b ≠ rb → b < w2.heap.size → wz.cell? ⟨b, o, none⟩ = w2.cell? ⟨b, o, none⟩)
          ((intro b o hne hb; (repeat first | rw [World.cell?_setCell_far _ _ _ _ (by first | omega | (simp; omega) | (simp; done))] | rw [cell_drew] | rw [World.cell?_alloc_past _ _ _ (by first | omega | (simp; omega) | (simp; done))]); done))
          (fail)
        repeat (rename (∀ b o, b ≠ rb → b < w2.heap.size → World.cell? _ ⟨b, o, none⟩ = _) => hSS; clear hSS)
        obtain ⟨w3, hw3⟩ : ∃ W3, ((World.setCell (World.setCell w2 ⟨rb, k, none⟩ (.int .u64 (0 : Int))) ⟨rb, n + k, none⟩ (.int .u64 (0 : Int))).drew) = W3 := ⟨_, rfl⟩
        simp only [Int.cast_ofNat_Int, hw3] at HDw3 HWw3 HCw3 HEw3 ⊢
        clear hw3 k1 k2 g1 g2 ct_ cb_ bt_ bb_
        go_upto_region 5 with fail
        have ct_ := (HEw3.out).t
        have cb_ := (HEw3.out).b
        have bt_ := World.block_lt_of_cell? w3 _ ct_
        have bb_ := World.block_lt_of_cell? w3 _ cb_
        simp only [] at bt_ bb_
        have k1 := (HWw3.out).c k (by (repeat rw [List.length_set]); omega)
        have k2 := (HWw3.out).c (n + k) (by (repeat rw [List.length_set]); omega)
        have g1 := (HWw3.out).f k
        have g2 := (HWw3.out).f (n + k)
        have hW3 := (((HWw3.out).set k 1 (by (repeat rw [List.length_set]); omega)).set (n + k) 1 (by (repeat rw [List.length_set]); omega)).drew
        have hC3 := ((((HCw3.out)).set (p := ⟨rb, k, none⟩) (Or.inl (Or.inr rfl)) (.int .u64 (1 : Nat))).set (p := ⟨rb, n + k, none⟩) (Or.inl (Or.inr rfl)) (.int .u64 (1 : Nat))).dr
        have hD3 := ((HDw3.out.other (p := ⟨rb, k, none⟩) (v := .int .u64 (1 : Nat)) hnd).other (p := ⟨rb, n + k, none⟩) (v := .int .u64 (1 : Nat)) hnd).drawn
        have hE3 := HEw3.out.chg ((((Chg.refl (Two db rb) w3).set (p := ⟨rb, k, none⟩) (Or.inl (Or.inr rfl)) (.int .u64 (1 : Nat))).set (p := ⟨rb, n + k, none⟩) (Or.inl (Or.inr rfl)) (.int .u64 (1 : Nat))).dr)
        have HDw4 := Lib.hid hD3
        have HWw4 := Lib.hid hW3
        have HCw4 := Lib.hid hC3
        have HEw4 := Lib.hid hE3
        clear hD3 hW3 hC3 hE3
        go_region_held3 (fun wz => ∀ b o, b ≠ rb → b < w3.heap.size → wz.cell? ⟨b, o, none⟩ = w3.cell? ⟨b, o, none⟩)
          ((intro b o hne hb; (repeat first | rw [World.cell?_setCell_far _ _ _ _ (by first | omega | (simp; omega) | (simp; done))] | rw [cell_drew] | rw [World.cell?_alloc_past _ _ _ (by first | omega | (simp; omega) | (simp; done))]); done))
          (fail)
        repeat (rename (∀ b o, b ≠ rb → b < w3.heap.size → World.cell? _ ⟨b, o, none⟩ = _) => hSS; clear hSS)
        obtain ⟨w4, hw4⟩ : ∃ W3, ((World.setCell (World.setCell w3 ⟨rb, k, none⟩ (.int .u64 (1 : Int))) ⟨rb, n + k, none⟩ (.int .u64 (1 : Int))).drew) = W3 := ⟨_, rfl⟩
        simp only [Int.cast_ofNat_Int, hw4] at HDw4 HWw4 HCw4 HEw4 ⊢
        clear hw4 k1 k2 g1 g2 ct_ cb_ bt_ bb_
        go_wp2
        go_end0
        exact ⟨⟨_, rfl⟩, HF.out _ _ _ HDw4.out HWw4.out HCw4.out (by rw [← HB.out]) (by rw [← HR.out, set_twice _ _ _ _ _ (by omega)])⟩
      · have hro : 0 = rooted k l0 := by unfold rooted; rw [if_neg hr]
        have HR := Lib.hid hro
        have hri : ((l0 : Int) == (k : Int)) = false := by rw [beq_eq_false_iff_ne]; omega
        clear hro ht hr
        refine wp_region_held_drew (S := fun wz => ∀ b o, b ≠ db → b < W1.heap.size → wz.cell? ⟨b, o, none⟩ = W1.cell? ⟨b, o, none⟩) (by kernel_rfl) (fun b o _ _ => rfl) (fun hHeld => ?_)
        refine wpAnyH_take (i := 0) (oi := { dst := some 11, op := Op.load 58 (Operand.tmp 2), type := 58, pos := "apart.go:65", after := #[], guard := none }) (v := ?hdv61) rfl (by kernel_rfl) (by kernel_rfl) (by kernel_rfl) (fun _ _ _ h => h) (Or.inl ⟨by rfl, ?hdy61⟩) (by assumption) ?hdr61
        case hdy61 => (intro w hSw; (try dsimp only at hSw); go_simp; (try with_reducible rfl))
        try simp only [Act.put, List.setIfInBounds_toArray, List.set_cons_zero, List.set_cons_succ]
        refine wpAnyH_take (i := 1) (oi := { dst := some 12, op := Op.move (Operand.tmp 0), type := 22, pos := "apart.go:65", after := #[], guard := none }) (v := ?hdv62) rfl (by kernel_rfl) (by kernel_rfl) (by kernel_rfl) (fun _ _ _ h => h) (Or.inl ⟨by rfl, ?hdy62⟩) (by assumption) ?hdr62
        case hdy62 => (intro w hSw; (try dsimp only at hSw); go_simp; (try with_reducible rfl))
        try simp only [Act.put, List.setIfInBounds_toArray, List.set_cons_zero, List.set_cons_succ]
        refine wpAnyH_take (i := 2) (oi := { dst := some 13, op := Op.move (Operand.tmp 8), type := 28, pos := "apart.go:65", after := #[], guard := none }) (v := ?hdv63) rfl (by kernel_rfl) (by kernel_rfl) (by kernel_rfl) (fun _ _ _ h => h) (Or.inl ⟨by rfl, ?hdy63⟩) (by assumption) ?hdr63
        case hdy63 => (intro w hSw; (try dsimp only at hSw); go_simp; (try with_reducible rfl))
        try simp only [Act.put, List.setIfInBounds_toArray, List.set_cons_zero, List.set_cons_succ]
        refine wpAnyH_take (i := 3) (oi := { dst := some 14, op := Op.move (Operand.tmp 0), type := 22, pos := "apart.go:65", after := #[], guard := none }) (v := ?hdv64) rfl (by kernel_rfl) (by kernel_rfl) (by kernel_rfl) (fun _ _ _ h => h) (Or.inl ⟨by rfl, ?hdy64⟩) (by assumption) ?hdr64
        case hdy64 => (intro w hSw; (try dsimp only at hSw); go_simp; (try with_reducible rfl))
        try simp only [Act.put, List.setIfInBounds_toArray, List.set_cons_zero, List.set_cons_succ]
        refine wpAnyH_take (i := 4) (oi := { dst := some 15, op := Op.convert 22 28 (Operand.tmp 14), type := 28, pos := "apart.go:65", after := #[{ on := 3, ground := Ground.data }], guard := none }) (v := ?hdv65) rfl (by kernel_rfl) (by kernel_rfl) (by kernel_rfl) (fun _ _ _ h => h) (Or.inl ⟨by rfl, ?hdy65⟩) (by assumption) ?hdr65
        case hdy65 => (intro w hSw; (try dsimp only at hSw); go_simp; (try with_reducible rfl))
        try simp only [Act.put, List.setIfInBounds_toArray, List.set_cons_zero, List.set_cons_succ]
        refine wpAnyH_take (i := 5) (oi := { dst := some 16, op := Op.binOp BinOp.gtr 28 (Operand.tmp 13) (Operand.tmp 15) 28, type := 4, pos := "apart.go:65", after := #[{ on := 2, ground := Ground.data }, { on := 4, ground := Ground.data }], guard := none }) (v := ?hdv66) rfl (by kernel_rfl) (by kernel_rfl) (by kernel_rfl) (fun _ _ _ h => h) (Or.inl ⟨by rfl, ?hdy66⟩) (by assumption) ?hdr66
        case hdy66 => (intro w hSw; (try dsimp only at hSw); go_simp; (try with_reducible rfl))
        try simp only [Act.put, List.setIfInBounds_toArray, List.set_cons_zero, List.set_cons_succ]
        refine wpAnyH_take (i := 6) (oi := { dst := some 17, op := Op.move (Operand.tmp 16), type := 4, pos := "apart.go:65", after := #[{ on := 5, ground := Ground.data }], guard := none }) (v := ?hdv67) rfl (by kernel_rfl) (by kernel_rfl) (by kernel_rfl) (fun _ _ _ h => h) (Or.inl ⟨by rfl, ?hdy67⟩) (by assumption) ?hdr67
        case hdy67 => (intro w hSw; (try dsimp only at hSw); go_simp; (try with_reducible rfl))
        try simp only [Act.put, List.setIfInBounds_toArray, List.set_cons_zero, List.set_cons_succ]
        refine wpAnyH_take (i := 7) (oi := { dst := some 18, op := Op.load 23 (Operand.tmp 3), type := 23, pos := "apart.go:65", after := #[{ on := 6, ground := Ground.guard }], guard := some (6, false) }) (v := ?hdv68) rfl (by kernel_rfl) (by kernel_rfl) (by kernel_rfl) (fun _ _ _ h => h) (Or.inl ⟨by rfl, ?hdy68⟩) (by assumption) ?hdr68
        case hdy68 => (intro w hSw; (try dsimp only at hSw); go_simp; (try with_reducible rfl))
        try simp only [Act.put, List.setIfInBounds_toArray, List.set_cons_zero, List.set_cons_succ]
        refine wpAnyH_take (i := 8) (oi := { dst := some 19, op := Op.move (Operand.tmp 8), type := 28, pos := "apart.go:65", after := #[{ on := 6, ground := Ground.guard }], guard := some (6, false) }) (v := ?hdv69) rfl (by kernel_rfl) (by kernel_rfl) (by kernel_rfl) (fun _ _ _ h => h) (Or.inl ⟨by rfl, ?hdy69⟩) (by assumption) ?hdr69
        case hdy69 => (intro w hSw; (try dsimp only at hSw); go_simp; (try with_reducible rfl))
        try simp only [Act.put, List.setIfInBounds_toArray, List.set_cons_zero, List.set_cons_succ]
        refine wpAnyH_take (i := 9) (oi := { dst := some 20, op := Op.indexAddr 23 (Operand.tmp 18) (Operand.tmp 19), type := 0, pos := "apart.go:65", after := #[{ on := 7, ground := Ground.data }, { on := 8, ground := Ground.data }, { on := 6, ground := Ground.guard }], guard := some (6, false) }) (v := ?hdv70) rfl (by kernel_rfl) (by kernel_rfl) (by kernel_rfl) (fun _ _ _ h => h) (Or.inl ⟨by rfl, ?hdy70⟩) (by assumption) ?hdr70
        case hdy70 => (intro w hSw; (try dsimp only at hSw); go_simp; (try with_reducible rfl))
        try simp only [Act.put, List.setIfInBounds_toArray, List.set_cons_zero, List.set_cons_succ]
        refine wpAnyH_take (i := 10) (oi := { dst := some 21, op := Op.indexAddr 56 (Operand.tmp 20) (Operand.const (Value.int IntKind.i64 0)), type := 0, pos := "apart.go:65", after := #[{ on := 9, ground := Ground.data }, { on := 6, ground := Ground.guard }], guard := some (6, false) }) (v := ?hdv71) rfl (by kernel_rfl) (by kernel_rfl) (by kernel_rfl) (fun _ _ _ h => h) (Or.inl ⟨by rfl, ?hdy71⟩) (by assumption) ?hdr71
        case hdy71 => (intro w hSw; (try dsimp only at hSw); go_simp; (try with_reducible rfl))
        try simp only [Act.put, List.setIfInBounds_toArray, List.set_cons_zero, List.set_cons_succ]
        refine wpAnyH_take (i := 11) (oi := { dst := some 22, op := Op.load 28 (Operand.tmp 21), type := 28, pos := "apart.go:65", after := #[{ on := 10, ground := Ground.data }, { on := 6, ground := Ground.guard }], guard := some (6, false) }) (v := ?hdv72) rfl (by kernel_rfl) (by kernel_rfl) (by kernel_rfl) (fun _ _ _ h => h) (Or.inl ⟨by rfl, ?hdy72⟩) (by assumption) ?hdr72
        case hdy72 => (intro w hSw; (try dsimp only at hSw); go_simp; (try with_reducible rfl))
        try simp only [Act.put, List.setIfInBounds_toArray, List.set_cons_zero, List.set_cons_succ]
        refine wpAnyH_take (i := 12) (oi := { dst := some 23, op := Op.move (Operand.tmp 8), type := 28, pos := "apart.go:65", after := #[{ on := 6, ground := Ground.guard }], guard := some (6, false) }) (v := ?hdv73) rfl (by kernel_rfl) (by kernel_rfl) (by kernel_rfl) (fun _ _ _ h => h) (Or.inl ⟨by rfl, ?hdy73⟩) (by assumption) ?hdr73
        case hdy73 => (intro w hSw; (try dsimp only at hSw); go_simp; (try with_reducible rfl))
        try simp only [Act.put, List.setIfInBounds_toArray, List.set_cons_zero, List.set_cons_succ]
        refine wpAnyH_take (i := 13) (oi := { dst := some 24, op := Op.binOp BinOp.neq 28 (Operand.tmp 22) (Operand.tmp 23) 28, type := 4, pos := "apart.go:65", after := #[{ on := 11, ground := Ground.data }, { on := 12, ground := Ground.data }, { on := 6, ground := Ground.guard }], guard := some (6, false) }) (v := ?hdv74) rfl (by kernel_rfl) (by kernel_rfl) (by kernel_rfl) (fun _ _ _ h => h) (Or.inl ⟨by rfl, ?hdy74⟩) (by assumption) ?hdr74
        case hdy74 => (intro w hSw; (try dsimp only at hSw); go_simp; (try with_reducible rfl))
        try simp only [Act.put, List.setIfInBounds_toArray, List.set_cons_zero, List.set_cons_succ]
        refine wpAnyH_take (i := 14) (oi := { dst := some 25, op := Op.pick (Operand.tmp 17) (Operand.const (Value.bool true)) (Operand.tmp 24), type := 4, pos := "apart.go:65", after := #[{ on := 6, ground := Ground.data }, { on := 13, ground := Ground.data }], guard := none }) (v := ?hdv75) rfl (by kernel_rfl) (by kernel_rfl) (by kernel_rfl) (fun _ _ _ h => h) (Or.inl ⟨by rfl, ?hdy75⟩) (by assumption) ?hdr75
        case hdy75 => (intro w hSw; (try dsimp only at hSw); go_simp; (try with_reducible rfl))
        try simp only [Act.put, List.setIfInBounds_toArray, List.set_cons_zero, List.set_cons_succ]
        refine wpAnyH_ready (rs := [15]) (by kernel_rfl) (by simp) ?_
        refine AllReadyH.cons (o := { dst := some 26, op := Op.call { callee := Callee.value (Operand.func 34), args := #[Operand.tmp 11, Operand.tmp 12, Operand.const (Value.int IntKind.i64 1), Operand.tmp 25], argTypes := #[58, 22, 3, 4] }, type := 0, pos := "apart.go:65", after := #[{ on := 0, ground := Ground.data }, { on := 1, ground := Ground.data }, { on := 14, ground := Ground.data }, { on := 6, ground := Ground.chain }], guard := none }) rfl (fun K hK => ?_) AllReadyH.nil
        go_simp
        ((with_reducible refine Calls.mono (broken_any db d f k 1 true _ HD.out.drew) ?_); rintro e w2 ⟨⟨x, rfl⟩, hdd, hcc⟩; (try go_wp2_with fail))
        refine Shut.out hK _ _ ?_ (fun hHeldN => ?_)
        · (exact fun b o hne hb => cell_heap (w := World.drew W1) (a := ⟨b, o, none⟩) (hcc.block b hb hne))
        ((try clear hK K); (try clear hHeld))
        try simp only [Act.put, List.setIfInBounds_toArray, List.set_cons_zero, List.set_cons_succ]
        clear hHeldN
        refine wpAnyH_done (by kernel_rfl) ?_ _
        have hE2 := HE.out.chg (w' := w2) ⟨hcc.os, hcc.tape, hcc.output, hcc.size, fun j hj hr => hcc.block j hj (fun e => hr (Or.inl e))⟩
        have hW2 : Wds w2 rb l := (HW.out.drew).keep (hcc.block rb HW.out.lt (fun e => hnd e.symm)) hcc.size
        have hC2 : Chg (Two db rb) w w2 := HC.out.trans ⟨hcc.os, hcc.tape, hcc.output, hcc.size, fun j hj hr => hcc.block j hj (fun e => hr (Or.inl e))⟩
        have HDw2 := Lib.hid hdd
        have HWw2 := Lib.hid hW2
        have HCw2 := Lib.hid hC2
        have HEw2 := Lib.hid hE2
        clear hcc hW2 hE2 hC2 hdd HD HW HC HE
        have hki : (k : Int) < n := by omega
        have hki0 : (0 : Int) ≤ k := Int.natCast_nonneg _
        go_upto_region 3 with fail
        have ct_ := (HEw2.out).t
        have cb_ := (HEw2.out).b
        have bt_ := World.block_lt_of_cell? w2 _ ct_
        have bb_ := World.block_lt_of_cell? w2 _ cb_
        simp only [] at bt_ bb_
        have k1 := (HWw2.out).c k (by (repeat rw [List.length_set]); omega)
        have k2 := (HWw2.out).c (n + k) (by (repeat rw [List.length_set]); omega)
        have g1 := (HWw2.out).f k
        have g2 := (HWw2.out).f (n + k)
        have hW3 := (((HWw2.out).set k 0 (by (repeat rw [List.length_set]); omega)).set (n + k) 0 (by (repeat rw [List.length_set]); omega)).drew
        have hC3 := ((((HCw2.out)).set (p := ⟨rb, k, none⟩) (Or.inl (Or.inr rfl)) (.int .u64 (0 : Nat))).set (p := ⟨rb, n + k, none⟩) (Or.inl (Or.inr rfl)) (.int .u64 (0 : Nat))).dr
        have hD3 := ((HDw2.out.other (p := ⟨rb, k, none⟩) (v := .int .u64 (0 : Nat)) hnd).other (p := ⟨rb, n + k, none⟩) (v := .int .u64 (0 : Nat)) hnd).drawn
        have hE3 := HEw2.out.chg ((((Chg.refl (Two db rb) w2).set (p := ⟨rb, k, none⟩) (Or.inl (Or.inr rfl)) (.int .u64 (0 : Nat))).set (p := ⟨rb, n + k, none⟩) (Or.inl (Or.inr rfl)) (.int .u64 (0 : Nat))).dr)
        have HDw3 := Lib.hid hD3
        have HWw3 := Lib.hid hW3
        have HCw3 := Lib.hid hC3
        have HEw3 := Lib.hid hE3
        clear hD3 hW3 hC3 hE3
        go_region_held3 (fun wz => ∀ b o, b ≠ rb → b < w2.heap.size → wz.cell? ⟨b, o, none⟩ = w2.cell? ⟨b, o, none⟩)
          ((intro b o hne hb; (repeat first | rw [World.cell?_setCell_far _ _ _ _ (by first | omega | (simp; omega) | (simp; done))] | rw [cell_drew] | rw [World.cell?_alloc_past _ _ _ (by first | omega | (simp; omega) | (simp; done))]); done))
          (fail)
        repeat (rename (∀ b o, b ≠ rb → b < w2.heap.size → World.cell? _ ⟨b, o, none⟩ = _) => hSS; clear hSS)
        obtain ⟨w3, hw3⟩ : ∃ W3, ((World.setCell (World.setCell w2 ⟨rb, k, none⟩ (.int .u64 (0 : Int))) ⟨rb, n + k, none⟩ (.int .u64 (0 : Int))).drew) = W3 := ⟨_, rfl⟩
        simp only [Int.cast_ofNat_Int, hw3] at HDw3 HWw3 HCw3 HEw3 ⊢
        clear hw3 k1 k2 g1 g2 ct_ cb_ bt_ bb_
        go_wp2
        go_end0
        exact ⟨⟨_, rfl⟩, HF.out _ _ _ HDw3.out HWw3.out HCw3.out (by rw [← HB.out]) (by rw [← HR.out])⟩

end Go.Proofs.Ytohmeobfiomfdaa
