/-
  Blocks known whole; the abstract program of a run; folded.
-/
import Derived.Test.YtjmggfpomnnegaaDeg
import Derived.Test.YtjmggfpomnnegaaMon
namespace Go.Proofs.Ytjmggfpomnnegaa
open Go.RowKit
set_option maxRecDepth 100000

/-- Block b holds just these cells. -/
def isBlk (w : World) (b : Nat) (T : TypeId) (vs : List Value) : Prop := w.heap[b]? = some (.cells vs.toArray T (0, 0))

theorem isBlk.cell {w : World} {b : Nat} {T : TypeId} {vs : List Value} (h : isBlk w b T vs) (i : Nat) : w.cell? ⟨b, i, none⟩ = vs[i]? := by
  unfold isBlk at h
  simp [World.cell?, h]
theorem isBlk.frozen {w : World} {b : Nat} {T : TypeId} {vs : List Value} (h : isBlk w b T vs) (i : Nat) : w.frozen? ⟨b, i, none⟩ = false := by
  unfold isBlk at h
  simp [World.frozen?, h]
theorem isBlk.lt {w : World} {b : Nat} {T : TypeId} {vs : List Value} (h : isBlk w b T vs) : b < w.heap.size := by
  unfold isBlk at h
  exact (Array.getElem?_eq_some_iff.1 h).1
theorem isBlk.below {w w' : World} {b B : Nat} {T : TypeId} {vs : List Value} (h : isBlk w b T vs) (hb : Below B w w') (hB : b < B) : isBlk w' b T vs := by
  unfold isBlk at h ⊢
  rw [hb.block b hB, h]
theorem isBlk.set {w : World} {b : Nat} {T : TypeId} {vs : List Value} (h : isBlk w b T vs) (i : Nat) (v : Value) : isBlk (w.setCell ⟨b, i, none⟩ v) b T (vs.set i v) := by
  unfold isBlk at h ⊢
  simp [World.setCell, Array.getElem?_modify, h]
theorem isBlk.other {w : World} {b : Nat} {T : TypeId} {vs : List Value} (h : isBlk w b T vs) {p : Addr} {v : Value} (hp : b ≠ p.block) : isBlk (w.setCell p v) b T vs := by
  unfold isBlk at h ⊢
  rw [Below.heap_setCell _ _ _ _ hp, h]
theorem isBlk.new (w : World) (T : TypeId) (vs : List Value) : isBlk (w.alloc (.cells vs.toArray T)) w.heap.size T vs := heap_alloc_new w _
theorem isBlk.old {w : World} {b : Nat} {T : TypeId} {vs : List Value} (h : isBlk w b T vs) (o : Obj) : isBlk (w.alloc o) b T vs := by
  have hl := h.lt
  unfold isBlk at h ⊢
  rw [Below.heap_alloc _ _ _ hl, h]
theorem isBlk.drew {w : World} {b : Nat} {T : TypeId} {vs : List Value} (h : isBlk w b T vs) : isBlk w.drew b T vs := h
theorem isBlk.st {w : World} {b : Nat} {s : St} (h : isBlk w b 25 s.cells) : w.cell? ⟨b, 0, none⟩ = some (.int .u64 s.a0) ∧ w.cell? ⟨b, 1, none⟩ = some (.int .u64 s.a1) ∧ w.cell? ⟨b, 2, none⟩ = some (.int .u64 s.a2) ∧ w.cell? ⟨b, 3, none⟩ = some (.int .u64 s.a3) ∧ w.cell? ⟨b, 4, none⟩ = some (.int .u64 s.a4) ∧ w.cell? ⟨b, 5, none⟩ = some (.int .u64 s.a5) ∧ w.cell? ⟨b, 6, none⟩ = some (.int .u64 s.a6) ∧ w.cell? ⟨b, 7, none⟩ = some (.int .u64 s.a7) :=
  ⟨h.cell 0, h.cell 1, h.cell 2, h.cell 3, h.cell 4, h.cell 5, h.cell 6, h.cell 7⟩
theorem isBlk.ct {w : World} {b : Nat} {c : Ct} (h : isBlk w b 35 [.int .u64 c.k0, .int .u64 c.k1, .int .u64 c.k2, .int .u64 c.k3]) : w.cell? ⟨b, 0, none⟩ = some (.int .u64 c.k0) ∧ w.cell? ⟨b, 1, none⟩ = some (.int .u64 c.k1) ∧ w.cell? ⟨b, 2, none⟩ = some (.int .u64 c.k2) ∧ w.cell? ⟨b, 3, none⟩ = some (.int .u64 c.k3) :=
  ⟨h.cell 0, h.cell 1, h.cell 2, h.cell 3⟩

theorem cell_drew (w : World) (a : Addr) : w.drew.cell? a = w.cell? a := rfl

theorem isBlk.st8 {w : World} {b : Nat} {s : St} (h : isBlk w b 25 s.cells) (x : St) : isBlk (((((((((w.setCell ⟨b, 0, none⟩ (.int .u64 x.a0)).setCell ⟨b, 1, none⟩ (.int .u64 x.a1)).setCell ⟨b, 2, none⟩ (.int .u64 x.a2)).setCell ⟨b, 3, none⟩ (.int .u64 x.a3)).setCell ⟨b, 4, none⟩ (.int .u64 x.a4)).setCell ⟨b, 5, none⟩ (.int .u64 x.a5)).setCell ⟨b, 6, none⟩ (.int .u64 x.a6)).setCell ⟨b, 7, none⟩ (.int .u64 x.a7))) b 25 x.cells :=
  (((((((h.set 0 _).set 1 _).set 2 _).set 3 _).set 4 _).set 5 _).set 6 _).set 7 _
theorem isBlk.st8o {w : World} {b b' : Nat} {T : TypeId} {vs : List Value} (h : isBlk w b' T vs) (hne : b' ≠ b) (x : St) : isBlk (((((((((w.setCell ⟨b, 0, none⟩ (.int .u64 x.a0)).setCell ⟨b, 1, none⟩ (.int .u64 x.a1)).setCell ⟨b, 2, none⟩ (.int .u64 x.a2)).setCell ⟨b, 3, none⟩ (.int .u64 x.a3)).setCell ⟨b, 4, none⟩ (.int .u64 x.a4)).setCell ⟨b, 5, none⟩ (.int .u64 x.a5)).setCell ⟨b, 6, none⟩ (.int .u64 x.a6)).setCell ⟨b, 7, none⟩ (.int .u64 x.a7))) b' T vs :=
  (((((((h.other hne).other hne).other hne).other hne).other hne).other hne).other hne).other hne
theorem below_st8 {B : Nat} {a w : World} (h : Below B a w) {b : Nat} (hb : B ≤ b) (x : St) : Below B a (((((((((w.setCell ⟨b, 0, none⟩ (.int .u64 x.a0)).setCell ⟨b, 1, none⟩ (.int .u64 x.a1)).setCell ⟨b, 2, none⟩ (.int .u64 x.a2)).setCell ⟨b, 3, none⟩ (.int .u64 x.a3)).setCell ⟨b, 4, none⟩ (.int .u64 x.a4)).setCell ⟨b, 5, none⟩ (.int .u64 x.a5)).setCell ⟨b, 6, none⟩ (.int .u64 x.a6)).setCell ⟨b, 7, none⟩ (.int .u64 x.a7))) :=
  (((((((h.setCell (p := ⟨b, 0, none⟩) hb _).setCell (p := ⟨b, 1, none⟩) hb _).setCell (p := ⟨b, 2, none⟩) hb _).setCell (p := ⟨b, 3, none⟩) hb _).setCell (p := ⟨b, 4, none⟩) hb _).setCell (p := ⟨b, 5, none⟩) hb _).setCell (p := ⟨b, 6, none⟩) hb _).setCell (p := ⟨b, 7, none⟩) hb _
theorem size_st8 (w : World) (b : Nat) (x : St) : (((((((((w.setCell ⟨b, 0, none⟩ (.int .u64 x.a0)).setCell ⟨b, 1, none⟩ (.int .u64 x.a1)).setCell ⟨b, 2, none⟩ (.int .u64 x.a2)).setCell ⟨b, 3, none⟩ (.int .u64 x.a3)).setCell ⟨b, 4, none⟩ (.int .u64 x.a4)).setCell ⟨b, 5, none⟩ (.int .u64 x.a5)).setCell ⟨b, 6, none⟩ (.int .u64 x.a6)).setCell ⟨b, 7, none⟩ (.int .u64 x.a7))).heap.size = w.heap.size := by simp
theorem isBlk.st4 {w : World} {b : Nat} {c : Ct} (h : isBlk w b 35 [.int .u64 c.k0, .int .u64 c.k1, .int .u64 c.k2, .int .u64 c.k3]) (x : Ct) : isBlk (((((w.setCell ⟨b, 0, none⟩ (.int .u64 x.k0)).setCell ⟨b, 1, none⟩ (.int .u64 x.k1)).setCell ⟨b, 2, none⟩ (.int .u64 x.k2)).setCell ⟨b, 3, none⟩ (.int .u64 x.k3))) b 35 [.int .u64 x.k0, .int .u64 x.k1, .int .u64 x.k2, .int .u64 x.k3] :=
  (((h.set 0 _).set 1 _).set 2 _).set 3 _
theorem isBlk.st4o {w : World} {b b' : Nat} {T : TypeId} {vs : List Value} (h : isBlk w b' T vs) (hne : b' ≠ b) (x : Ct) : isBlk (((((w.setCell ⟨b, 0, none⟩ (.int .u64 x.k0)).setCell ⟨b, 1, none⟩ (.int .u64 x.k1)).setCell ⟨b, 2, none⟩ (.int .u64 x.k2)).setCell ⟨b, 3, none⟩ (.int .u64 x.k3))) b' T vs :=
  (((h.other hne).other hne).other hne).other hne
theorem below_st4 {B : Nat} {a w : World} (h : Below B a w) {b : Nat} (hb : B ≤ b) (x : Ct) : Below B a (((((w.setCell ⟨b, 0, none⟩ (.int .u64 x.k0)).setCell ⟨b, 1, none⟩ (.int .u64 x.k1)).setCell ⟨b, 2, none⟩ (.int .u64 x.k2)).setCell ⟨b, 3, none⟩ (.int .u64 x.k3))) :=
  (((h.setCell (p := ⟨b, 0, none⟩) hb _).setCell (p := ⟨b, 1, none⟩) hb _).setCell (p := ⟨b, 2, none⟩) hb _).setCell (p := ⟨b, 3, none⟩) hb _

theorem num_ok (w : World) : Calls Try.prog 14 #[.int .i64 0] w fun e w' => e = .returned (.int .i64 0) ∧ w = w' := by
  go_enter Try.func14, Try.ntmps14
  go_wp2
  go_ret
  exact ⟨rfl, rfl⟩

/-- What a program does, as numbers. -/
structure Prg where
  start : Nat → Nat → Nat → St
  scat : Ct → St → Nat → Nat → Bool → Nat × Nat × Bool
  app : Ct → St → Nat → St → St × Bool
  fold : St → St → St
  turn : Ct → St → Ct × Bool
  sA : Nat
  mA : Nat
  sB : Nat
  mB : Nat
  monA : St → Nat → St
  monB : St → Nat → St

/-- The Go text does that. I: what lies behind the interface; n: how many vertices. -/
structure PrgOk (pr : Prg) (I : Value) (n : Nat) : Prop where
  start : ∀ (pb v o i : Nat) (w : World), w.cell? ⟨pb, 0, none⟩ = some I → v < n →
    Calls Try.prog 9 #[.pointer (some ⟨pb, 0, none⟩), .int .u32 v, .agg #[.int .u64 o, .int .u64 i]] w fun e w' => e = .returned (.tuple #[.agg #[.int .u64 (pr.start v o i).a0, .int .u64 (pr.start v o i).a1, .int .u64 (pr.start v o i).a2, .int .u64 (pr.start v o i).a3, .int .u64 (pr.start v o i).a4, .int .u64 (pr.start v o i).a5, .int .u64 (pr.start v o i).a6, .int .u64 (pr.start v o i).a7], .int .i64 0]) ∧ Below w.heap.size w w'
  scat : ∀ (pb : Nat) (c : Ct) (s : St) (src dst x : Nat) (back : Bool) (w : World), w.cell? ⟨pb, 0, none⟩ = some I → src < n → dst < n →
    Calls Try.prog 10 #[.pointer (some ⟨pb, 0, none⟩), .agg #[.int .u64 c.k0, .int .u64 c.k1, .int .u64 c.k2, .int .u64 c.k3], .agg #[.int .u64 s.a0, .int .u64 s.a1, .int .u64 s.a2, .int .u64 s.a3, .int .u64 s.a4, .int .u64 s.a5, .int .u64 s.a6, .int .u64 s.a7], .agg #[.int .u32 src, .int .u32 dst, .int .u32 x], .bool back] w fun e w' =>
      e = .returned (.tuple #[.int .u64 (pr.scat c s src dst back).1, .int .u64 (pr.scat c s src dst back).2.1, .bool (pr.scat c s src dst back).2.2, .int .i64 0]) ∧ Below w.heap.size w w'
  app : ∀ (pb : Nat) (c : Ct) (g s : St) (v : Nat) (w : World), w.cell? ⟨pb, 0, none⟩ = some I → v < n →
    Calls Try.prog 11 #[.pointer (some ⟨pb, 0, none⟩), .agg #[.int .u64 c.k0, .int .u64 c.k1, .int .u64 c.k2, .int .u64 c.k3], .agg #[.int .u64 g.a0, .int .u64 g.a1, .int .u64 g.a2, .int .u64 g.a3, .int .u64 g.a4, .int .u64 g.a5, .int .u64 g.a6, .int .u64 g.a7], .int .u32 v, .agg #[.int .u64 s.a0, .int .u64 s.a1, .int .u64 s.a2, .int .u64 s.a3, .int .u64 s.a4, .int .u64 s.a5, .int .u64 s.a6, .int .u64 s.a7]] w fun e w' =>
      e = .returned (.tuple #[.agg #[.int .u64 (pr.app c g v s).1.a0, .int .u64 (pr.app c g v s).1.a1, .int .u64 (pr.app c g v s).1.a2, .int .u64 (pr.app c g v s).1.a3, .int .u64 (pr.app c g v s).1.a4, .int .u64 (pr.app c g v s).1.a5, .int .u64 (pr.app c g v s).1.a6, .int .u64 (pr.app c g v s).1.a7], .bool (pr.app c g v s).2, .int .i64 0]) ∧ Below w.heap.size w w'
  fold : ∀ (pb : Nat) (c : Ct) (g s : St) (v : Nat) (w : World), w.cell? ⟨pb, 0, none⟩ = some I →
    Calls Try.prog 12 #[.pointer (some ⟨pb, 0, none⟩), .agg #[.int .u64 c.k0, .int .u64 c.k1, .int .u64 c.k2, .int .u64 c.k3], .agg #[.int .u64 g.a0, .int .u64 g.a1, .int .u64 g.a2, .int .u64 g.a3, .int .u64 g.a4, .int .u64 g.a5, .int .u64 g.a6, .int .u64 g.a7], .int .u32 v, .agg #[.int .u64 s.a0, .int .u64 s.a1, .int .u64 s.a2, .int .u64 s.a3, .int .u64 s.a4, .int .u64 s.a5, .int .u64 s.a6, .int .u64 s.a7]] w fun e w' =>
      e = .returned (.tuple #[.agg #[.int .u64 (pr.fold g s).a0, .int .u64 (pr.fold g s).a1, .int .u64 (pr.fold g s).a2, .int .u64 (pr.fold g s).a3, .int .u64 (pr.fold g s).a4, .int .u64 (pr.fold g s).a5, .int .u64 (pr.fold g s).a6, .int .u64 (pr.fold g s).a7], .int .i64 0]) ∧ Below w.heap.size w w'
  turn : ∀ (pb : Nat) (c : Ct) (g : St) (x y : Value) (w : World), w.cell? ⟨pb, 0, none⟩ = some I →
    Calls Try.prog 13 #[.pointer (some ⟨pb, 0, none⟩), .agg #[.int .u64 c.k0, .int .u64 c.k1, .int .u64 c.k2, .int .u64 c.k3], .agg #[.int .u64 g.a0, .int .u64 g.a1, .int .u64 g.a2, .int .u64 g.a3, .int .u64 g.a4, .int .u64 g.a5, .int .u64 g.a6, .int .u64 g.a7], x, y] w fun e w' =>
      e = .returned (.tuple #[.agg #[.int .u64 (pr.turn c g).1.k0, .int .u64 (pr.turn c g).1.k1, .int .u64 (pr.turn c g).1.k2, .int .u64 (pr.turn c g).1.k3], .bool (pr.turn c g).2, .int .i64 0]) ∧ Below w.heap.size w w'
  sink : ∀ (pb : Nat) (w : World), w.cell? ⟨pb, 0, none⟩ = some I →
    Calls Try.prog 17 #[.pointer (some ⟨pb, 0, none⟩)] w fun e w' => e = .returned (.agg #[.int .i64 pr.sA, .int .i64 pr.mA, .int .i64 pr.sB, .int .i64 pr.mB]) ∧ Below w.heap.size w w'
  monA : ∀ (s : St) (y : Nat) (w : World), Calls Try.prog 47 #[.int .i64 pr.mA, .agg #[.int .u64 s.a0, .int .u64 s.a1, .int .u64 s.a2, .int .u64 s.a3, .int .u64 s.a4, .int .u64 s.a5, .int .u64 s.a6, .int .u64 s.a7], .int .i64 pr.sA, .int .u64 y] w fun e w' => e = .returned (.agg #[.int .u64 (pr.monA s y).a0, .int .u64 (pr.monA s y).a1, .int .u64 (pr.monA s y).a2, .int .u64 (pr.monA s y).a3, .int .u64 (pr.monA s y).a4, .int .u64 (pr.monA s y).a5, .int .u64 (pr.monA s y).a6, .int .u64 (pr.monA s y).a7]) ∧ Below w.heap.size w w'
  monB : ∀ (s : St) (y : Nat) (w : World), Calls Try.prog 47 #[.int .i64 pr.mB, .agg #[.int .u64 s.a0, .int .u64 s.a1, .int .u64 s.a2, .int .u64 s.a3, .int .u64 s.a4, .int .u64 s.a5, .int .u64 s.a6, .int .u64 s.a7], .int .i64 pr.sB, .int .u64 y] w fun e w' => e = .returned (.agg #[.int .u64 (pr.monB s y).a0, .int .u64 (pr.monB s y).a1, .int .u64 (pr.monB s y).a2, .int .u64 (pr.monB s y).a3, .int .u64 (pr.monB s y).a4, .int .u64 (pr.monB s y).a5, .int .u64 (pr.monB s y).a6, .int .u64 (pr.monB s y).a7]) ∧ Below w.heap.size w w'

def foldAll (pr : Prg) (l : List St) : St := l.foldl pr.fold St.zero

/-- A row of states that is read. -/
structure IsSts (w : World) (sb so : Nat) (ss : List St) : Prop where
  lt : sb < w.heap.size
  c0 : ∀ j (h : j < ss.length), w.cell? ⟨sb, so + j * 8, none⟩ = some (.int .u64 ss[j].a0)
  c1 : ∀ j (h : j < ss.length), w.cell? ⟨sb, so + j * 8 + 1, none⟩ = some (.int .u64 ss[j].a1)
  c2 : ∀ j (h : j < ss.length), w.cell? ⟨sb, so + j * 8 + 2, none⟩ = some (.int .u64 ss[j].a2)
  c3 : ∀ j (h : j < ss.length), w.cell? ⟨sb, so + j * 8 + 3, none⟩ = some (.int .u64 ss[j].a3)
  c4 : ∀ j (h : j < ss.length), w.cell? ⟨sb, so + j * 8 + 4, none⟩ = some (.int .u64 ss[j].a4)
  c5 : ∀ j (h : j < ss.length), w.cell? ⟨sb, so + j * 8 + 5, none⟩ = some (.int .u64 ss[j].a5)
  c6 : ∀ j (h : j < ss.length), w.cell? ⟨sb, so + j * 8 + 6, none⟩ = some (.int .u64 ss[j].a6)
  c7 : ∀ j (h : j < ss.length), w.cell? ⟨sb, so + j * 8 + 7, none⟩ = some (.int .u64 ss[j].a7)

theorem IsSts.below {w w' : World} {sb so B : Nat} {ss : List St} (h : IsSts w sb so ss) (hb : Below B w w') (hB : sb < B) : IsSts w' sb so ss where
  lt := Nat.lt_of_lt_of_le h.lt hb.size
  c0 := fun j hj => by rw [hb.cell (p := ⟨sb, so + j * 8, none⟩) hB]; exact h.c0 j hj
  c1 := fun j hj => by rw [hb.cell (p := ⟨sb, so + j * 8 + 1, none⟩) hB]; exact h.c1 j hj
  c2 := fun j hj => by rw [hb.cell (p := ⟨sb, so + j * 8 + 2, none⟩) hB]; exact h.c2 j hj
  c3 := fun j hj => by rw [hb.cell (p := ⟨sb, so + j * 8 + 3, none⟩) hB]; exact h.c3 j hj
  c4 := fun j hj => by rw [hb.cell (p := ⟨sb, so + j * 8 + 4, none⟩) hB]; exact h.c4 j hj
  c5 := fun j hj => by rw [hb.cell (p := ⟨sb, so + j * 8 + 5, none⟩) hB]; exact h.c5 j hj
  c6 := fun j hj => by rw [hb.cell (p := ⟨sb, so + j * 8 + 6, none⟩) hB]; exact h.c6 j hj
  c7 := fun j hj => by rw [hb.cell (p := ⟨sb, so + j * 8 + 7, none⟩) hB]; exact h.c7 j hj

theorem IsSts.of_own {w : World} {base g n cap : Nat} {ss : List St} (h : w.ownsRow base 25 8 (.slice (some ⟨g, 0, none⟩) n cap) n (stCells ss)) (hn : ss.length = n) (hg : g < w.heap.size) : IsSts w g 0 ss := by
  have hx := stCells_get ss
  refine ⟨hg, fun j hj => ?_, fun j hj => ?_, fun j hj => ?_, fun j hj => ?_, fun j hj => ?_, fun j hj => ?_, fun j hj => ?_, fun j hj => ?_⟩
  · rw [Nat.zero_add, h.cellAt _ (by omega)]; exact (hx j hj).1
  · rw [Nat.zero_add, h.cellAt _ (by omega)]; exact (hx j hj).2.1
  · rw [Nat.zero_add, h.cellAt _ (by omega)]; exact (hx j hj).2.2.1
  · rw [Nat.zero_add, h.cellAt _ (by omega)]; exact (hx j hj).2.2.2.1
  · rw [Nat.zero_add, h.cellAt _ (by omega)]; exact (hx j hj).2.2.2.2.1
  · rw [Nat.zero_add, h.cellAt _ (by omega)]; exact (hx j hj).2.2.2.2.2.1
  · rw [Nat.zero_add, h.cellAt _ (by omega)]; exact (hx j hj).2.2.2.2.2.2.1
  · rw [Nat.zero_add, h.cellAt _ (by omega)]; exact (hx j hj).2.2.2.2.2.2.2

set_option maxHeartbeats 2000000 in
theorem folded_any (pr : Prg) (I : Value) (n : Nat) (hpr : PrgOk pr I n) (pb sb so cap : Nat) (c : Ct) (ss : List St) (w : World) (hp : w.cell? ⟨pb, 0, none⟩ = some I) (hS : IsSts w sb so ss) (hlen : ss.length ≤ 65536) :
    Calls Try.prog 46 #[.pointer (some ⟨pb, 0, none⟩), .agg #[.int .u64 c.k0, .int .u64 c.k1, .int .u64 c.k2, .int .u64 c.k3], .slice (some ⟨sb, so, none⟩) ss.length cap, .int .i64 0] w fun e w' =>
      e = .returned (.tuple #[.agg #[.int .u64 (foldAll pr ss).a0, .int .u64 (foldAll pr ss).a1, .int .u64 (foldAll pr ss).a2, .int .u64 (foldAll pr ss).a3, .int .u64 (foldAll pr ss).a4, .int .u64 (foldAll pr ss).a5, .int .u64 (foldAll pr ss).a6, .int .u64 (foldAll pr ss).a7], .int .i64 0]) ∧ Below w.heap.size w w' := by
  have hpb := World.block_lt_of_cell? w _ hp
  simp only [] at hpb
  have hsb := hS.lt
  go_enter Try.func46, Try.ntmps46
  go_wp2
  go_loopw [3, 11, 12, 13] (fun bad i _ _ wr => ∃ k : Nat, k ≤ ss.length ∧ i = .int .i64 k ∧ bad = .int .i64 0 ∧ isBlk wr w.heap.size 35 [.int .u64 c.k0, .int .u64 c.k1, .int .u64 c.k2, .int .u64 c.k3] ∧ isBlk wr (w.heap.size + 1) 25 St.zero.cells ∧
      isBlk wr (w.heap.size + 1 + 1) 25 (foldAll pr (ss.take k)).cells ∧ Below w.heap.size w wr) (fun _ i _ _ _ => ss.length - (intOf i).toNat)
  case atStart =>
    refine ⟨0, Nat.zero_le _, rfl, rfl, ((isBlk.new w 35 _).old _).old _, ?_, ?_, (by repeat (first | with_reducible exact Below.refl _ _ | with_reducible assumption | with_reducible refine below_drewN ?_ _ | with_reducible refine Below.drew ?_ | ((with_reducible refine Bset ?_ ?_); focus (first | omega | (simp; done) | (simp; omega))) | ((with_reducible refine Ball ?_ ?_); focus (first | omega | (simp; done) | (simp; omega)))))⟩
    · have := (isBlk.new (w.alloc (Obj.cells #[.int .u64 c.k0, .int .u64 c.k1, .int .u64 c.k2, .int .u64 c.k3] 35)) 25 St.zero.cells).old (.cells St.zero.cells.toArray 25)
      rw [World.size_alloc] at this
      exact this
    · have := isBlk.new ((w.alloc (Obj.cells #[.int .u64 c.k0, .int .u64 c.k1, .int .u64 c.k2, .int .u64 c.k3] 35)).alloc (.cells St.zero.cells.toArray 25)) 25 St.zero.cells
      rw [World.size_alloc, World.size_alloc] at this
      exact this
  case round =>
    obtain ⟨k, hk, rfl, rfl, hB0, hB1, hB2, hbl⟩ := hrel
    have hz := hbl.size
    have hz2 := hB2.lt
    by_cases hlt : k < ss.length
    · have hSr := hS.below hbl hsb
      have hpr' : wr.cell? ⟨pb, 0, none⟩ = some I := by rw [hbl.cell (p := ⟨pb, 0, none⟩) hpb]; exact hp
      have hfa : foldAll pr (ss.take (k + 1)) = pr.fold (foldAll pr (ss.take k)) ss[k] := by
        unfold foldAll; rw [List.take_succ_eq_append_getElem hlt, List.foldl_append]; rfl
      have HFA := Lib.hid hfa
      clear hfa
      generalize foldAll pr (ss.take k) = g at *
      obtain ⟨q0, q1, q2, q3⟩ := hB0.ct
      obtain ⟨r0, r1, r2, r3, r4, r5, r6, r7⟩ := hB2.st
      have s0 := hSr.c0 k hlt
      have s1 := hSr.c1 k hlt
      have s2 := hSr.c2 k hlt
      have s3 := hSr.c3 k hlt
      have s4 := hSr.c4 k hlt
      have s5 := hSr.c5 k hlt
      have s6 := hSr.c6 k hlt
      have s7 := hSr.c7 k hlt
      have hkk : (k : Int) < (ss.length : Int) := by omega
      have hk0 : (0 : Int) ≤ (k : Int) := Int.natCast_nonneg _
      have hkw : IntKind.u32.wrap (k : Int) = k := by rw [IntKind.wrap_u32]; omega
      have hprd : wr.drew.cell? ⟨pb, 0, none⟩ = some I := hpr'
      generalize hsk : ss[k] = sk at *
      have HSK := Lib.hid hsk
      clear hsk hSr
      go_wp2_with fail
      have hp1 : pb < wr.heap.size := by omega
      have hp2 : w.heap.size < wr.heap.size := by omega
      have hp3 : sb < wr.heap.size := by omega
      go_region_held3 (fun w1 => ∀ b o, b < wr.heap.size → w1.cell? ⟨b, o, none⟩ = wr.cell? ⟨b, o, none⟩)
        ((intro b o hb; (repeat first | rw [World.cell?_setCell_far _ _ _ _ (by first | omega | (simp; omega) | (simp; done))] | rw [cell_drew] | rw [World.cell?_alloc_past _ _ _ (by first | omega | (simp; omega) | (simp; done))] | rw [hb2.cell (p := ⟨b, o, none⟩) (by first | omega | (simp; omega) | (simp; done))]); done))
        (((with_reducible refine Calls.mono (hpr.fold pb c g sk k _ ?_) ?_); (focus (first | exact hpr' | (show (wr.alloc _).cell? _ = _; rw [World.cell?_alloc_past _ _ _ hp1]; exact hpr'))); rintro e w2 ⟨rfl, hb2⟩; obtain ⟨hc2, hf2⟩ := bcell hb2; have hz3 : wr.heap.size ≤ w2.heap.size := Nat.le_trans (by simp) hb2.size))
      · -- the call, then the block of the result
        have hW1 : isBlk w2 w.heap.size 35 [.int .u64 c.k0, .int .u64 c.k1, .int .u64 c.k2, .int .u64 c.k3] := hB0.drew.below hb2 hp2
        have hW2 : isBlk w2 (w.heap.size + 1) 25 St.zero.cells := hB1.drew.below hb2 hB1.lt
        have hW3 : isBlk w2 (w.heap.size + 1 + 1) 25 g.cells := hB2.drew.below hb2 hz2
        have hW4 : Below w.heap.size w w2 := hbl.drew.trans (hb2.mono hz)
        have hff : ∀ o, w2.frozen? ⟨w.heap.size + 1 + 1, o, none⟩ = false := fun o => hW3.frozen o
        have hz4 : w.heap.size + 1 + 1 < w2.heap.size := hW3.lt
        have hz5 : w.heap.size + 1 + 1 ≠ w2.heap.size := by omega
        obtain ⟨y0, y1, y2, y3, y4, y5, y6, y7⟩ := hW3.st
        clear hf2 hc2
        go_wp2_with (first | (go_at_call 14; refine (num_ok _).mono ?_; rintro e w3 ⟨rfl, rfl⟩) | (go_at_call 45; refine (worse_ok 0 rfl _).mono ?_; rintro e w3 ⟨rfl, rfl⟩))
        go_roundw
        case rel =>
          refine ⟨k + 1, by omega, by go_num, rfl, (hW1.st8o (by omega) _).old _, (hW2.st8o (by omega) _).old _, ?_, Ball (by simp; omega) (below_st8 hW4 (by omega) _)⟩
          rw [HFA.out]
          exact (hW3.st8 _).old _
        case measure => simp [intOf]; omega
      · -- the block of the result, then the call
        have hzz : wr.heap.size + 1 ≤ w2.heap.size := by have := hb2.size; simpa using this
        have hW1 : isBlk w2 w.heap.size 35 [.int .u64 c.k0, .int .u64 c.k1, .int .u64 c.k2, .int .u64 c.k3] := (hB0.old _).drew.below hb2 (by simp; omega)
        have hW2 : isBlk w2 (w.heap.size + 1) 25 St.zero.cells := (hB1.old _).drew.below hb2 (by simp; omega)
        have hW3 : isBlk w2 (w.heap.size + 1 + 1) 25 g.cells := (hB2.old _).drew.below hb2 (by simp; omega)
        have hW5 : isBlk w2 wr.heap.size 25 St.zero.cells := (isBlk.new wr 25 St.zero.cells).drew.below hb2 (by simp)
        have hW4 : Below w.heap.size w w2 := (Below.drew (Ball hz hbl)).trans (hb2.mono (by simp; omega))
        have hW6 := hW5.st8 (pr.fold g sk)
        have hW7 := hW3.st8o (b := wr.heap.size) (by omega) (pr.fold g sk)
        have hW8 := below_st8 hW4 (b := wr.heap.size) hz (pr.fold g sk)
        have hW9 := hW1.st8o (b := wr.heap.size) (by omega) (pr.fold g sk)
        have hW0 := hW2.st8o (b := wr.heap.size) (by omega) (pr.fold g sk)
        obtain ⟨wx, hwx⟩ : ∃ wx : World, wx = ((((((((w2.setCell ⟨wr.heap.size, 0, none⟩ (.int .u64 (pr.fold g sk).a0)).setCell ⟨wr.heap.size, 1, none⟩ (.int .u64 (pr.fold g sk).a1)).setCell ⟨wr.heap.size, 2, none⟩ (.int .u64 (pr.fold g sk).a2)).setCell ⟨wr.heap.size, 3, none⟩ (.int .u64 (pr.fold g sk).a3)).setCell ⟨wr.heap.size, 4, none⟩ (.int .u64 (pr.fold g sk).a4)).setCell ⟨wr.heap.size, 5, none⟩ (.int .u64 (pr.fold g sk).a5)).setCell ⟨wr.heap.size, 6, none⟩ (.int .u64 (pr.fold g sk).a6)).setCell ⟨wr.heap.size, 7, none⟩ (.int .u64 (pr.fold g sk).a7)) := ⟨_, rfl⟩
        rw [← hwx] at hW6 hW7 hW8 hW9 hW0 ⊢
        have hff : ∀ o, wx.frozen? ⟨w.heap.size + 1 + 1, o, none⟩ = false := fun o => hW7.frozen o
        obtain ⟨y0, y1, y2, y3, y4, y5, y6, y7⟩ := hW7.st
        obtain ⟨x0, x1, x2, x3, x4, x5, x6, x7⟩ := hW6.st
        clear hf2 hc2 hwx
        go_wp2_with (first | (go_at_call 14; refine (num_ok _).mono ?_; rintro e w3 ⟨rfl, rfl⟩) | (go_at_call 45; refine (worse_ok 0 rfl _).mono ?_; rintro e w3 ⟨rfl, rfl⟩))
        go_roundw
        case rel =>
          refine ⟨k + 1, by omega, by go_num, rfl, hW9.st8o (by omega) _, hW0.st8o (by omega) _, ?_, below_st8 hW8 (by omega) _⟩
          rw [HFA.out]
          exact hW7.st8 _
        case measure => simp [intOf]; omega
    · obtain rfl : k = ss.length := by omega
      rw [List.take_length] at hB2
      obtain ⟨r0, r1, r2, r3, r4, r5, r6, r7⟩ := hB2.st
      obtain ⟨y0, y1, y2, y3, y4, y5, y6, y7⟩ := hB1.st
      have hff : ∀ o, wr.frozen? ⟨w.heap.size + 1, o, none⟩ = false := fun o => hB1.frozen o
      obtain ⟨z0, z1, z2, z3, z4, z5, z6, z7⟩ := (hB1.st8 (foldAll pr ss)).st
      go_wp2
      refine bodyPost_ret (v := .tuple #[.agg #[.int .u64 (foldAll pr ss).a0, .int .u64 (foldAll pr ss).a1, .int .u64 (foldAll pr ss).a2, .int .u64 (foldAll pr ss).a3, .int .u64 (foldAll pr ss).a4, .int .u64 (foldAll pr ss).a5, .int .u64 (foldAll pr ss).a6, .int .u64 (foldAll pr ss).a7], .int .i64 0]) (by simp [results, Try.results46, go_sem, z0, z1, z2, z3, z4, z5, z6, z7]) rfl ⟨rfl, below_st8 hbl (by omega) _⟩

end Go.Proofs.Ytjmggfpomnnegaa
