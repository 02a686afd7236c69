/-
  Small facts on worlds, rows and edges.
-/
import Derived.Test.YtohmeobfiomfdaaRows
import Derived.WalkKit
import Derived.WalkSpells
import Derived.WalkLawsBesides
import Derived.Deep.QuietTactic
import Derived.BigQuiet
import Derived.Test.YtohmeobfiomfdaaLaws
import Derived.Lib.Hide
import Derived.Deep.RegionHeld3
import Derived.Deep.LoopGhost
import Derived.Deep.DeepCutAuto
import Derived.Deep.CutBlock
namespace Go.Proofs.Ytohmeobfiomfdaa
open Go.RowKit
set_option maxRecDepth 100000

theorem bcell {W w1 : World} (hb : Below W.heap.size W w1) : (∀ b o, b < W.heap.size → w1.cell? ⟨b, o, none⟩ = W.cell? ⟨b, o, none⟩) ∧ (∀ b o, b < W.heap.size → w1.frozen? ⟨b, o, none⟩ = W.frozen? ⟨b, o, none⟩) :=
  ⟨fun b o h => hb.cell (p := ⟨b, o, none⟩) h, fun b o h => hb.frozen (p := ⟨b, o, none⟩) h⟩
theorem Bset {B : Nat} {a w : World} {p : Addr} {u : Value} (hp : B ≤ p.block) (h : Below B a w) : Below B a (w.setCell p u) := h.setCell hp u
theorem Ball {B : Nat} {a w : World} {o : Obj} (hB : B ≤ w.heap.size) (h : Below B a w) : Below B a (w.alloc o) := h.alloc hB o
theorem ret_int {k : IntKind} {a b : Int} (h : a = b) : Ending.returned (.int k a) = .returned (.int k b) := by rw [h]

structure Ed where
  src : Nat
  dst : Nat
  w : Nat

def Ed.cells (e : Ed) : List Value := [.int .u32 e.src, .int .u32 e.dst, .int .u32 e.w]
def edCells (l : List Ed) : List Value := l.flatMap Ed.cells
theorem edCells_len (l : List Ed) : (edCells l).length = l.length * 3 := by
  induction l with
  | nil => rfl
  | cons e l ih => simp [edCells, Ed.cells] at ih ⊢; omega

theorem edCells_snoc (l : List Ed) (e : Ed) : edCells (l ++ [e]) = edCells l ++ [.int .u32 e.src, .int .u32 e.dst, .int .u32 e.w] := by
  simp [edCells, Ed.cells]

/-- A slice of edges that is read. -/
structure IsEds (w : World) (a : Option Addr) (eb eo : Nat) (es : List Ed) : Prop where
  ad : 0 < es.length → a = some ⟨eb, eo, none⟩
  lt : 0 < es.length → eb < w.heap.size
  c0 : ∀ j (h : j < es.length), w.cell? ⟨eb, eo + j * 3, none⟩ = some (.int .u32 es[j].src)
  c1 : ∀ j (h : j < es.length), w.cell? ⟨eb, eo + j * 3 + 1, none⟩ = some (.int .u32 es[j].dst)
  c2 : ∀ j (h : j < es.length), w.cell? ⟨eb, eo + j * 3 + 2, none⟩ = some (.int .u32 es[j].w)

theorem IsEds.below {w w' : World} {a : Option Addr} {eb eo B : Nat} {es : List Ed} (h : IsEds w a eb eo es) (hb : Below B w w') (hB : 0 < es.length → eb < B) : IsEds w' a eb eo es where
  ad := h.ad
  lt := fun h0 => Nat.lt_of_lt_of_le (h.lt h0) hb.size
  c0 := fun j hj => by rw [hb.cell (p := ⟨eb, eo + j * 3, none⟩) (hB (by omega))]; exact h.c0 j hj
  c1 := fun j hj => by rw [hb.cell (p := ⟨eb, eo + j * 3 + 1, none⟩) (hB (by omega))]; exact h.c1 j hj
  c2 := fun j hj => by rw [hb.cell (p := ⟨eb, eo + j * 3 + 2, none⟩) (hB (by omega))]; exact h.c2 j hj

theorem cell_heap {w w' : World} {a : Addr} (h : w'.heap[a.block]? = w.heap[a.block]?) : w'.cell? a = w.cell? a := by unfold World.cell?; rw [h]
theorem frozen_heap {w w' : World} {a : Addr} (h : w'.heap[a.block]? = w.heap[a.block]?) : w'.frozen? a = w.frozen? a := by unfold World.frozen?; rw [h]

theorem IsEds.keep {w w' : World} {a : Option Addr} {eb eo : Nat} {es : List Ed} (h : IsEds w a eb eo es) (hk : 0 < es.length → w'.heap[eb]? = w.heap[eb]?) (hz : w.heap.size ≤ w'.heap.size) : IsEds w' a eb eo es where
  ad := h.ad
  lt := fun h0 => Nat.lt_of_lt_of_le (h.lt h0) hz
  c0 := fun j hj => by rw [← h.c0 j hj]; exact cell_heap (a := ⟨eb, eo + j * 3, none⟩) (hk (by omega))
  c1 := fun j hj => by rw [← h.c1 j hj]; exact cell_heap (a := ⟨eb, eo + j * 3 + 1, none⟩) (hk (by omega))
  c2 := fun j hj => by rw [← h.c2 j hj]; exact cell_heap (a := ⟨eb, eo + j * 3 + 2, none⟩) (hk (by omega))

def isBlk (w : World) (b : Nat) (T : TypeId) (vs : List Value) : Prop := w.heap[b]? = some (.cells vs.toArray T (0, 0))

theorem isBlk.cell {w : World} {b : Nat} {T : TypeId} {vs : List Value} (h : isBlk w b T vs) (i : Nat) : w.cell? ⟨b, i, none⟩ = vs[i]? := by
  unfold isBlk at h
  simp [World.cell?, h]
theorem isBlk.frozen {w : World} {b : Nat} {T : TypeId} {vs : List Value} (h : isBlk w b T vs) (i : Nat) : w.frozen? ⟨b, i, none⟩ = false := by
  unfold isBlk at h
  simp [World.frozen?, h]
theorem isBlk.lt {w : World} {b : Nat} {T : TypeId} {vs : List Value} (h : isBlk w b T vs) : b < w.heap.size := by
  unfold isBlk at h
  exact (Array.getElem?_eq_some_iff.1 h).1
theorem isBlk.below {w w' : World} {b B : Nat} {T : TypeId} {vs : List Value} (h : isBlk w b T vs) (hb : Below B w w') (hB : b < B) : isBlk w' b T vs := by
  unfold isBlk at h ⊢
  rw [hb.block b hB, h]
theorem isBlk.set {w : World} {b : Nat} {T : TypeId} {vs : List Value} (h : isBlk w b T vs) (i : Nat) (v : Value) : isBlk (w.setCell ⟨b, i, none⟩ v) b T (vs.set i v) := by
  unfold isBlk at h ⊢
  simp [World.setCell, Array.getElem?_modify, h]
theorem isBlk.other {w : World} {b : Nat} {T : TypeId} {vs : List Value} (h : isBlk w b T vs) {p : Addr} {v : Value} (hp : b ≠ p.block) : isBlk (w.setCell p v) b T vs := by
  unfold isBlk at h ⊢
  rw [Below.heap_setCell _ _ _ _ hp, h]
theorem isBlk.new (w : World) (T : TypeId) (vs : List Value) : isBlk (w.alloc (.cells vs.toArray T)) w.heap.size T vs := heap_alloc_new w _
theorem isBlk.old {w : World} {b : Nat} {T : TypeId} {vs : List Value} (h : isBlk w b T vs) (o : Obj) : isBlk (w.alloc o) b T vs := by
  have hl := h.lt
  unfold isBlk at h ⊢
  rw [Below.heap_alloc _ _ _ hl, h]
theorem isBlk.drew {w : World} {b : Nat} {T : TypeId} {vs : List Value} (h : isBlk w b T vs) : isBlk w.drew b T vs := h
theorem own_below {w w' : World} {base e size g n cap B : Nat} {xs : List Value} (h : w.ownsRow base e size (.slice (some ⟨g, 0, none⟩) n cap) n xs) (hb : Below B w w') (hg : g < B) :
    w'.ownsRow base e size (.slice (some ⟨g, 0, none⟩) n cap) n xs := by
  obtain ⟨h1, h2⟩ := h
  refine ⟨h1, ?_⟩
  rcases h2 with h2 | ⟨g', cap', cur, hv, hg', hh, r⟩
  · exact Or.inl h2
  · obtain ⟨rfl, rfl⟩ : g = g' ∧ cap = cap' := by
      simp only [Value.slice.injEq, Option.some.injEq, Addr.mk.injEq, and_true, true_and] at hv
      exact hv
    exact Or.inr ⟨g, cap, cur, rfl, hg', by rw [hb.block g hg]; exact hh, r⟩

theorem own_lt {w : World} {base e size g n cap : Nat} {xs : List Value} (h : w.ownsRow base e size (.slice (some ⟨g, 0, none⟩) n cap) n xs) : base ≤ g ∧ g < w.heap.size := h.lt g rfl
theorem own_drew {w : World} {base e size n : Nat} {v : Value} {xs : List Value} (h : w.ownsRow base e size v n xs) : w.drew.ownsRow base e size v n xs := h

theorem own_lower {w : World} {base base' e size m : Nat} {v : Value} {xs : List Value} (h : w.ownsRow base e size v m xs) (hb : base' ≤ base) : w.ownsRow base' e size v m xs :=
  ⟨h.1, h.2.imp id (fun ⟨g, cap, cur, hv, hg, rest⟩ => ⟨g, cap, cur, hv, Nat.le_trans hb hg, rest⟩)⟩

theorem isBlk.grown {w w' : World} {b : Nat} {T : TypeId} {vs : List Value} {row : Option Nat} (h : isBlk w b T vs) (hg : w.grownBy w' row) (hne : some b ≠ row) : isBlk w' b T vs := by
  have hl := h.lt
  unfold isBlk at h ⊢
  rw [hg.block b hl hne, h]


/-- Blocks that stay as they are. -/
def KeepB (bs : List Nat) (w w' : World) : Prop := w.heap.size ≤ w'.heap.size ∧ ∀ b, b ∈ bs → w'.heap[b]? = w.heap[b]?
theorem KeepB.refl (bs : List Nat) (w : World) : KeepB bs w w := ⟨Nat.le_refl _, fun _ _ => rfl⟩
theorem KeepB.trans {bs : List Nat} {a b c : World} (h : KeepB bs a b) (h' : KeepB bs b c) : KeepB bs a c := ⟨Nat.le_trans h.1 h'.1, fun x hx => (h'.2 x hx).trans (h.2 x hx)⟩
theorem KeepB.below {bs : List Nat} {a b : World} {B : Nat} (h : Below B a b) (hb : ∀ x, x ∈ bs → x < B) : KeepB bs a b := ⟨h.size, fun x hx => h.block x (hb x hx)⟩
/-- All blocks that were there stay, but for some. -/
structure Chg (R : Nat → Prop) (w w' : World) : Prop where
  os : w'.os = w.os
  tape : w'.tape = w.tape
  output : w'.output = w.output
  size : w.heap.size ≤ w'.heap.size
  block : ∀ j, j < w.heap.size → ¬ R j → w'.heap[j]? = w.heap[j]?

theorem Chg.refl (R : Nat → Prop) (w : World) : Chg R w w := ⟨rfl, rfl, rfl, Nat.le_refl _, fun _ _ _ => rfl⟩
theorem Chg.trans {R : Nat → Prop} {a b c : World} (h : Chg R a b) (k : Chg R b c) : Chg R a c :=
  ⟨k.os.trans h.os, k.tape.trans h.tape, k.output.trans h.output, Nat.le_trans h.size k.size, fun j hj hr => (k.block j (Nat.lt_of_lt_of_le hj h.size) hr).trans (h.block j hj hr)⟩
theorem Chg.mono {R S : Nat → Prop} {a b : World} (h : Chg R a b) (hrs : ∀ j, R j → S j) : Chg S a b := ⟨h.os, h.tape, h.output, h.size, fun j hj hs => h.block j hj (fun hr => hs (hrs j hr))⟩
theorem Chg.of_below {R : Nat → Prop} {a b : World} (h : Below a.heap.size a b) : Chg R a b := ⟨h.os, h.tape, h.output, h.size, fun j hj _ => h.block j hj⟩
theorem Chg.below {R : Nat → Prop} {a b : World} (h : Chg R a b) {B : Nat} (hB : B ≤ a.heap.size) (hR : ∀ j, R j → B ≤ j) : Below B a b :=
  ⟨h.os, h.tape, h.output, h.size, fun j hj => h.block j (Nat.lt_of_lt_of_le hj hB) (fun hr => Nat.not_le_of_lt hj (hR j hr))⟩
theorem Chg.set {R : Nat → Prop} {a b : World} (h : Chg R a b) {p : Addr} (hp : R p.block ∨ a.heap.size ≤ p.block) (v : Value) : Chg R a (b.setCell p v) := by
  refine ⟨h.os, h.tape, h.output, by simpa using h.size, fun j hj hr => ?_⟩
  rw [Below.heap_setCell _ _ _ _ (fun e => by
    rcases hp with hp | hp
    · exact hr (by rw [e]; exact hp)
    · omega)]
  exact h.block j hj hr
theorem Chg.all {R : Nat → Prop} {a b : World} (h : Chg R a b) (o : Obj) : Chg R a (b.alloc o) :=
  h.trans (Chg.of_below ((Below.refl _ _).alloc (Nat.le_refl _) o))

end Go.Proofs.Ytohmeobfiomfdaa
