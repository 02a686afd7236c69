/-
  Going over the vertices: each.
-/
import Derived.Test.YtohmeobfiomfdaaDesk
namespace Go.Proofs.Ytohmeobfiomfdaa
open Go.RowKit
set_option maxRecDepth 100000

structure St where
  a0 : Nat
  a1 : Nat
  a2 : Nat
  a3 : Nat
  a4 : Nat
  a5 : Nat
  a6 : Nat
  a7 : Nat
def St.cells (s : St) : List Value := [.int .u64 s.a0, .int .u64 s.a1, .int .u64 s.a2, .int .u64 s.a3, .int .u64 s.a4, .int .u64 s.a5, .int .u64 s.a6, .int .u64 s.a7]
def St.val (s : St) : Value := .agg #[.int .u64 s.a0, .int .u64 s.a1, .int .u64 s.a2, .int .u64 s.a3, .int .u64 s.a4, .int .u64 s.a5, .int .u64 s.a6, .int .u64 s.a7]
def stCells (l : List St) : List Value := l.flatMap St.cells
def St.zero : St := ⟨0, 0, 0, 0, 0, 0, 0, 0⟩

/-- A slice of states that is read. -/
structure IsSts (w : World) (a : Option Addr) (sb so : Nat) (ss : List St) : Prop where
  ad : 0 < ss.length → a = some ⟨sb, so, none⟩
  lt : 0 < ss.length → sb < w.heap.size
  c0 : ∀ j (h : j < ss.length), w.cell? ⟨sb, so + j * 8, none⟩ = some (.int .u64 ss[j].a0)
  c1 : ∀ j (h : j < ss.length), w.cell? ⟨sb, so + j * 8 + 1, none⟩ = some (.int .u64 ss[j].a1)
  c2 : ∀ j (h : j < ss.length), w.cell? ⟨sb, so + j * 8 + 2, none⟩ = some (.int .u64 ss[j].a2)
  c3 : ∀ j (h : j < ss.length), w.cell? ⟨sb, so + j * 8 + 3, none⟩ = some (.int .u64 ss[j].a3)
  c4 : ∀ j (h : j < ss.length), w.cell? ⟨sb, so + j * 8 + 4, none⟩ = some (.int .u64 ss[j].a4)
  c5 : ∀ j (h : j < ss.length), w.cell? ⟨sb, so + j * 8 + 5, none⟩ = some (.int .u64 ss[j].a5)
  c6 : ∀ j (h : j < ss.length), w.cell? ⟨sb, so + j * 8 + 6, none⟩ = some (.int .u64 ss[j].a6)
  c7 : ∀ j (h : j < ss.length), w.cell? ⟨sb, so + j * 8 + 7, none⟩ = some (.int .u64 ss[j].a7)

theorem IsSts.keep {w w' : World} {a : Option Addr} {sb so : Nat} {ss : List St} (h : IsSts w a sb so ss) (hk : 0 < ss.length → w'.heap[sb]? = w.heap[sb]?) (hz : w.heap.size ≤ w'.heap.size) : IsSts w' a sb so ss where
  ad := h.ad
  lt := fun h0 => Nat.lt_of_lt_of_le (h.lt h0) hz
  c0 := fun j hj => by rw [← h.c0 j hj]; exact cell_heap (a := ⟨sb, so + j * 8, none⟩) (hk (by omega))
  c1 := fun j hj => by rw [← h.c1 j hj]; exact cell_heap (a := ⟨sb, so + j * 8 + 1, none⟩) (hk (by omega))
  c2 := fun j hj => by rw [← h.c2 j hj]; exact cell_heap (a := ⟨sb, so + j * 8 + 2, none⟩) (hk (by omega))
  c3 := fun j hj => by rw [← h.c3 j hj]; exact cell_heap (a := ⟨sb, so + j * 8 + 3, none⟩) (hk (by omega))
  c4 := fun j hj => by rw [← h.c4 j hj]; exact cell_heap (a := ⟨sb, so + j * 8 + 4, none⟩) (hk (by omega))
  c5 := fun j hj => by rw [← h.c5 j hj]; exact cell_heap (a := ⟨sb, so + j * 8 + 5, none⟩) (hk (by omega))
  c6 := fun j hj => by rw [← h.c6 j hj]; exact cell_heap (a := ⟨sb, so + j * 8 + 6, none⟩) (hk (by omega))
  c7 := fun j hj => by rw [← h.c7 j hj]; exact cell_heap (a := ⟨sb, so + j * 8 + 7, none⟩) (hk (by omega))
theorem IsSts.below {w w' : World} {a : Option Addr} {sb so B : Nat} {ss : List St} (h : IsSts w a sb so ss) (hb : Below B w w') (hB : 0 < ss.length → sb < B) : IsSts w' a sb so ss :=
  h.keep (fun h0 => hb.block sb (hB h0)) hb.size

set_option maxHeartbeats 1000000 in
theorem each_any (db g : Nat) (caps : Array Value) (eg : ∀ args w, (callFunc g args).run Try.prog w = .ok (.enter g args) w) (d : Dk) (f : Fd) (a : Option Addr) (cap sb so : Nat) (ss : List St) (R : Nat → Prop) (I : Nat → World → Prop) (w : World)
    (hd : isBlk w db 75 (d.cells f)) (hsl : d.sl = .slice a ss.length cap) (hlen : ss.length ≤ 4294967295)
    (hS : ∀ k W, I k W → IsSts W a sb so ss)
    (hI : ∀ k W W', I k W → (∀ j, j < w.heap.size → W'.heap[j]? = W.heap[j]?) → W.heap.size ≤ W'.heap.size → I k W')
    (hsee : ∀ k W (hk : k < ss.length), I k W → w.heap.size ≤ W.heap.size → Calls Try.prog g (#[.int .u32 k, ss[k].val] ++ caps) W fun e W' => (∃ x, e = .returned x) ∧ I (k + 1) W' ∧ Chg R W W')
    (h0 : I 0 w) :
    Calls Try.prog 32 #[.pointer (some ⟨db, 0, none⟩), .func (.func g) #[] caps] w fun e w' => (∃ x, e = .returned x) ∧ I ss.length w' ∧ Chg R w w' := by
  have c3 : w.cell? ⟨db, 3, none⟩ = some (.slice a ss.length cap) := by rw [← hsl]; exact hd.cell 3
  clear hsl
  go_enter Try.func32, Try.ntmps32
  go_wp2_with fail
  go_loopg [11, 4, 5] ss.length (fun gk i _ _ wr => ∃ k : Nat, k + gk = ss.length ∧ i = .int .i64 k ∧ I k wr ∧ Chg R w wr)
  case atStart => exact ⟨0, by omega, rfl, h0, Chg.refl _ _⟩
  case round =>
    obtain ⟨k, hk, rfl, hIk, hch⟩ := hrel
    have HI := Lib.hid hIk
    have hsz := hch.size
    by_cases hlt : k < ss.length
    · have hk0 : (k : Int) < (ss.length : Int) := by omega
      have hk1 : (0 : Int) ≤ (k : Int) := Int.natCast_nonneg _
      have hSr := hS k wr hIk
      obtain rfl := hSr.ad (by omega)
      have hlts := hSr.lt (by omega)
      have s0 := hSr.c0 k hlt
      have s1 := hSr.c1 k hlt
      have s2 := hSr.c2 k hlt
      have s3 := hSr.c3 k hlt
      have s4 := hSr.c4 k hlt
      have s5 := hSr.c5 k hlt
      have s6 := hSr.c6 k hlt
      have s7 := hSr.c7 k hlt
      have hsk := fun W h1 h2 => hsee k W hlt h1 h2
      unfold St.val at hsk
      have HSK := Lib.hid hsk
      clear hsk hSr hIk
      generalize ss[k] = s at *
      obtain ⟨x0, x1, x2, x3, x4, x5, x6, x7⟩ := s
      simp only [] at s0 s1 s2 s3 s4 s5 s6 s7
      have hkw : IntKind.u32.wrap (k : Int) = (k : Int) := by rw [IntKind.wrap_u32]; omega
      have hbw : Below w.heap.size wr (wr.alloc (.cells #[.int .u64 x0, .int .u64 x1, .int .u64 x2, .int .u64 x3, .int .u64 x4, .int .u64 x5, .int .u64 x6, .int .u64 x7] 56)) := Ball hsz (Below.refl _ _)
      have HBW := Lib.hid hbw
      clear hbw
      go_wp2
      refine (HSK.out _ (hI k wr _ HI.out (fun j hj => HBW.out.block j hj) HBW.out.size) (Nat.le_trans hsz HBW.out.size)).mono ?_
      rintro e w2 ⟨⟨x, rfl⟩, hI2, hc2⟩
      have hc3 : Chg R w w2 := (hch.trans (Chg.of_below (Ball (Nat.le_refl _) (Below.refl _ _)))).trans hc2
      clear hc2
      go_wp2
      go_roundg (gk - 1)
      case measure => omega
      case rel => exact ⟨k + 1, by omega, by go_num, hI2, hc3⟩
    · obtain rfl : k = ss.length := by omega
      go_wp2
      go_end0
      exact ⟨⟨_, rfl⟩, HI.out, hch⟩

end Go.Proofs.Ytohmeobfiomfdaa
