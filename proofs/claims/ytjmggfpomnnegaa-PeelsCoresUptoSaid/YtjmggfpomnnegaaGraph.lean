/-
  graph: the edges with their ends modulo n.
-/
import Derived.Test.YtjmggfpomnnegaaRows
import Derived.WalkKit
import Derived.WalkSpells
import Derived.WalkLawsBesides
import Derived.Deep.RegionHeld3
import Derived.Deep.AppendLies
import Derived.Test.YtjmggfpomnnegaaLaws
namespace Go.Proofs.Ytjmggfpomnnegaa
open Go.RowKit
set_option maxRecDepth 100000

structure Ed where
  src : Nat
  dst : Nat
  w : Nat

def Ed.cells (e : Ed) : List Value := [.int .u32 e.src, .int .u32 e.dst, .int .u32 e.w]
def edCells (l : List Ed) : List Value := l.flatMap Ed.cells
def modEd (n : Nat) (e : Ed) : Ed := ⟨e.src % n, e.dst % n, 0⟩

theorem edCells_len (l : List Ed) : (edCells l).length = l.length * 3 := by
  induction l with
  | nil => rfl
  | cons e l ih => simp [edCells, Ed.cells] at ih ⊢; omega

theorem edCells_snoc (l : List Ed) (e : Ed) : edCells (l ++ [e]) = edCells l ++ [.int .u32 e.src, .int .u32 e.dst, .int .u32 e.w] := by
  simp [edCells, Ed.cells]

theorem Try.info37 : (Try.prog.info? 37).map (fun i => (i.zero, i.size, i.bytes)) = some (some (.agg #[.int .u32 0, .int .u32 0, .int .u32 0]), 3, 12) := by kernel_rfl

set_option maxHeartbeats 1000000 in
theorem graph_some (n : Nat) (hn : 0 < n) (b off cap : Nat) (es : List Ed) (w : World) (hlen : es.length ≤ 1048576) (hnn : n ≤ 4294967295)
    (hs : ∀ e ∈ es, e.src ≤ 4294967295 ∧ e.dst ≤ 4294967295) (hb : b < w.heap.size)
    (hc0 : ∀ j (h : j < es.length), w.cell? ⟨b, off + j * 3, none⟩ = some (.int .u32 es[j].src))
    (hc1 : ∀ j (h : j < es.length), w.cell? ⟨b, off + j * 3 + 1, none⟩ = some (.int .u32 es[j].dst)) :
    Calls Try.prog 27 #[.int .u32 n, .slice (some ⟨b, off, none⟩) es.length cap] w fun e w' =>
      ∃ v, e = .returned v ∧ w'.ownsRow w.heap.size 37 3 v es.length (edCells (es.map (modEd n))) ∧ Below w.heap.size w w' := by
  obtain ⟨i0, hi, hz0, hz1, hz2⟩ := info_parts Try.info37
  go_enter Try.func27, Try.ntmps27
  go_wp2
  go_loopw [5, 6] (fun v i wr => ∃ k : Nat, k ≤ es.length ∧ i = .int .i64 k ∧ wr.ownsRow w.heap.size 37 3 v k (edCells ((es.take k).map (modEd n))) ∧ Below w.heap.size w wr) (fun _ i _ => es.length - (intOf i).toNat)
  case atStart => exact ⟨0, Nat.zero_le _, rfl, World.ownsRow_nil _ _ _ _, Below.refl _ _⟩
  case round =>
    obtain ⟨k, hk, rfl, hown, hbl⟩ := hrel
    by_cases hlt : k < es.length
    · have c0 := hc0 k hlt
      have c1 := hc1 k hlt
      rw [← hbl.cell (p := ⟨b, off + k * 3, none⟩) hb] at c0
      rw [← hbl.cell (p := ⟨b, off + k * 3 + 1, none⟩) hb] at c1
      have hnn0 : ¬ n = 0 := by omega
      have hss := hs es[k] (List.getElem_mem _)
      have hs0 : (0 : Int) ≤ es[k].src := Int.natCast_nonneg _
      have hd0 : (0 : Int) ≤ es[k].dst := Int.natCast_nonneg _
      have hn0 : (0 : Int) < n := by omega
      have hbz : b < wr.heap.size := by have := hbl.size; omega
      have hne := fun g h => (hown.lt g h).1
      have hne2 : some b ≠ u5.ownBlock := fun h => by have := hne b h.symm; omega
      clear hne
      go_wp2_with fail
      have hi1 : (k : Int) < (es.length : Int) := by omega
      have hi0' : (0 : Int) ≤ (k : Int) := Int.natCast_nonneg _
      have hown' := hown.alloc (.cells #[.int .u32 ((es[k].src : Int) % n), .int .u32 ((es[k].dst : Int) % n), .int .u32 0] 37)
      go_region_held3 (fun w' => w'.cell? ⟨b, off + k * 3, none⟩ = some (.int .u32 es[k].src) ∧ w'.cell? ⟨b, off + k * 3 + 1, none⟩ = some (.int .u32 es[k].dst))
        (first
          | go_keep
          | (go_split_ands
             refine ⟨?_, ?_⟩
             · (rw [hgrow.cell_far _ (by simp; omega) hne2]; assumption)
             · (rw [hgrow.cell_far _ (by simp; omega) hne2]; assumption)))
        ((refine step_append_lies _ (by rfl) _ _ _ (by rfl) w.heap.size 37 i0 _ 3 12 Try.underlying71 hi hz0 hz1 hz2 rfl (by omega) _ k _ (by rfl) ((hown'.drew)) ⟨wr.heap.size, 0, none⟩ 1 1 [.int .u32 ((es[k].src : Int) % n), .int .u32 ((es[k].dst : Int) % n), .int .u32 0] (by rfl) (by rfl) (World.news_of_block (fr := (0, 0)) (heap_alloc_new wr _)) (by simp [Value.oneCell']) (by omega) (by simp [maxLen]; omega) (by omega) (by have := hbl.size; simp; omega) (wr.heap.size + 1) (by simp) ?_; intro gg cap1 w1 hown1 hgrow hat hlt1))
      go_wp2
      go_roundw
      case rel =>
        refine ⟨k + 1, by omega, by go_num, ?_, ?_⟩
        · rw [List.take_succ_eq_append_getElem hlt, List.map_append, List.map_cons, List.map_nil, edCells_snoc]
          exact hown1
        · exact ((hbl.alloc hbl.size _).drew).grown hgrow (by have := hbl.size; simp; omega) (fun g h => (hown.lt g h).1)
      case measure => simp [intOf]; omega
    · obtain rfl : k = es.length := by omega
      go_wp2
      go_ret
      exact ⟨_, rfl, by simpa using hown, hbl⟩
end Go.Proofs.Ytjmggfpomnnegaa
