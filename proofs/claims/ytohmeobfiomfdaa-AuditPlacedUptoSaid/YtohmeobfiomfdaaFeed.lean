/-
  Feed's iterator: its contract.
-/
import Derived.RangeFuncNested
import Derived.RangeFuncBound
import Derived.RangeFuncCalls
import Derived.RangeFuncLeaves
import Derived.Shelf.Abstract
import Derived.Shelf.RegionOpen
import Derived.OwnWalkIn
import Derived.TacticsInMore
import Derived.LoopNIn
import Derived.LoopIn
import Derived.Test.YtohmeobfiomfdaaBase
namespace Go.Proofs.Ytohmeobfiomfdaa
open Go.RowKit Go.Shelf
set_option maxRecDepth 100000
attribute [local go_sem] Oper.semAt_some

def encF (x : Ed × Nat) : Array Value := #[.agg #[.int .u32 x.1.src, .int .u32 x.1.dst, .int .u32 x.1.w], .int .i64 x.2]
def feedL (es : List Ed) (beh : Nat) : List (Ed × Nat) := es.map (fun e => (e, 0)) ++ if beh = 0 then [] else [(⟨0, 0, 0⟩, beh)]

set_option maxHeartbeats 2000000 in
theorem feed1_in (n : Nat) (hn : 1 ≤ n) (l b1 b2 : Nat) (a : Option Addr) (cap eb eo : Nat) (es : List Ed) (beh : Nat) (hreach : es.length * 12 ≤ 140737488351232) (J Jx : List (Ed × Nat) → World → Prop) (W : World)
    (hJ : AbidesFrom W.heap.size J)
    (hY : ∀ pre x W1, J pre W1 → pre.length < (feedL es beh).length → YieldAt Fence.wide (n - 1) Try.prog l (encF x) W1 fun e W' =>
      (e = .returned (.bool true) ∧ J (pre ++ [x]) W' ∧ KeepB [b1, b2, eb] W1 W') ∨ (e = .returned (.bool false) ∧ Jx (pre ++ [x]) W'))
    (h1 : W.cell? ⟨b1, 0, none⟩ = some (.slice a es.length cap)) (h2 : W.cell? ⟨b2, 0, none⟩ = some (.int .i64 beh)) (hE : IsEds W a eb eo es) (h0 : J [] W) :
    CallsIn Fence.wide n Try.prog 41 #[.func (.yield l) #[] #[], .pointer (some ⟨b1, 0, none⟩), .pointer (some ⟨b2, 0, none⟩)] W fun e W' => (∃ v, e = .returned v) ∧
      ((∃ ys, ys = feedL es beh ∧ J ys W') ∨ (∃ pre, pre <+: feedL es beh ∧ Jx pre W')) := by
  refine callsIn_of_wp Try.func41 rfl trivial ?_ rfl
  simp only [Try.ntmps41, List.size_toArray, List.length_cons, List.length_nil, Nat.reduceAdd, Nat.reduceSub, Array.replicate_succ, Array.replicate_zero, List.push_toArray, List.append_toArray, List.nil_append, List.cons_append]
  have hb1 := World.block_lt_of_cell? W _ h1
  have hb2 := World.block_lt_of_cell? W _ h2
  simp only [] at hb1 hb2
  gi_wp2
  gi_loopw [8] (fun i wr => ∃ k : Nat, k ≤ es.length ∧ i = .int .i64 k ∧ J ((es.take k).map (fun e => (e, 0))) wr ∧ KeepB [b1, b2, eb] W wr)
    (fun i _ => es.length - (intOf i).toNat)
  case atStart => exact ⟨0, Nat.zero_le _, rfl, h0, KeepB.refl _ _⟩
  case round =>
    obtain ⟨k, hk, rfl, hJs, hkp⟩ := hrel
    have hsz := hkp.1
    have hk1 : wr.cell? ⟨b1, 0, none⟩ = some (.slice a es.length cap) := (cell_heap (a := ⟨b1, 0, none⟩) (hkp.2 b1 (by simp))).trans h1
    have hk2 : wr.cell? ⟨b2, 0, none⟩ = some (.int .i64 beh) := (cell_heap (a := ⟨b2, 0, none⟩) (hkp.2 b2 (by simp))).trans h2
    by_cases hlt : k < es.length
    · have hEr := hE.keep (fun _ => hkp.2 eb (by simp)) hsz
      obtain rfl := hE.ad (by omega)
      have c0 := hEr.c0 k hlt
      have c1 := hEr.c1 k hlt
      have c2 := hEr.c2 k hlt
      have hpre : ((es.take k).map (fun e => (e, 0))).length < (feedL es beh).length := by
        unfold feedL
        rw [List.length_append, List.length_map, List.length_map, List.length_take]
        omega
      have hsn : (es.take k).map (fun e => (e, 0)) ++ [(es[k], 0)] = (es.take (k + 1)).map (fun e => (e, 0)) := by
        rw [List.take_succ_eq_append_getElem hlt, List.map_append]; rfl
      have hpf : (es.take (k + 1)).map (fun e => (e, 0)) <+: feedL es beh := by
        unfold feedL
        refine List.IsPrefix.trans ?_ (List.prefix_append _ _)
        exact (List.take_prefix (k + 1) es).map _
      obtain ⟨src, dst, x, hes⟩ : ∃ src dst x, es[k] = ⟨src, dst, x⟩ := ⟨_, _, _, rfl⟩
      rw [hes] at c0 c1 c2 hsn
      simp only [] at c0 c1 c2
      have hJ2 : J ((es.take k).map (fun e => (e, 0))) (wr.alloc (.cells #[.int .u32 src, .int .u32 dst, .int .u32 x] 71)) := hJ _ _ _ none hJs (World.grownBy_alloc wr _ none) (fun r e => by cases e)
      obtain ⟨fn, tmps, assign, body, hy, hR⟩ := hY _ (⟨src, dst, x⟩, 0) _ hJ2 hpre
      change (Instr.yield l #[.agg #[.int .u32 src, .int .u32 dst, .int .u32 x], .int .i64 0]).run Try.prog _ = _ at hy
      have HSN := Lib.hid hsn
      have HPF := Lib.hid hpf
      clear hes hsn hpf hpre hEr hJs
      have hm0 : (k : Int) < (es.length : Int) := by omega
      have hm1 : (0 : Int) ≤ (k : Int) := Int.natCast_nonneg _
      gi_wp2
      refine hR.mono ?_
      rintro e W3 (⟨rfl, hJ3, hk3⟩ | ⟨rfl, hJx3⟩)
      · gi_wp2
        go_roundw
        case rel =>
          refine ⟨k + 1, by omega, by simp, by rw [← HSN.out]; exact hJ3, hkp.trans (KeepB.trans (KeepB.below ((Below.refl _ wr).alloc (Nat.le_refl _) _) ?_) hk3)⟩
          intro x hx
          simp only [List.mem_cons, List.not_mem_nil, or_false] at hx
          have := hE.lt (by omega)
          omega
        case measure => simp [intOf]; omega
      · gi_wp2
        refine bodyPost_ret (results_none rfl _ _ _) rfl ?_
        exact ⟨⟨_, rfl⟩, .inr ⟨_, by rw [HSN.out]; exact HPF.out, hJx3⟩⟩
    · obtain rfl : k = es.length := by omega
      rw [List.take_length] at hJs
      by_cases hb : beh = 0
      · subst hb
        gi_wp2
        go_end0
        exact ⟨⟨_, rfl⟩, .inl ⟨_, by unfold feedL; rw [if_pos rfl, List.append_nil], hJs⟩⟩
      · have hpre : (es.map (fun e => (e, 0))).length < (feedL es beh).length := by
          unfold feedL
          rw [if_neg hb, List.length_append]; simp
        have hfl : feedL es beh = es.map (fun e => (e, 0)) ++ [(⟨0, 0, 0⟩, beh)] := by unfold feedL; rw [if_neg hb]
        obtain ⟨fn, tmps, assign, body, hy, hR⟩ := hY _ (⟨0, 0, 0⟩, beh) _ hJs hpre
        change (Instr.yield l #[.agg #[.int .u32 0, .int .u32 0, .int .u32 0], .int .i64 beh]).run Try.prog _ = _ at hy
        have HFL := Lib.hid hfl
        have hb' : ((beh : Int) != 0) = true := by rw [bne_iff_ne]; omega
        clear hfl hpre hb
        gi_wp2
        refine hR.mono ?_
        rintro e W3 (⟨rfl, hJ3, hk3⟩ | ⟨rfl, hJx3⟩)
        · gi_wp2
          go_end0
          exact ⟨⟨_, rfl⟩, .inl ⟨_, HFL.out.symm, hJ3⟩⟩
        · gi_wp2
          go_end0
          exact ⟨⟨_, rfl⟩, .inr ⟨_, by rw [HFL.out]; exact List.prefix_refl _, hJx3⟩⟩

/-- What Feed hands out can be gone over, as often as wanted: all of it, or a prefix. -/
theorem feed_stops (n : Nat) (hn : 1 ≤ n) (b1 b2 : Nat) (a : Option Addr) (cap eb eo : Nat) (es : List Ed) (beh : Nat) (hreach : es.length * 12 ≤ 140737488351232) (w : World)
    (h1 : w.cell? ⟨b1, 0, none⟩ = some (.slice a es.length cap)) (h2 : w.cell? ⟨b2, 0, none⟩ = some (.int .i64 beh)) (hE : IsEds w a eb eo es) :
    SeqStopsK Fence.wide n Try.prog 41 #[.pointer (some ⟨b1, 0, none⟩), .pointer (some ⟨b2, 0, none⟩)] encF (KeepB [b1, b2, eb]) (fun xs => xs = feedL es beh) (fun pre => pre <+: feedL es beh) (feedL es beh).length w := by
  intro l J Jx W hW hJ hJx hY h0
  have hb1 := World.block_lt_of_cell? w _ h1
  have hb2 := World.block_lt_of_cell? w _ h2
  simp only [] at hb1 hb2
  exact feed1_in n hn l b1 b2 a cap eb eo es beh hreach J Jx W hJ hY ((hW.cell (p := ⟨b1, 0, none⟩) hb1).trans h1) ((hW.cell (p := ⟨b2, 0, none⟩) hb2).trans h2) (hE.below hW hE.lt) h0

end Go.Proofs.Ytohmeobfiomfdaa
