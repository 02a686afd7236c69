/-
  The statement AuditPlaced: what its steps answer.
-/
import Derived.Test.YtohmeobfiomfdaaLaw4
import Derived.Test.YtohmeobfiomfdaaPla5
import Derived.Test.YtohmeobfiomfdaaPla6
import Derived.Test.YtohmeobfiomfdaaPla7
namespace Go.Proofs.Ytohmeobfiomfdaa
open Go.RowKit Go.Shelf
set_option maxRecDepth 100000

set_option maxHeartbeats 4000000 in
theorem states_own (a : Option Addr) (sb so sc : Nat) (ss : List St) (r : Nat) (w : World) (hs : IsSts w a sb so ss) (hr : r ≤ 1048576) (hsl : ss.length ≤ 1048576) :
    Calls Try.prog 6 #[.slice a ss.length sc, .int .i64 r] w fun e w' => ∃ g cap, e = .returned (.slice (some ⟨g, 0, none⟩) r cap) ∧ r + 2 ≤ cap ∧ IsSts w' (some ⟨g, 0, none⟩) g 0 (padS ss r ++ [mark 77, mark 78]) ∧ (∀ j, w'.frozen? ⟨g, j, none⟩ = false) ∧ w.heap.size ≤ g ∧ Below w.heap.size w w' := by
  obtain ⟨i0, hi, hz0, hz1, hz2⟩ := info_parts Try.info56
  go_enter Try.func6, Try.ntmps6
  go_upto_region 9 with fail
  go_loopg [5, 6] r (fun gk v i wr => ∃ k : Nat, k + gk = r ∧ i = .int .i64 k ∧ wr.ownsRow w.heap.size 56 8 v k (stCells (padS ss k)) ∧ Below w.heap.size w wr)
  case atStart => exact ⟨0, by omega, rfl, World.ownsRow_nil _ _ _ _, Below.refl _ _⟩
  case round =>
    obtain ⟨k, hk, rfl, hown, hb⟩ := hrel
    by_cases hlt : k < r
    · have h1 : (k : Int) < r := by omega
      have h2 : (0 : Int) ≤ k := Int.natCast_nonneg _
      have hgk : 0 < gk := by omega
      have hbz := hb.size
      have hps := padS_succ ss k
      by_cases hks : k < ss.length
      · have h3 : (k : Int) < ss.length := by omega
        have hsr := hs.below hb hs.lt
        obtain rfl := hsr.ad (by omega)
        have hsl' := hsr.lt (by omega)
        have s0 := hsr.c0 k hks
        have s1 := hsr.c1 k hks
        have s2 := hsr.c2 k hks
        have s3 := hsr.c3 k hks
        have s4 := hsr.c4 k hks
        have s5 := hsr.c5 k hks
        have s6 := hsr.c6 k hks
        have s7 := hsr.c7 k hks
        rw [List.getD_eq_getElem?_getD, List.getElem?_eq_getElem hks, Option.getD_some] at hps
        generalize ss[k] = s at *
        have HPS := Lib.hid hps
        clear hps hsr
        go_wp2_with (at_builtin; refine wpList_append_lies _ rfl _ _ 23 rfl w.heap.size 56 i0 _ 8 64 Try.underlying23 hi hz0 hz1 hz2 rfl (by omega) _ k _ rfl ((hown.alloc _).alloc _) ⟨wr.heap.size + 1, 0, none⟩ 1 1 [.int .u64 s.a0, .int .u64 s.a1, .int .u64 s.a2, .int .u64 s.a3, .int .u64 s.a4, .int .u64 s.a5, .int .u64 s.a6, .int .u64 s.a7] rfl rfl (World.news_of_block (fr := (0, 0)) (by have := heap_alloc_new (wr.alloc (.cells #[.int .u64 s.a0, .int .u64 s.a1, .int .u64 s.a2, .int .u64 s.a3, .int .u64 s.a4, .int .u64 s.a5, .int .u64 s.a6, .int .u64 s.a7] 56)) (.cells #[.int .u64 s.a0, .int .u64 s.a1, .int .u64 s.a2, .int .u64 s.a3, .int .u64 s.a4, .int .u64 s.a5, .int .u64 s.a6, .int .u64 s.a7] 56); rwa [World.size_alloc] at this)) (by simp [Value.oneCell']) (by omega) (by unfold maxLen; omega) (by omega) (by simp; omega) (wr.heap.size + 1 + 1) (by simp) ?_; intro g cap w1 hown1 hgrow hat hlt1)
        go_roundg (gk - 1)
        case measure => omega
        case rel =>
          refine ⟨k + 1, by omega, by go_num, ?_, ?_⟩
          · rw [HPS.out, stCells_app]; exact hown1
          · exact Below.grown (by repeat (first | with_reducible exact Below.refl _ _ | with_reducible assumption | with_reducible refine below_drewN ?_ _ | with_reducible refine Below.drew ?_ | ((with_reducible refine Bset ?_ ?_); focus (first | omega | (simp; done) | (simp; omega))) | ((with_reducible refine Ball ?_ ?_); focus (first | omega | (simp; done) | (simp; omega))))) hgrow (by simp; omega) (fun j hj => (hown.lt j hj).1)
      · have h3 : ¬ (k : Int) < ss.length := by omega
        rw [List.getD_eq_getElem?_getD, List.getElem?_eq_none (by omega), Option.getD_none] at hps
        have HPS := Lib.hid hps
        clear hps
        go_wp2_with (at_builtin; refine wpList_append_lies _ rfl _ _ 23 rfl w.heap.size 56 i0 _ 8 64 Try.underlying23 hi hz0 hz1 hz2 rfl (by omega) _ k _ rfl ((hown.alloc _).alloc _) ⟨wr.heap.size + 1, 0, none⟩ 1 1 [.int .u64 0, .int .u64 0, .int .u64 0, .int .u64 0, .int .u64 0, .int .u64 0, .int .u64 0, .int .u64 0] rfl rfl (World.news_of_block (fr := (0, 0)) (by have := heap_alloc_new (wr.alloc (.cells #[.int .u64 0, .int .u64 0, .int .u64 0, .int .u64 0, .int .u64 0, .int .u64 0, .int .u64 0, .int .u64 0] 56)) (.cells #[.int .u64 0, .int .u64 0, .int .u64 0, .int .u64 0, .int .u64 0, .int .u64 0, .int .u64 0, .int .u64 0] 56); rwa [World.size_alloc] at this)) (by simp [Value.oneCell']) (by omega) (by unfold maxLen; omega) (by omega) (by simp; omega) (wr.heap.size + 1 + 1) (by simp) ?_; intro g cap w1 hown1 hgrow hat hlt1)
        go_roundg (gk - 1)
        case measure => omega
        case rel =>
          refine ⟨k + 1, by omega, by go_num, ?_, ?_⟩
          · rw [HPS.out, stCells_app]; exact hown1
          · exact Below.grown (by repeat (first | with_reducible exact Below.refl _ _ | with_reducible assumption | with_reducible refine below_drewN ?_ _ | with_reducible refine Below.drew ?_ | ((with_reducible refine Bset ?_ ?_); focus (first | omega | (simp; done) | (simp; omega))) | ((with_reducible refine Ball ?_ ?_); focus (first | omega | (simp; done) | (simp; omega))))) hgrow (by simp; omega) (fun j hj => (hown.lt j hj).1)
    · obtain rfl : k = r := by omega
      have hbz := hb.size
      have i1 : (0 : Int) ≤ k := Int.natCast_nonneg _
      go_wp2_with (at_builtin; refine wpList_append_lies _ rfl _ _ 23 rfl w.heap.size 56 i0 _ 8 64 Try.underlying23 hi hz0 hz1 hz2 rfl (by omega) _ k _ rfl (hown.alloc _) ⟨wr.heap.size, 0, none⟩ 2 2 [.int .u64 77, .int .u64 77, .int .u64 77, .int .u64 0, .int .u64 0, .int .u64 0, .int .u64 0, .int .u64 0, .int .u64 78, .int .u64 78, .int .u64 78, .int .u64 0, .int .u64 0, .int .u64 0, .int .u64 0, .int .u64 0] rfl rfl (World.news_of_block (fr := (0, 0)) (heap_alloc_new wr _)) (by simp [Value.oneCell']) (by omega) (by unfold maxLen; omega) (by omega) (by simp; omega) (wr.heap.size + 1) (by simp) ?_; intro g cap w1 hown1 hgrow hat hlt1; have hcap : k + 2 ≤ cap := own_cap hown1; have hcap2 : (k : Int) ≤ cap := (by omega))
      go_ret
      rw [show stCells (padS ss k) ++ [.int .u64 77, .int .u64 77, .int .u64 77, .int .u64 0, .int .u64 0, .int .u64 0, .int .u64 0, .int .u64 0, .int .u64 78, .int .u64 78, .int .u64 78, .int .u64 0, .int .u64 0, .int .u64 0, .int .u64 0, .int .u64 0] = stCells (padS ss k ++ [mark 77, mark 78]) by simp [stCells, St.cells, mark]] at hown1
      exact ⟨g, cap, rfl, hcap, IsSts.of_own hown1 (by simp [padS_len]) hlt1, hown1.frozenAt, (hown1.lt g rfl).1, Below.grown (by repeat (first | with_reducible exact Below.refl _ _ | with_reducible assumption | with_reducible refine below_drewN ?_ _ | with_reducible refine Below.drew ?_ | ((with_reducible refine Bset ?_ ?_); focus (first | omega | (simp; done) | (simp; omega))) | ((with_reducible refine Ball ?_ ?_); focus (first | omega | (simp; done) | (simp; omega))))) hgrow (by simp; omega) (fun j hj => (hown.lt j hj).1)⟩


/-- A list of states of the statement's own, which may be written over. -/
structure Sts8 (W : World) (sg : Nat) (ss : List St) : Prop where
  s : IsSts W (some ⟨sg, 0, none⟩) sg 0 ss
  f : ∀ j, W.frozen? ⟨sg, j, none⟩ = false
  lt : sg < W.heap.size
theorem Sts8.keep {W W' : World} {sg : Nat} {ss : List St} (h : Sts8 W sg ss) (hk : W'.heap[sg]? = W.heap[sg]?) (hz : W.heap.size ≤ W'.heap.size) : Sts8 W' sg ss :=
  ⟨h.s.keep (fun _ => hk) hz, fun j => by rw [← h.f j]; exact frozen_heap (a := ⟨sg, j, none⟩) hk, Nat.lt_of_lt_of_le h.lt hz⟩
/-- One state written over. -/
theorem Sts8.put {W : World} {sg : Nat} {ss : List St} (h : Sts8 W sg ss) (i : Nat) (hi : i < ss.length) (x : St) : Sts8 ((((((((W.setCell ⟨sg, i * 8, none⟩ (.int .u64 x.a0)).setCell ⟨sg, i * 8 + 1, none⟩ (.int .u64 x.a1)).setCell ⟨sg, i * 8 + 2, none⟩ (.int .u64 x.a2)).setCell ⟨sg, i * 8 + 3, none⟩ (.int .u64 x.a3)).setCell ⟨sg, i * 8 + 4, none⟩ (.int .u64 x.a4)).setCell ⟨sg, i * 8 + 5, none⟩ (.int .u64 x.a5)).setCell ⟨sg, i * 8 + 6, none⟩ (.int .u64 x.a6)).setCell ⟨sg, i * 8 + 7, none⟩ (.int .u64 x.a7)) sg (ss.set i x) where
  s := by
    have hn : ∀ (j a b : Nat), j ≠ i → a < 8 → b < 8 → j * 8 + a ≠ i * 8 + b := fun j a b h1 h2 h3 => by omega
    have e0 := h.s.c0 i hi
    have e1 := h.s.c1 i hi
    have e2 := h.s.c2 i hi
    have e3 := h.s.c3 i hi
    have e4 := h.s.c4 i hi
    have e5 := h.s.c5 i hi
    have e6 := h.s.c6 i hi
    have e7 := h.s.c7 i hi
    simp only [Nat.zero_add] at e0 e1 e2 e3 e4 e5 e6 e7
    refine ⟨fun _ => rfl, fun _ => by simpa using h.lt, fun j hj => ?_, fun j hj => ?_, fun j hj => ?_, fun j hj => ?_, fun j hj => ?_, fun j hj => ?_, fun j hj => ?_, fun j hj => ?_⟩
    · rw [List.length_set] at hj
      rw [Nat.zero_add]
      by_cases e : j = i
      · subst e
        rw [List.getElem_set_self]
        rw [World.cell?_setCell_other (h := fun q => by simp only [Addr.mk.injEq] at q; omega) .., World.cell?_setCell_other (h := fun q => by simp only [Addr.mk.injEq] at q; omega) .., World.cell?_setCell_other (h := fun q => by simp only [Addr.mk.injEq] at q; omega) .., World.cell?_setCell_other (h := fun q => by simp only [Addr.mk.injEq] at q; omega) .., World.cell?_setCell_other (h := fun q => by simp only [Addr.mk.injEq] at q; omega) .., World.cell?_setCell_other (h := fun q => by simp only [Addr.mk.injEq] at q; omega) .., World.cell?_setCell_other (h := fun q => by simp only [Addr.mk.injEq] at q; omega) ..]
        exact World.cell?_setCell_same' _ _ _ (by rw [e0]; rfl)
      · rw [List.getElem_set_ne (fun x => e x.symm)]
        rw [World.cell?_setCell_other (h := fun q => by simp only [Addr.mk.injEq] at q; omega) .., World.cell?_setCell_other (h := fun q => by simp only [Addr.mk.injEq] at q; omega) .., World.cell?_setCell_other (h := fun q => by simp only [Addr.mk.injEq] at q; omega) .., World.cell?_setCell_other (h := fun q => by simp only [Addr.mk.injEq] at q; omega) .., World.cell?_setCell_other (h := fun q => by simp only [Addr.mk.injEq] at q; omega) .., World.cell?_setCell_other (h := fun q => by simp only [Addr.mk.injEq] at q; omega) .., World.cell?_setCell_other (h := fun q => by simp only [Addr.mk.injEq] at q; omega) .., World.cell?_setCell_other (h := fun q => by simp only [Addr.mk.injEq] at q; omega) ..]
        have := h.s.c0 j hj
        rwa [Nat.zero_add] at this
    · rw [List.length_set] at hj
      rw [Nat.zero_add]
      by_cases e : j = i
      · subst e
        rw [List.getElem_set_self]
        rw [World.cell?_setCell_other (h := fun q => by simp only [Addr.mk.injEq] at q; omega) .., World.cell?_setCell_other (h := fun q => by simp only [Addr.mk.injEq] at q; omega) .., World.cell?_setCell_other (h := fun q => by simp only [Addr.mk.injEq] at q; omega) .., World.cell?_setCell_other (h := fun q => by simp only [Addr.mk.injEq] at q; omega) .., World.cell?_setCell_other (h := fun q => by simp only [Addr.mk.injEq] at q; omega) .., World.cell?_setCell_other (h := fun q => by simp only [Addr.mk.injEq] at q; omega) ..]
        exact World.cell?_setCell_same' _ _ _ (by rw [World.cell?_setCell_other (h := fun q => by simp only [Addr.mk.injEq] at q; omega) .., e1]; rfl)
      · rw [List.getElem_set_ne (fun x => e x.symm)]
        rw [World.cell?_setCell_other (h := fun q => by simp only [Addr.mk.injEq] at q; omega) .., World.cell?_setCell_other (h := fun q => by simp only [Addr.mk.injEq] at q; omega) .., World.cell?_setCell_other (h := fun q => by simp only [Addr.mk.injEq] at q; omega) .., World.cell?_setCell_other (h := fun q => by simp only [Addr.mk.injEq] at q; omega) .., World.cell?_setCell_other (h := fun q => by simp only [Addr.mk.injEq] at q; omega) .., World.cell?_setCell_other (h := fun q => by simp only [Addr.mk.injEq] at q; omega) .., World.cell?_setCell_other (h := fun q => by simp only [Addr.mk.injEq] at q; omega) .., World.cell?_setCell_other (h := fun q => by simp only [Addr.mk.injEq] at q; omega) ..]
        have := h.s.c1 j hj
        rwa [Nat.zero_add] at this
    · rw [List.length_set] at hj
      rw [Nat.zero_add]
      by_cases e : j = i
      · subst e
        rw [List.getElem_set_self]
        rw [World.cell?_setCell_other (h := fun q => by simp only [Addr.mk.injEq] at q; omega) .., World.cell?_setCell_other (h := fun q => by simp only [Addr.mk.injEq] at q; omega) .., World.cell?_setCell_other (h := fun q => by simp only [Addr.mk.injEq] at q; omega) .., World.cell?_setCell_other (h := fun q => by simp only [Addr.mk.injEq] at q; omega) .., World.cell?_setCell_other (h := fun q => by simp only [Addr.mk.injEq] at q; omega) ..]
        exact World.cell?_setCell_same' _ _ _ (by rw [World.cell?_setCell_other (h := fun q => by simp only [Addr.mk.injEq] at q; omega) .., World.cell?_setCell_other (h := fun q => by simp only [Addr.mk.injEq] at q; omega) .., e2]; rfl)
      · rw [List.getElem_set_ne (fun x => e x.symm)]
        rw [World.cell?_setCell_other (h := fun q => by simp only [Addr.mk.injEq] at q; omega) .., World.cell?_setCell_other (h := fun q => by simp only [Addr.mk.injEq] at q; omega) .., World.cell?_setCell_other (h := fun q => by simp only [Addr.mk.injEq] at q; omega) .., World.cell?_setCell_other (h := fun q => by simp only [Addr.mk.injEq] at q; omega) .., World.cell?_setCell_other (h := fun q => by simp only [Addr.mk.injEq] at q; omega) .., World.cell?_setCell_other (h := fun q => by simp only [Addr.mk.injEq] at q; omega) .., World.cell?_setCell_other (h := fun q => by simp only [Addr.mk.injEq] at q; omega) .., World.cell?_setCell_other (h := fun q => by simp only [Addr.mk.injEq] at q; omega) ..]
        have := h.s.c2 j hj
        rwa [Nat.zero_add] at this
    · rw [List.length_set] at hj
      rw [Nat.zero_add]
      by_cases e : j = i
      · subst e
        rw [List.getElem_set_self]
        rw [World.cell?_setCell_other (h := fun q => by simp only [Addr.mk.injEq] at q; omega) .., World.cell?_setCell_other (h := fun q => by simp only [Addr.mk.injEq] at q; omega) .., World.cell?_setCell_other (h := fun q => by simp only [Addr.mk.injEq] at q; omega) .., World.cell?_setCell_other (h := fun q => by simp only [Addr.mk.injEq] at q; omega) ..]
        exact World.cell?_setCell_same' _ _ _ (by rw [World.cell?_setCell_other (h := fun q => by simp only [Addr.mk.injEq] at q; omega) .., World.cell?_setCell_other (h := fun q => by simp only [Addr.mk.injEq] at q; omega) .., World.cell?_setCell_other (h := fun q => by simp only [Addr.mk.injEq] at q; omega) .., e3]; rfl)
      · rw [List.getElem_set_ne (fun x => e x.symm)]
        rw [World.cell?_setCell_other (h := fun q => by simp only [Addr.mk.injEq] at q; omega) .., World.cell?_setCell_other (h := fun q => by simp only [Addr.mk.injEq] at q; omega) .., World.cell?_setCell_other (h := fun q => by simp only [Addr.mk.injEq] at q; omega) .., World.cell?_setCell_other (h := fun q => by simp only [Addr.mk.injEq] at q; omega) .., World.cell?_setCell_other (h := fun q => by simp only [Addr.mk.injEq] at q; omega) .., World.cell?_setCell_other (h := fun q => by simp only [Addr.mk.injEq] at q; omega) .., World.cell?_setCell_other (h := fun q => by simp only [Addr.mk.injEq] at q; omega) .., World.cell?_setCell_other (h := fun q => by simp only [Addr.mk.injEq] at q; omega) ..]
        have := h.s.c3 j hj
        rwa [Nat.zero_add] at this
    · rw [List.length_set] at hj
      rw [Nat.zero_add]
      by_cases e : j = i
      · subst e
        rw [List.getElem_set_self]
        rw [World.cell?_setCell_other (h := fun q => by simp only [Addr.mk.injEq] at q; omega) .., World.cell?_setCell_other (h := fun q => by simp only [Addr.mk.injEq] at q; omega) .., World.cell?_setCell_other (h := fun q => by simp only [Addr.mk.injEq] at q; omega) ..]
        exact World.cell?_setCell_same' _ _ _ (by rw [World.cell?_setCell_other (h := fun q => by simp only [Addr.mk.injEq] at q; omega) .., World.cell?_setCell_other (h := fun q => by simp only [Addr.mk.injEq] at q; omega) .., World.cell?_setCell_other (h := fun q => by simp only [Addr.mk.injEq] at q; omega) .., World.cell?_setCell_other (h := fun q => by simp only [Addr.mk.injEq] at q; omega) .., e4]; rfl)
      · rw [List.getElem_set_ne (fun x => e x.symm)]
        rw [World.cell?_setCell_other (h := fun q => by simp only [Addr.mk.injEq] at q; omega) .., World.cell?_setCell_other (h := fun q => by simp only [Addr.mk.injEq] at q; omega) .., World.cell?_setCell_other (h := fun q => by simp only [Addr.mk.injEq] at q; omega) .., World.cell?_setCell_other (h := fun q => by simp only [Addr.mk.injEq] at q; omega) .., World.cell?_setCell_other (h := fun q => by simp only [Addr.mk.injEq] at q; omega) .., World.cell?_setCell_other (h := fun q => by simp only [Addr.mk.injEq] at q; omega) .., World.cell?_setCell_other (h := fun q => by simp only [Addr.mk.injEq] at q; omega) .., World.cell?_setCell_other (h := fun q => by simp only [Addr.mk.injEq] at q; omega) ..]
        have := h.s.c4 j hj
        rwa [Nat.zero_add] at this
    · rw [List.length_set] at hj
      rw [Nat.zero_add]
      by_cases e : j = i
      · subst e
        rw [List.getElem_set_self]
        rw [World.cell?_setCell_other (h := fun q => by simp only [Addr.mk.injEq] at q; omega) .., World.cell?_setCell_other (h := fun q => by simp only [Addr.mk.injEq] at q; omega) ..]
        exact World.cell?_setCell_same' _ _ _ (by rw [World.cell?_setCell_other (h := fun q => by simp only [Addr.mk.injEq] at q; omega) .., World.cell?_setCell_other (h := fun q => by simp only [Addr.mk.injEq] at q; omega) .., World.cell?_setCell_other (h := fun q => by simp only [Addr.mk.injEq] at q; omega) .., World.cell?_setCell_other (h := fun q => by simp only [Addr.mk.injEq] at q; omega) .., World.cell?_setCell_other (h := fun q => by simp only [Addr.mk.injEq] at q; omega) .., e5]; rfl)
      · rw [List.getElem_set_ne (fun x => e x.symm)]
        rw [World.cell?_setCell_other (h := fun q => by simp only [Addr.mk.injEq] at q; omega) .., World.cell?_setCell_other (h := fun q => by simp only [Addr.mk.injEq] at q; omega) .., World.cell?_setCell_other (h := fun q => by simp only [Addr.mk.injEq] at q; omega) .., World.cell?_setCell_other (h := fun q => by simp only [Addr.mk.injEq] at q; omega) .., World.cell?_setCell_other (h := fun q => by simp only [Addr.mk.injEq] at q; omega) .., World.cell?_setCell_other (h := fun q => by simp only [Addr.mk.injEq] at q; omega) .., World.cell?_setCell_other (h := fun q => by simp only [Addr.mk.injEq] at q; omega) .., World.cell?_setCell_other (h := fun q => by simp only [Addr.mk.injEq] at q; omega) ..]
        have := h.s.c5 j hj
        rwa [Nat.zero_add] at this
    · rw [List.length_set] at hj
      rw [Nat.zero_add]
      by_cases e : j = i
      · subst e
        rw [List.getElem_set_self]
        rw [World.cell?_setCell_other (h := fun q => by simp only [Addr.mk.injEq] at q; omega) ..]
        exact World.cell?_setCell_same' _ _ _ (by rw [World.cell?_setCell_other (h := fun q => by simp only [Addr.mk.injEq] at q; omega) .., World.cell?_setCell_other (h := fun q => by simp only [Addr.mk.injEq] at q; omega) .., World.cell?_setCell_other (h := fun q => by simp only [Addr.mk.injEq] at q; omega) .., World.cell?_setCell_other (h := fun q => by simp only [Addr.mk.injEq] at q; omega) .., World.cell?_setCell_other (h := fun q => by simp only [Addr.mk.injEq] at q; omega) .., World.cell?_setCell_other (h := fun q => by simp only [Addr.mk.injEq] at q; omega) .., e6]; rfl)
      · rw [List.getElem_set_ne (fun x => e x.symm)]
        rw [World.cell?_setCell_other (h := fun q => by simp only [Addr.mk.injEq] at q; omega) .., World.cell?_setCell_other (h := fun q => by simp only [Addr.mk.injEq] at q; omega) .., World.cell?_setCell_other (h := fun q => by simp only [Addr.mk.injEq] at q; omega) .., World.cell?_setCell_other (h := fun q => by simp only [Addr.mk.injEq] at q; omega) .., World.cell?_setCell_other (h := fun q => by simp only [Addr.mk.injEq] at q; omega) .., World.cell?_setCell_other (h := fun q => by simp only [Addr.mk.injEq] at q; omega) .., World.cell?_setCell_other (h := fun q => by simp only [Addr.mk.injEq] at q; omega) .., World.cell?_setCell_other (h := fun q => by simp only [Addr.mk.injEq] at q; omega) ..]
        have := h.s.c6 j hj
        rwa [Nat.zero_add] at this
    · rw [List.length_set] at hj
      rw [Nat.zero_add]
      by_cases e : j = i
      · subst e
        rw [List.getElem_set_self]
        exact World.cell?_setCell_same' _ _ _ (by rw [World.cell?_setCell_other (h := fun q => by simp only [Addr.mk.injEq] at q; omega) .., World.cell?_setCell_other (h := fun q => by simp only [Addr.mk.injEq] at q; omega) .., World.cell?_setCell_other (h := fun q => by simp only [Addr.mk.injEq] at q; omega) .., World.cell?_setCell_other (h := fun q => by simp only [Addr.mk.injEq] at q; omega) .., World.cell?_setCell_other (h := fun q => by simp only [Addr.mk.injEq] at q; omega) .., World.cell?_setCell_other (h := fun q => by simp only [Addr.mk.injEq] at q; omega) .., World.cell?_setCell_other (h := fun q => by simp only [Addr.mk.injEq] at q; omega) .., e7]; rfl)
      · rw [List.getElem_set_ne (fun x => e x.symm)]
        rw [World.cell?_setCell_other (h := fun q => by simp only [Addr.mk.injEq] at q; omega) .., World.cell?_setCell_other (h := fun q => by simp only [Addr.mk.injEq] at q; omega) .., World.cell?_setCell_other (h := fun q => by simp only [Addr.mk.injEq] at q; omega) .., World.cell?_setCell_other (h := fun q => by simp only [Addr.mk.injEq] at q; omega) .., World.cell?_setCell_other (h := fun q => by simp only [Addr.mk.injEq] at q; omega) .., World.cell?_setCell_other (h := fun q => by simp only [Addr.mk.injEq] at q; omega) .., World.cell?_setCell_other (h := fun q => by simp only [Addr.mk.injEq] at q; omega) .., World.cell?_setCell_other (h := fun q => by simp only [Addr.mk.injEq] at q; omega) ..]
        have := h.s.c7 j hj
        rwa [Nat.zero_add] at this
  f := fun j => by simp only [World.frozen?_setCell]; exact h.f j
  lt := by simpa using h.lt

theorem Roots.uniq {E : Nat → Nat → Prop} {ρ σ : Nat → Nat} {N : Nat} (h : Roots E ρ N) (k : Roots E σ N) (v : Nat) (hv : v < N) : ρ v = σ v := by
  have h1 := h.least hv (k.lt hv) (k.sound v hv)
  have h2 := k.least hv (h.lt hv) (h.sound v hv)
  omega
theorem Bword.congr {ss : List St} {F G : Nat → Nat} {n : Nat} (h : ∀ v, v < n → F v = G v) (v r : Nat) : Bword ss F n v r ↔ Bword ss G n v r := by
  unfold Bword
  constructor
  · rintro ⟨a1, a2, a3⟩; exact ⟨a1, a2, by rw [← h v a1]; exact a3⟩
  · rintro ⟨a1, a2, a3⟩; exact ⟨a1, a2, by rw [h v a1]; exact a3⟩

theorem feed0_any (a : Option Addr) (cap eb eo : Nat) (es : List Ed) (K : Nat) (w : World) (hE : IsEds w a eb eo es) (hK : es.length = K) (hlen : es.length ≤ 1048576) :
    Calls Try.prog 9 #[.slice a K cap, .int .i64 0] w fun e w' => ∃ (b1 b2 : Nat) (a2 : Option Addr) (cap2 g : Nat), e = .returned (.func (.func 41) #[] #[.pointer (some ⟨b1, 0, none⟩), .pointer (some ⟨b2, 0, none⟩)]) ∧
      Hid (Fed w' b1 b2 g 0 a2 cap2 es 0) ∧ Hid (w.heap.size ≤ b1 ∧ w.heap.size ≤ b2 ∧ w.heap.size ≤ g) ∧ Below w.heap.size w w' := by
  subst hK
  refine (feedF_any a cap eb eo es 0 w hE hlen).mono ?_
  rintro e w' ⟨b1, b2, a2, cap2, g, h1, h2, h3, h4, h5, h6⟩
  exact ⟨b1, b2, a2, cap2, g, h1, Lib.hid h2, Lib.hid ⟨h3, h4, h5⟩, h6⟩
theorem num0_any (w : World) : Calls Try.prog 28 #[.int .i64 0] w fun e w' => e = .returned (.int .i64 0) ∧ w = w' := num_any _ _
theorem labels_w (n sb rb cs b1 b2 eb eo M : Nat) (ea : Option Addr) (cap : Nat) (es : List Ed) (ss : List St) (l LL : List Nat) (w : World)
    (hn1 : 1 ≤ n) (hn5 : n ≤ 5000) (hs : IsSts w (some ⟨sb, 0, none⟩) sb 0 ss) (hss : ss.length = n) (hM : M = 2 * n) (hl : l.length = M) (hva : ∀ e, e ∈ es → Valid n e)
    (hw : Wds w rb l) (hF : Fed w b1 b2 eb eo ea cap es 0) (hA : b1 ≠ rb ∧ b2 ≠ rb ∧ eb ≠ rb ∧ sb ≠ rb) (hL : ∃ ρ, Roots (Sgl es) ρ n ∧ ∀ v, v < n → LL.getD v 0 = ρ v) :
    Calls Try.prog 26 #[.int .u32 n, .func (.func 41) #[] #[.pointer (some ⟨b1, 0, none⟩), .pointer (some ⟨b2, 0, none⟩)], .slice (some ⟨sb, 0, none⟩) n cs, .slice (some ⟨rb, 0, none⟩) M M] w fun e w' =>
      ∃ (x : Bool) (y z : Nat), e = .returned (.tuple #[.agg #[.bool x, .int .u32 y, .int .i64 z], .int .i64 0]) ∧
        Hid (∃ f, verdC 0 f = #[.bool x, .int .u32 y, .int .i64 z] ∧ Least f (Bword ss (fun v => LL.getD v 0) n)) ∧ Hid (∃ l', Wds w' rb l' ∧ l'.length = M) ∧ Chg (fun j => j = rb) w w' := by
  subst hl
  refine (labels_any n sb 0 rb cs b1 b2 eb eo _ ea cap es ss l w hn1 hn5 hs hss (by omega) hva hw hF hA).mono ?_
  rintro e w' ⟨x, y, z, l', ρ, h1, h2, ⟨f, h3, h4⟩, h5, h6, h7⟩
  obtain ⟨σ, k1, k2⟩ := hL
  exact ⟨x, y, z, h1, Lib.hid ⟨f, h3, h4.congr (Bword.congr (fun v hv => (h2.uniq k1 v hv).trans (k2 v hv).symm))⟩, Lib.hid ⟨l', h5, h6⟩, h7⟩
theorem cores_w (n sb rb cs b1 b2 eb eo M : Nat) (ea : Option Addr) (cap : Nat) (es : List Ed) (ss : List St) (l T : List Nat) (w : World)
    (hn1 : 1 ≤ n) (hn5 : n ≤ 5000) (hs : IsSts w (some ⟨sb, 0, none⟩) sb 0 ss) (hss : ss.length = n) (hM : M = 2 * n) (hl : l.length = M) (hva : ∀ e, e ∈ es → Valid n e) (hlen : es.length ≤ 1048576)
    (hw : Wds w rb l) (hF : Fed w b1 b2 eb eo ea cap es 0) (hA : b1 ≠ rb ∧ b2 ≠ rb ∧ eb ≠ rb ∧ sb ≠ rb) (hT : ∃ P, Peeled es n P ∧ ∀ v, v < n → T.getD v 0 = P.getD v 0 - 1) :
    Calls Try.prog 27 #[.int .u32 n, .func (.func 41) #[] #[.pointer (some ⟨b1, 0, none⟩), .pointer (some ⟨b2, 0, none⟩)], .slice (some ⟨sb, 0, none⟩) n cs, .slice (some ⟨rb, 0, none⟩) M M] w fun e w' =>
      ∃ (x : Bool) (y z : Nat), e = .returned (.tuple #[.agg #[.bool x, .int .u32 y, .int .i64 z], .int .i64 0]) ∧
        Hid (∃ f, verdC 0 f = #[.bool x, .int .u32 y, .int .i64 z] ∧ Least f (Bword ss (fun v => T.getD v 0) n)) ∧ Hid (∃ l', Wds w' rb l' ∧ l'.length = M) ∧ Chg (fun j => j = rb) w w' := by
  subst hl
  refine (cores_any n sb 0 rb cs b1 b2 eb eo _ ea cap es ss l w hn1 hn5 hs hss (by omega) (by omega) hva hlen hw hF hA).mono ?_
  rintro e w' ⟨x, y, z, l', P, h1, h2, ⟨f, h3, h4⟩, h5, h6, h7⟩
  obtain ⟨Q, k1, k2⟩ := hT
  have hpq := h2.unique k1
  subst hpq
  exact ⟨x, y, z, h1, Lib.hid ⟨f, h3, h4.congr (Bword.congr (fun v hv => (k2 v hv).symm))⟩, Lib.hid ⟨l', h5, h6⟩, h7⟩
theorem twoc_w (n sb rb cs b1 b2 eb eo M : Nat) (ea : Option Addr) (cap : Nat) (es : List Ed) (ss : List St) (l C : List Nat) (w : World)
    (hn1 : 1 ≤ n) (hn5 : n ≤ 2000) (hs : IsSts w (some ⟨sb, 0, none⟩) sb 0 ss) (hss : ss.length = n) (hM : M = 2 * n) (hl : l.length = M) (hva : ∀ e, e ∈ es → Valid n e)
    (hw : Wds w rb l) (hF : Fed w b1 b2 eb eo ea cap es 0) (hA : b1 ≠ rb ∧ b2 ≠ rb ∧ eb ≠ rb ∧ sb ≠ rb) (hC : ∀ ρ2, Roots (Dbl es n) ρ2 (2 * n) → ∀ v, v < n → C.getD v 0 = wantC (ρ2 v) (ρ2 (v + n))) :
    Calls Try.prog 19 #[.int .u32 n, .func (.func 41) #[] #[.pointer (some ⟨b1, 0, none⟩), .pointer (some ⟨b2, 0, none⟩)], .slice (some ⟨sb, 0, none⟩) n cs, .slice (some ⟨rb, 0, none⟩) M M] w fun e w' =>
      ∃ (x : Bool) (y z : Nat), e = .returned (.tuple #[.agg #[.bool x, .int .u32 y, .int .i64 z], .int .i64 0]) ∧
        Hid (∃ f, verdC 0 f = #[.bool x, .int .u32 y, .int .i64 z] ∧ Least f (Bword ss (fun v => C.getD v 0) n)) ∧ Hid (∃ l', Wds w' rb l' ∧ l'.length = M) ∧ Chg (fun j => j = rb) w w' := by
  subst hl
  have h := twoc_any n sb 0 rb cs b1 b2 eb eo (some ⟨sb, 0, none⟩) ea cap es 0 ss l w (by omega) hs (by omega) hw hF hA
  have h0 : sccErr n ss.length l.length es 0 = 0 := by
    unfold sccErr
    have h1 : sitErr (sizeErr n) n ss.length (l.length : Int) (2 * (n : Int)) = 0 := by rw [hss, sizeErr0 hn1 (by omega)]; exact sitErr0 (by omega)
    rw [if_neg (by simp [h1])]
    exact overErr0 hva
  rw [hss] at h h0
  refine h.mono ?_
  rintro e w' ⟨x, y, z, l', h1, _, h3, h4, h5, _, h7⟩
  rw [hss, h0] at h1
  obtain ⟨ρ, hρ, hv⟩ := h3 (by rw [hss]; exact h0)
  refine ⟨x, y, z, h1, Lib.hid ⟨_, hv, ((cV_least Least.none n).congr (fun v r => ?_)).congr (Bword.congr (fun v hv => (hC ρ hρ v hv).symm))⟩, Lib.hid ⟨l', h4, h5⟩, h7⟩
  exact ⟨fun h => h.elim (fun h => h.elim) id, Or.inr⟩
theorem refWords_y (n sb sc tb tc : Nat) (ss : List St) (T : List Nat) (w : World) (hs : IsSts w (some ⟨sb, 0, none⟩) sb 0 ss) (hss : ss.length = n) (hn : n ≤ 5000) (hn1 : 1 ≤ n) (hT : Wds w tb T) (hTl : T.length = n) :
    Calls Try.prog 20 #[.int .u32 n, .slice (some ⟨sb, 0, none⟩) n sc, .int .i64 0, .slice (some ⟨tb, 0, none⟩) n tc] w fun e w' => ∃ (x : Bool) (y z : Nat), e = .returned (.agg #[.bool x, .int .u32 y, .int .i64 z]) ∧ Hid (∃ f, verdC 0 f = #[.bool x, .int .u32 y, .int .i64 z] ∧ Least f (Bword ss (fun v => T.getD v 0) n)) ∧ Below w.heap.size w w' := by
  refine (refWords_any n sb 0 sc tb tc _ ss T w hs hss hn hn1 hT (by omega)).mono ?_
  rintro e w' ⟨x, y, z, h1, h2, h3⟩
  exact ⟨x, y, z, h1, Lib.hid h2, h3⟩

end Go.Proofs.Ytohmeobfiomfdaa
