/-
  A list of states of the statement's own, with marks behind it.
-/
import Derived.Test.YtohmeobfiomfdaaHelp
import Derived.Deep.AppendLies
namespace Go.Proofs.Ytohmeobfiomfdaa
open Go.RowKit Go.Shelf
set_option maxRecDepth 100000

theorem stCells_len (l : List St) : (stCells l).length = l.length * 8 := by
  induction l with
  | nil => rfl
  | cons e l ih => simp [stCells, St.cells] at ih ⊢; omega
theorem stCells_get (l : List St) : ∀ (j : Nat) (hj : j < l.length), (stCells l)[j * 8]? = some (.int .u64 l[j].a0) ∧ (stCells l)[j * 8 + 1]? = some (.int .u64 l[j].a1) ∧ (stCells l)[j * 8 + 2]? = some (.int .u64 l[j].a2) ∧ (stCells l)[j * 8 + 3]? = some (.int .u64 l[j].a3) ∧ (stCells l)[j * 8 + 4]? = some (.int .u64 l[j].a4) ∧ (stCells l)[j * 8 + 5]? = some (.int .u64 l[j].a5) ∧ (stCells l)[j * 8 + 6]? = some (.int .u64 l[j].a6) ∧ (stCells l)[j * 8 + 7]? = some (.int .u64 l[j].a7) := by
  induction l with
  | nil => intro j hj; simp at hj
  | cons e l ih =>
    intro j hj
    cases j with
    | zero => simp [stCells, St.cells]
    | succ j =>
      have := ih j (by simpa using hj)
      have e8 : (j + 1) * 8 = j * 8 + 8 := by omega
      simp only [stCells, List.flatMap_cons, St.cells] at this ⊢
      rw [e8]
      simpa using this
theorem stCells_app (l m : List St) : stCells (l ++ m) = stCells l ++ stCells m := by simp [stCells]
theorem IsSts.of_own {w : World} {base g n cap : Nat} {ss : List St} (h : w.ownsRow base 56 8 (.slice (some ⟨g, 0, none⟩) n cap) n (stCells ss)) (hn : n = ss.length) (hg : g < w.heap.size) :
    IsSts w (some ⟨g, 0, none⟩) g 0 ss := by
  subst hn
  have hx := stCells_get ss
  refine ⟨fun _ => rfl, fun _ => hg, fun j hj => ?_, fun j hj => ?_, fun j hj => ?_, fun j hj => ?_, fun j hj => ?_, fun j hj => ?_, fun j hj => ?_, fun j hj => ?_⟩
  · rw [Nat.zero_add, h.cellAt _ (by omega)]; exact (hx j hj).1
  · rw [Nat.zero_add, h.cellAt _ (by omega)]; exact (hx j hj).2.1
  · rw [Nat.zero_add, h.cellAt _ (by omega)]; exact (hx j hj).2.2.1
  · rw [Nat.zero_add, h.cellAt _ (by omega)]; exact (hx j hj).2.2.2.1
  · rw [Nat.zero_add, h.cellAt _ (by omega)]; exact (hx j hj).2.2.2.2.1
  · rw [Nat.zero_add, h.cellAt _ (by omega)]; exact (hx j hj).2.2.2.2.2.1
  · rw [Nat.zero_add, h.cellAt _ (by omega)]; exact (hx j hj).2.2.2.2.2.2.1
  · rw [Nat.zero_add, h.cellAt _ (by omega)]; exact (hx j hj).2.2.2.2.2.2.2
theorem Try.info56 : (Try.prog.info? 56).map (fun i => (i.zero, i.size, i.bytes)) = some (some (.agg #[.int .u64 0, .int .u64 0, .int .u64 0, .int .u64 0, .int .u64 0, .int .u64 0, .int .u64 0, .int .u64 0]), 8, 64) := by kernel_rfl

/-- The first states, and zeros behind them. -/
def padS (ss : List St) (k : Nat) : List St := (List.range k).map fun i => ss.getD i St.zero
theorem padS_succ (ss : List St) (k : Nat) : padS ss (k + 1) = padS ss k ++ [ss.getD k St.zero] := by simp [padS, List.range_succ]
theorem padS_len (ss : List St) (k : Nat) : (padS ss k).length = k := by simp [padS]
theorem padS_all (ss : List St) : padS ss ss.length = ss := by
  apply List.ext_getElem
  · simp [padS]
  · intro i h1 h2
    simp [padS, List.getElem?_eq_getElem h2]
def mark (x : Nat) : St := ⟨x, x, x, 0, 0, 0, 0, 0⟩

theorem own_cap {w : World} {base e size g n cap m : Nat} {xs : List Value} (h : w.ownsRow base e size (.slice (some ⟨g, 0, none⟩) m cap) n xs) : n ≤ cap := by
  rcases h.2 with ⟨h1, _⟩ | ⟨g', cap', cur, h1, _, _, h2, _⟩
  · cases h1
  · cases h1; exact h2
theorem St.list (s : St) : ∃ a0 a1 a2 a3 a4 a5 a6 a7, s = ⟨a0, a1, a2, a3, a4, a5, a6, a7⟩ := ⟨_, _, _, _, _, _, _, _, rfl⟩

set_option maxHeartbeats 4000000 in
theorem states_any (a : Option Addr) (sb so sc : Nat) (ss : List St) (r : Nat) (w : World) (hs : IsSts w a sb so ss) (hr : r ≤ 1048576) (hsl : ss.length ≤ 1048576) :
    Calls Try.prog 6 #[.slice a ss.length sc, .int .i64 r] w fun e w' => ∃ g cap, e = .returned (.slice (some ⟨g, 0, none⟩) r cap) ∧ r + 2 ≤ cap ∧ IsSts w' (some ⟨g, 0, none⟩) g 0 (padS ss r ++ [mark 77, mark 78]) ∧ w.heap.size ≤ g ∧ Below w.heap.size w w' := by
  obtain ⟨i0, hi, hz0, hz1, hz2⟩ := info_parts Try.info56
  go_enter Try.func6, Try.ntmps6
  go_upto_region 9 with fail
  go_loopg [5, 6] r (fun gk v i wr => ∃ k : Nat, k + gk = r ∧ i = .int .i64 k ∧ wr.ownsRow w.heap.size 56 8 v k (stCells (padS ss k)) ∧ Below w.heap.size w wr)
  case atStart => exact ⟨0, by omega, rfl, World.ownsRow_nil _ _ _ _, Below.refl _ _⟩
  case round =>
    obtain ⟨k, hk, rfl, hown, hb⟩ := hrel
    by_cases hlt : k < r
    · have h1 : (k : Int) < r := by omega
      have h2 : (0 : Int) ≤ k := Int.natCast_nonneg _
      have hgk : 0 < gk := by omega
      have hbz := hb.size
      have hps := padS_succ ss k
      by_cases hks : k < ss.length
      · have h3 : (k : Int) < ss.length := by omega
        have hsr := hs.below hb hs.lt
        obtain rfl := hsr.ad (by omega)
        have hsl' := hsr.lt (by omega)
        have s0 := hsr.c0 k hks
        have s1 := hsr.c1 k hks
        have s2 := hsr.c2 k hks
        have s3 := hsr.c3 k hks
        have s4 := hsr.c4 k hks
        have s5 := hsr.c5 k hks
        have s6 := hsr.c6 k hks
        have s7 := hsr.c7 k hks
        rw [List.getD_eq_getElem?_getD, List.getElem?_eq_getElem hks, Option.getD_some] at hps
        generalize ss[k] = s at *
        have HPS := Lib.hid hps
        clear hps hsr
        go_wp2_with (at_builtin; refine wpList_append_lies _ rfl _ _ 23 rfl w.heap.size 56 i0 _ 8 64 Try.underlying23 hi hz0 hz1 hz2 rfl (by omega) _ k _ rfl ((hown.alloc _).alloc _) ⟨wr.heap.size + 1, 0, none⟩ 1 1 [.int .u64 s.a0, .int .u64 s.a1, .int .u64 s.a2, .int .u64 s.a3, .int .u64 s.a4, .int .u64 s.a5, .int .u64 s.a6, .int .u64 s.a7] rfl rfl (World.news_of_block (fr := (0, 0)) (by have := heap_alloc_new (wr.alloc (.cells #[.int .u64 s.a0, .int .u64 s.a1, .int .u64 s.a2, .int .u64 s.a3, .int .u64 s.a4, .int .u64 s.a5, .int .u64 s.a6, .int .u64 s.a7] 56)) (.cells #[.int .u64 s.a0, .int .u64 s.a1, .int .u64 s.a2, .int .u64 s.a3, .int .u64 s.a4, .int .u64 s.a5, .int .u64 s.a6, .int .u64 s.a7] 56); rwa [World.size_alloc] at this)) (by simp [Value.oneCell']) (by omega) (by unfold maxLen; omega) (by omega) (by simp; omega) (wr.heap.size + 1 + 1) (by simp) ?_; intro g cap w1 hown1 hgrow hat hlt1)
        go_roundg (gk - 1)
        case measure => omega
        case rel =>
          refine ⟨k + 1, by omega, by go_num, ?_, ?_⟩
          · rw [HPS.out, stCells_app]; exact hown1
          · exact Below.grown (by repeat (first | with_reducible exact Below.refl _ _ | with_reducible assumption | with_reducible refine below_drewN ?_ _ | with_reducible refine Below.drew ?_ | ((with_reducible refine Bset ?_ ?_); focus (first | omega | (simp; done) | (simp; omega))) | ((with_reducible refine Ball ?_ ?_); focus (first | omega | (simp; done) | (simp; omega))))) hgrow (by simp; omega) (fun j hj => (hown.lt j hj).1)
      · have h3 : ¬ (k : Int) < ss.length := by omega
        rw [List.getD_eq_getElem?_getD, List.getElem?_eq_none (by omega), Option.getD_none] at hps
        have HPS := Lib.hid hps
        clear hps
        go_wp2_with (at_builtin; refine wpList_append_lies _ rfl _ _ 23 rfl w.heap.size 56 i0 _ 8 64 Try.underlying23 hi hz0 hz1 hz2 rfl (by omega) _ k _ rfl ((hown.alloc _).alloc _) ⟨wr.heap.size + 1, 0, none⟩ 1 1 [.int .u64 0, .int .u64 0, .int .u64 0, .int .u64 0, .int .u64 0, .int .u64 0, .int .u64 0, .int .u64 0] rfl rfl (World.news_of_block (fr := (0, 0)) (by have := heap_alloc_new (wr.alloc (.cells #[.int .u64 0, .int .u64 0, .int .u64 0, .int .u64 0, .int .u64 0, .int .u64 0, .int .u64 0, .int .u64 0] 56)) (.cells #[.int .u64 0, .int .u64 0, .int .u64 0, .int .u64 0, .int .u64 0, .int .u64 0, .int .u64 0, .int .u64 0] 56); rwa [World.size_alloc] at this)) (by simp [Value.oneCell']) (by omega) (by unfold maxLen; omega) (by omega) (by simp; omega) (wr.heap.size + 1 + 1) (by simp) ?_; intro g cap w1 hown1 hgrow hat hlt1)
        go_roundg (gk - 1)
        case measure => omega
        case rel =>
          refine ⟨k + 1, by omega, by go_num, ?_, ?_⟩
          · rw [HPS.out, stCells_app]; exact hown1
          · exact Below.grown (by repeat (first | with_reducible exact Below.refl _ _ | with_reducible assumption | with_reducible refine below_drewN ?_ _ | with_reducible refine Below.drew ?_ | ((with_reducible refine Bset ?_ ?_); focus (first | omega | (simp; done) | (simp; omega))) | ((with_reducible refine Ball ?_ ?_); focus (first | omega | (simp; done) | (simp; omega))))) hgrow (by simp; omega) (fun j hj => (hown.lt j hj).1)
    · obtain rfl : k = r := by omega
      have hbz := hb.size
      have i1 : (0 : Int) ≤ k := Int.natCast_nonneg _
      go_wp2_with (at_builtin; refine wpList_append_lies _ rfl _ _ 23 rfl w.heap.size 56 i0 _ 8 64 Try.underlying23 hi hz0 hz1 hz2 rfl (by omega) _ k _ rfl (hown.alloc _) ⟨wr.heap.size, 0, none⟩ 2 2 [.int .u64 77, .int .u64 77, .int .u64 77, .int .u64 0, .int .u64 0, .int .u64 0, .int .u64 0, .int .u64 0, .int .u64 78, .int .u64 78, .int .u64 78, .int .u64 0, .int .u64 0, .int .u64 0, .int .u64 0, .int .u64 0] rfl rfl (World.news_of_block (fr := (0, 0)) (heap_alloc_new wr _)) (by simp [Value.oneCell']) (by omega) (by unfold maxLen; omega) (by omega) (by simp; omega) (wr.heap.size + 1) (by simp) ?_; intro g cap w1 hown1 hgrow hat hlt1; have hcap : k + 2 ≤ cap := own_cap hown1; have hcap2 : (k : Int) ≤ cap := (by omega))
      go_ret
      rw [show stCells (padS ss k) ++ [.int .u64 77, .int .u64 77, .int .u64 77, .int .u64 0, .int .u64 0, .int .u64 0, .int .u64 0, .int .u64 0, .int .u64 78, .int .u64 78, .int .u64 78, .int .u64 0, .int .u64 0, .int .u64 0, .int .u64 0, .int .u64 0] = stCells (padS ss k ++ [mark 77, mark 78]) by simp [stCells, St.cells, mark]] at hown1
      exact ⟨g, cap, rfl, hcap, IsSts.of_own hown1 (by simp [padS_len]) hlt1, (hown1.lt g rfl).1, Below.grown (by repeat (first | with_reducible exact Below.refl _ _ | with_reducible assumption | with_reducible refine below_drewN ?_ _ | with_reducible refine Below.drew ?_ | ((with_reducible refine Bset ?_ ?_); focus (first | omega | (simp; done) | (simp; omega))) | ((with_reducible refine Ball ?_ ?_); focus (first | omega | (simp; done) | (simp; omega))))) hgrow (by simp; omega) (fun j hj => (hown.lt j hj).1)⟩

end Go.Proofs.Ytohmeobfiomfdaa
