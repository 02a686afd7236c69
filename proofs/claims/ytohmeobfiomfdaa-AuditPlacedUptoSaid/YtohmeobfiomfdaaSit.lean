/-
  Feed, and what stands ahead of an audit.
-/
import Derived.Test.YtohmeobfiomfdaaBase
import Derived.Maps.AppendAt
import Derived.Lib.SliceRun
namespace Go.Proofs.Ytohmeobfiomfdaa
open Go.RowKit
set_option maxRecDepth 100000

theorem num_any (x : Int) (w : World) : Calls Try.prog 28 #[.int .i64 x] w fun e w' => e = .returned (.int .i64 x) ∧ w = w' := by
  go_enter Try.func28, Try.ntmps28
  go_wp2
  go_ret
  exact ⟨rfl, rfl⟩

theorem sized_any (n : Nat) (w : World) : Calls Try.prog 12 #[.int .u32 n] w fun e w' => e = .returned (.int .i64 (if n < 1 ∨ 2147483647 < n then 2 else 0 : Nat)) ∧ w = w' := by
  by_cases h : n < 1 ∨ 2147483647 < n
  · rw [if_pos h]
    by_cases h1 : n < 1
    · have h1' : (n : Int) < 1 := by omega
      clear h
      go_enter Try.func12, Try.ntmps12
      go_wp2
      go_ret
      exact ⟨rfl, rfl⟩
    · have h1' : ¬ (n : Int) < 1 := by omega
      have h2' : (2147483647 : Int) < n := by omega
      clear h
      go_enter Try.func12, Try.ntmps12
      go_wp2
      go_ret
      exact ⟨rfl, rfl⟩
  · rw [if_neg h]
    have h1' : ¬ (n : Int) < 1 := by omega
    have h2' : ¬ (2147483647 : Int) < n := by omega
    clear h
    go_enter Try.func12, Try.ntmps12
    go_wp2
    go_ret
    exact ⟨rfl, rfl⟩

theorem still_any (x y : Int) (w : World) : Calls Try.prog 97 #[.int .u64 x, .int .u64 y] w fun e w' => e = .returned (.func (.func 103) #[] #[.pointer (some ⟨w.heap.size, 0, none⟩), .pointer (some ⟨w.heap.size + 1, 0, none⟩)]) ∧ Below w.heap.size w w' := by
  go_enter Try.func97, Try.ntmps97
  go_wp2
  go_ret
  exact ⟨rfl, (by repeat (first | with_reducible exact Below.refl _ _ | with_reducible assumption | with_reducible refine below_drewN ?_ _ | with_reducible refine Below.drew ?_ | ((with_reducible refine Bset ?_ ?_); focus (first | omega | (simp; done) | (simp; omega))) | ((with_reducible refine Ball ?_ ?_); focus (first | omega | (simp; done) | (simp; omega)))))⟩

theorem edCells_get (l : List Ed) : ∀ (j : Nat) (hj : j < l.length), (edCells l)[j * 3]? = some (.int .u32 l[j].src) ∧ (edCells l)[j * 3 + 1]? = some (.int .u32 l[j].dst) ∧ (edCells l)[j * 3 + 2]? = some (.int .u32 l[j].w) := by
  induction l with
  | nil => intro j hj; simp at hj
  | cons e l ih =>
    intro j hj
    cases j with
    | zero => simp [edCells, Ed.cells]
    | succ j =>
      have := ih j (by simpa using hj)
      have e3 : (j + 1) * 3 = j * 3 + 3 := by omega
      simp only [edCells, List.flatMap_cons, Ed.cells] at this ⊢
      rw [e3]
      simpa using this
theorem IsEds.of_own {w : World} {base g n cap : Nat} {es : List Ed} (h : w.ownsRow base 71 3 (.slice (some ⟨g, 0, none⟩) n cap) n (edCells es)) (hn : n = es.length) (hg : g < w.heap.size) :
    IsEds w (some ⟨g, 0, none⟩) g 0 es := by
  subst hn
  have hx := edCells_get es
  refine ⟨fun _ => rfl, fun _ => hg, fun j hj => ?_, fun j hj => ?_, fun j hj => ?_⟩
  · rw [Nat.zero_add, h.cellAt _ (by omega)]; exact (hx j hj).1
  · rw [Nat.zero_add, h.cellAt _ (by omega)]; exact (hx j hj).2.1
  · rw [Nat.zero_add, h.cellAt _ (by omega)]; exact (hx j hj).2.2
theorem IsEds.news {w : World} {ad : Addr} {eb eo : Nat} {es : List Ed} (h : IsEds w (some ad) eb eo es) (j : Nat) (u : Value) (hu : (edCells es)[j]? = some u) : w.cell? (ad.add j) = some u := by
  have hj : j < es.length * 3 := by
    have := (List.getElem?_eq_some_iff.1 hu).1
    rwa [edCells_len] at this
  have had := Option.some.inj (h.ad (by omega))
  subst had
  rw [Go.WideShapes.add_plain]
  have hx := edCells_get es (j / 3) (by omega)
  have h0 := h.c0 (j / 3) (by omega)
  have h1 := h.c1 (j / 3) (by omega)
  have h2 := h.c2 (j / 3) (by omega)
  have hm : j = j / 3 * 3 ∨ j = j / 3 * 3 + 1 ∨ j = j / 3 * 3 + 2 := by omega
  rcases hm with hm | hm | hm
  · rw [hm] at hu ⊢
    rw [hx.1] at hu; rw [← hu]; exact h0
  · rw [hm] at hu ⊢
    rw [hx.2.1] at hu; rw [← hu, ← Nat.add_assoc]; exact h1
  · rw [hm] at hu ⊢
    rw [hx.2.2] at hu; rw [← hu, ← Nat.add_assoc]; exact h2
theorem edCells_one (es : List Ed) (u : Value) (hu : u ∈ edCells es) : u.oneCell' = true := by
  unfold edCells at hu
  obtain ⟨e, _, hu⟩ := List.mem_flatMap.1 hu
  unfold Ed.cells at hu
  simp only [List.mem_cons, List.not_mem_nil, or_false] at hu
  rcases hu with rfl | rfl | rfl <;> rfl
theorem IsEds.none (w : World) (a : Option Addr) (eb eo : Nat) : IsEds w a eb eo [] :=
  ⟨fun h => absurd h (Nat.lt_irrefl 0), fun h => absurd h (Nat.lt_irrefl 0), fun j hj => absurd hj (Nat.not_lt_zero j), fun j hj => absurd hj (Nat.not_lt_zero j), fun j hj => absurd hj (Nat.not_lt_zero j)⟩
theorem Try.info71 : (Try.prog.info? 71).map (fun i => (i.zero, i.size, i.bytes)) = some (some (.agg #[.int .u32 0, .int .u32 0, .int .u32 0]), 3, 12) := by kernel_rfl

set_option maxHeartbeats 1000000 in
theorem clone_any (a : Option Addr) (cap eb eo : Nat) (es : List Ed) (w : World) (hE : IsEds w a eb eo es) (hreach : es.length * 12 ≤ 140737488351232) :
    Calls Try.prog 40 #[.slice a es.length cap] w fun e w' => ∃ (a2 : Option Addr) (cap2 g : Nat), e = .returned (.slice a2 es.length cap2) ∧ IsEds w' a2 g 0 es ∧ (0 < es.length → w.heap.size ≤ g) ∧ Below w.heap.size w w' := by
  have qT : ∀ (w : World) (a : Option Addr) (n c n' c' : Nat), (binOp .eql 24 (.slice a n c) (.slice none n' c')).run Try.prog w = .ok (.bool a.isNone) w := fun w a n c n' c' => Lib.run_eql_slice_nil w _ _ a n c n' c' Try.underlying24
  cases a with
  | none =>
    obtain rfl : es = [] := by
      rcases Nat.eq_zero_or_pos es.length with h | h
      · exact List.length_eq_zero_iff.1 h
      · have := hE.ad h; cases this
    go_enter Try.func40, Try.ntmps40
    go_wp2
    go_ret
    exact ⟨none, 0, 0, rfl, IsEds.none _ _ _ _, fun h => absurd h (Nat.lt_irrefl 0), (by repeat (first | with_reducible exact Below.refl _ _ | with_reducible assumption | with_reducible refine below_drewN ?_ _ | with_reducible refine Below.drew ?_ | ((with_reducible refine Bset ?_ ?_); focus (first | omega | (simp; done) | (simp; omega))) | ((with_reducible refine Ball ?_ ?_); focus (first | omega | (simp; done) | (simp; omega)))))⟩
  | some ad =>
    obtain ⟨i0, hi, hz0, hz1, hz2⟩ := info_parts Try.info71
    have hown0 := World.ownsRow_lit (base := w.heap.size) (e := 71) (size := 3) w #[] 0 (Nat.le_refl _) (Nat.zero_le _) rfl
    have hnews := fun j u hu => (hE.below (B := w.heap.size) (Ball (o := .cells #[] 71) (Nat.le_refl _) (Below.refl _ w)) hE.lt).news j u hu
    have hml : es.length ≤ maxLen := by unfold maxLen; omega
    go_enter Try.func40, Try.ntmps40
    go_wp2_with (at_builtin; refine wpList_append_own_at _ rfl _ _ 24 rfl w.heap.size 71 i0 _ 3 12 Try.underlying24 hi hz0 hz1 hz2 rfl (by omega) _ 0 _ rfl hown0 ad es.length cap (edCells es) rfl (edCells_len es) hnews (edCells_one es) (by omega) (by omega) (by simp) ?_; intro v' w1 hown hgrow hnil hat)
    go_ret
    rw [Nat.zero_add, List.nil_append] at hown
    rcases hown.2 with ⟨hv, _⟩ | ⟨g, cap', cur, hv, hg, hh, _⟩
    · exact absurd (hnil.1 hv).1 (by intro hh; cases hh)
    · rw [hv] at hown ⊢
      exact ⟨_, ⟨_, rfl⟩, g, IsEds.of_own hown rfl (hown.lt g rfl).2, fun _ => hg, (Ball (o := .cells #[] 71) (Nat.le_refl _) (Below.refl _ w)).grown hgrow (by simp) (fun k hk => by cases hk; exact Nat.le_refl _)⟩

set_option maxHeartbeats 1000000 in
theorem feed_any (a : Option Addr) (cap eb eo : Nat) (es : List Ed) (beh : Nat) (w : World) (hE : IsEds w a eb eo es) (hreach : es.length * 12 ≤ 140737488351232) :
    Calls Try.prog 9 #[.slice a es.length cap, .int .i64 beh] w fun e w' => ∃ (b1 b2 : Nat) (a2 : Option Addr) (cap2 g : Nat), e = .returned (.func (.func 41) #[] #[.pointer (some ⟨b1, 0, none⟩), .pointer (some ⟨b2, 0, none⟩)]) ∧
      w'.cell? ⟨b1, 0, none⟩ = some (.slice a2 es.length cap2) ∧ w'.cell? ⟨b2, 0, none⟩ = some (.int .i64 beh) ∧ IsEds w' a2 g 0 es ∧ w.heap.size ≤ b1 ∧ w.heap.size ≤ b2 ∧ (0 < es.length → w.heap.size ≤ g) ∧ Below w.heap.size w w' := by
  have hE1 := (hE.below (B := w.heap.size) (Ball (o := .cells #[.slice a es.length cap] 24) (Nat.le_refl _) (Below.refl _ w)) hE.lt).below (B := w.heap.size) (Ball (o := .cells #[.int .i64 beh] 36) (by simp) (Below.refl _ _)) hE.lt
  go_enter Try.func9, Try.ntmps9
  go_wp2_with (go_at_call 40; refine (clone_any a cap eb eo es _ hE1 hreach).mono ?_; rintro e w1 ⟨a2, cap2, g, rfl, hE2, hg, hb1⟩; obtain ⟨hc1, hf1⟩ := bcell hb1; have hz1 := hb1.size; (try simp only [World.size_alloc] at hz1))
  have hgl := hE2.lt
  have hk1 := (((isBlk.new w 24 [.slice a es.length cap]).old (.cells #[.int .i64 beh] 36)).below hb1 (by simp; omega)).set 0 (.slice a2 es.length cap2)
  have hk2 := ((isBlk.new (w.alloc (.cells #[.slice a es.length cap] 24)) 36 [.int .i64 beh]).below hb1 (by simp)).other (p := ⟨w.heap.size, 0, none⟩) (v := .slice a2 es.length cap2) (by simp)
  have hbb : Below w.heap.size w w1 := Below.trans (by repeat (first | with_reducible exact Below.refl _ _ | with_reducible assumption | with_reducible refine below_drewN ?_ _ | with_reducible refine Below.drew ?_ | ((with_reducible refine Bset ?_ ?_); focus (first | omega | (simp; done) | (simp; omega))) | ((with_reducible refine Ball ?_ ?_); focus (first | omega | (simp; done) | (simp; omega))))) (hb1.mono (by simp; omega))
  simp only [World.size_alloc] at hk2
  go_ret
  refine ⟨_, _, a2, cap2, g, rfl, hk1.cell 0, hk2.cell 0, hE2.keep (fun h => ?_) (by simp), Nat.le_refl _, by omega, fun h => by have := hg h; simp at this; omega, Bset (Nat.le_refl _) hbb⟩
  have := hg h
  simp at this
  exact Below.heap_setCell _ _ _ _ (by show g ≠ w.heap.size; omega)

theorem some_set {w : World} {p a : Addr} {v : Value} (h : (w.cell? a).isSome = true) : ((w.setCell p v).cell? a).isSome = true := by
  by_cases hp : a = p
  · subst hp
    rw [World.cell?_setCell_same' _ _ _ h]; rfl
  · rw [World.cell?_setCell_other w p a v (fun e => hp e.symm)]; exact h
theorem st_some {P : Program} {w : World} {a : Addr} {v : Value} {m : Mode} (hv : v.oneCell' = true) (h1 : (w.cell? a).isSome = true) (h2 : w.frozen? a = false) : (store a v m).run P w = .ok () (w.setCell a v) := by
  rw [run_store P w a v m hv]
  obtain ⟨x, hx⟩ := Option.isSome_iff_exists.1 h1
  rw [hx]
  simp [h2]
theorem st_int {P : Program} {w : World} {a : Addr} {m : Mode} (k : IntKind) (n : Int) (h1 : (w.cell? a).isSome = true) (h2 : w.frozen? a = false) : (store a (.int k n) m).run P w = .ok () (w.setCell a (.int k n)) := st_some rfl h1 h2
theorem st_bool {P : Program} {w : World} {a : Addr} {m : Mode} (b : Bool) (h1 : (w.cell? a).isSome = true) (h2 : w.frozen? a = false) : (store a (.bool b) m).run P w = .ok () (w.setCell a (.bool b)) := st_some rfl h1 h2
theorem st_slice {P : Program} {w : World} {a : Addr} {m : Mode} (p : Option Addr) (l c : Nat) (h1 : (w.cell? a).isSome = true) (h2 : w.frozen? a = false) : (store a (.slice p l c) m).run P w = .ok () (w.setCell a (.slice p l c)) := st_some rfl h1 h2
theorem st_func {P : Program} {w : World} {a : Addr} {m : Mode} (f : Fn) (x y : Array Value) (h1 : (w.cell? a).isSome = true) (h2 : w.frozen? a = false) : (store a (.func f x y) m).run P w = .ok () (w.setCell a (.func f x y)) := st_some rfl h1 h2
theorem keepS_call {W X Y w : World} {b1 : Nat} (h1 : W.heap.size ≤ X.heap.size) (h2 : Hid (Below w.heap.size w X)) (h3 : ∀ i, i < 8 → (X.cell? ⟨b1, i, none⟩).isSome = true) (h4 : ∀ i, i < 8 → X.frozen? ⟨b1, i, none⟩ = false) (hz : b1 < W.heap.size) (hzz : w.heap.size ≤ W.heap.size) (hb : Below X.heap.size X Y) :
    W.heap.size ≤ Y.heap.size ∧ Hid (Below w.heap.size w Y) ∧ (∀ i, i < 8 → (Y.cell? ⟨b1, i, none⟩).isSome = true) ∧ ∀ i, i < 8 → Y.frozen? ⟨b1, i, none⟩ = false :=
  ⟨Nat.le_trans h1 hb.size, Lib.hid (h2.out.trans (hb.mono (by omega))), fun i hi => by rw [hb.cell (p := ⟨b1, i, none⟩) (Nat.lt_of_lt_of_le hz h1)]; exact h3 i hi, fun i hi => by rw [hb.frozen (p := ⟨b1, i, none⟩) (Nat.lt_of_lt_of_le hz h1)]; exact h4 i hi⟩
theorem keepS_alloc {W X w : World} {b1 : Nat} (h1 : W.heap.size ≤ X.heap.size) (h2 : Hid (Below w.heap.size w X)) (h3 : ∀ i, i < 8 → (X.cell? ⟨b1, i, none⟩).isSome = true) (h4 : ∀ i, i < 8 → X.frozen? ⟨b1, i, none⟩ = false) (hz : b1 < W.heap.size) (hzz : w.heap.size ≤ W.heap.size) (o : Obj) :
    W.heap.size ≤ (X.alloc o).heap.size ∧ Hid (Below w.heap.size w (X.alloc o)) ∧ (∀ i, i < 8 → ((X.alloc o).cell? ⟨b1, i, none⟩).isSome = true) ∧ ∀ i, i < 8 → (X.alloc o).frozen? ⟨b1, i, none⟩ = false :=
  keepS_call h1 h2 h3 h4 hz hzz ((Below.refl _ _).alloc (Nat.le_refl _) o)
theorem keepS_set {W X w : World} {b1 : Nat} (hb : w.heap.size ≤ b1) (h1 : W.heap.size ≤ X.heap.size) (h2 : Hid (Below w.heap.size w X)) (h3 : ∀ i, i < 8 → (X.cell? ⟨b1, i, none⟩).isSome = true) (h4 : ∀ i, i < 8 → X.frozen? ⟨b1, i, none⟩ = false) (j : Nat) (v : Value) :
    W.heap.size ≤ (X.setCell ⟨b1, j, none⟩ v).heap.size ∧ Hid (Below w.heap.size w (X.setCell ⟨b1, j, none⟩ v)) ∧ (∀ i, i < 8 → ((X.setCell ⟨b1, j, none⟩ v).cell? ⟨b1, i, none⟩).isSome = true) ∧ ∀ i, i < 8 → (X.setCell ⟨b1, j, none⟩ v).frozen? ⟨b1, i, none⟩ = false :=
  ⟨by simpa using h1, Lib.hid (h2.out.setCell (p := ⟨b1, j, none⟩) hb v), fun i hi => some_set (h3 i hi), fun i hi => by rw [World.frozen?_setCell]; exact h4 i hi⟩
theorem keepS_store8 {W X w : World} {b1 : Nat} (hb : w.heap.size ≤ b1) (h1 : W.heap.size ≤ X.heap.size) (h2 : Hid (Below w.heap.size w X)) (h3 : ∀ i, i < 8 → (X.cell? ⟨b1, i, none⟩).isSome = true) (h4 : ∀ i, i < 8 → X.frozen? ⟨b1, i, none⟩ = false) (v0 v1 v2 v3 v4 v5 v6 v7 : Value) :
    W.heap.size ≤ ((((((((X.setCell ⟨b1, 0, none⟩ v0).setCell ⟨b1, 1, none⟩ v1).setCell ⟨b1, 2, none⟩ v2).setCell ⟨b1, 3, none⟩ v3).setCell ⟨b1, 4, none⟩ v4).setCell ⟨b1, 5, none⟩ v5).setCell ⟨b1, 6, none⟩ v6).setCell ⟨b1, 7, none⟩ v7).heap.size ∧ Hid (Below w.heap.size w ((((((((X.setCell ⟨b1, 0, none⟩ v0).setCell ⟨b1, 1, none⟩ v1).setCell ⟨b1, 2, none⟩ v2).setCell ⟨b1, 3, none⟩ v3).setCell ⟨b1, 4, none⟩ v4).setCell ⟨b1, 5, none⟩ v5).setCell ⟨b1, 6, none⟩ v6).setCell ⟨b1, 7, none⟩ v7)) ∧
      (∀ i, i < 8 → (((((((((X.setCell ⟨b1, 0, none⟩ v0).setCell ⟨b1, 1, none⟩ v1).setCell ⟨b1, 2, none⟩ v2).setCell ⟨b1, 3, none⟩ v3).setCell ⟨b1, 4, none⟩ v4).setCell ⟨b1, 5, none⟩ v5).setCell ⟨b1, 6, none⟩ v6).setCell ⟨b1, 7, none⟩ v7).cell? ⟨b1, i, none⟩).isSome = true) ∧
      ∀ i, i < 8 → ((((((((X.setCell ⟨b1, 0, none⟩ v0).setCell ⟨b1, 1, none⟩ v1).setCell ⟨b1, 2, none⟩ v2).setCell ⟨b1, 3, none⟩ v3).setCell ⟨b1, 4, none⟩ v4).setCell ⟨b1, 5, none⟩ v5).setCell ⟨b1, 6, none⟩ v6).setCell ⟨b1, 7, none⟩ v7).frozen? ⟨b1, i, none⟩ = false := by
  obtain ⟨a1, a2, a3, a4⟩ := keepS_set (W := W) hb h1 h2 h3 h4 0 v0
  obtain ⟨a1, a2, a3, a4⟩ := keepS_set (W := W) hb a1 a2 a3 a4 1 v1
  obtain ⟨a1, a2, a3, a4⟩ := keepS_set (W := W) hb a1 a2 a3 a4 2 v2
  obtain ⟨a1, a2, a3, a4⟩ := keepS_set (W := W) hb a1 a2 a3 a4 3 v3
  obtain ⟨a1, a2, a3, a4⟩ := keepS_set (W := W) hb a1 a2 a3 a4 4 v4
  obtain ⟨a1, a2, a3, a4⟩ := keepS_set (W := W) hb a1 a2 a3 a4 5 v5
  obtain ⟨a1, a2, a3, a4⟩ := keepS_set (W := W) hb a1 a2 a3 a4 6 v6
  exact keepS_set (W := W) hb a1 a2 a3 a4 7 v7

attribute [local go_sem high] st_int st_bool st_slice st_func some_set

theorem keep2_call {X Y w : World} (h1 : w.heap.size ≤ X.heap.size) (h2 : Hid (Below w.heap.size w X)) (hb : Below X.heap.size X Y) : w.heap.size ≤ Y.heap.size ∧ Hid (Below w.heap.size w Y) :=
  ⟨Nat.le_trans h1 hb.size, Lib.hid (h2.out.trans (hb.mono h1))⟩
theorem keep2_alloc {X w : World} (h1 : w.heap.size ≤ X.heap.size) (h2 : Hid (Below w.heap.size w X)) (o : Obj) : w.heap.size ≤ (X.alloc o).heap.size ∧ Hid (Below w.heap.size w (X.alloc o)) :=
  keep2_call h1 h2 ((Below.refl _ _).alloc (Nat.le_refl _) o)

set_option maxHeartbeats 1000000 in
theorem plan_any (w : World) : Calls Try.prog 93 #[.agg #[]] w fun e w' => (∃ x0 x1 x2 x3 x4 x5 x6 x7 : Value, e = .returned (.agg #[x0, x1, x2, x3, x4, x5, x6, x7])) ∧ Below w.heap.size w w' := by
  go_enter Try.func93, Try.ntmps93
  go_wp2
  have h1 := isBlk.new (w.alloc (.cells #[] 101)) 124 [.int .i64 0, .bool false, .int .i64 0, .int .i64 0, .int .i64 0, .int .i64 0, .slice none 0 0, .nilFunc]
  have hB : Below w.heap.size w ((w.alloc (.cells #[] 101)).alloc (.cells #[.int .i64 0, .bool false, .int .i64 0, .int .i64 0, .int .i64 0, .int .i64 0, .slice none 0 0, .nilFunc] 124)) := (by repeat (first | with_reducible exact Below.refl _ _ | with_reducible assumption | with_reducible refine below_drewN ?_ _ | with_reducible refine Below.drew ?_ | ((with_reducible refine Bset ?_ ?_); focus (first | omega | (simp; done) | (simp; omega))) | ((with_reducible refine Ball ?_ ?_); focus (first | omega | (simp; done) | (simp; omega)))))
  have hz : w.heap.size + 1 < ((w.alloc (.cells #[] 101)).alloc (.cells #[.int .i64 0, .bool false, .int .i64 0, .int .i64 0, .int .i64 0, .int .i64 0, .slice none 0 0, .nilFunc] 124)).heap.size := by simp
  rw [World.size_alloc] at h1
  generalize (w.alloc (.cells #[] 101)).alloc (.cells #[.int .i64 0, .bool false, .int .i64 0, .int .i64 0, .int .i64 0, .int .i64 0, .slice none 0 0, .nilFunc] 124) = W at *
  have hzz : w.heap.size ≤ W.heap.size := by omega
  have hs1 : ∀ i, i < 8 → (W.cell? ⟨w.heap.size + 1, i, none⟩).isSome = true := fun i hi => by
    rw [h1.cell i]
    rcases i with _ | _ | _ | _ | _ | _ | _ | _ | i <;> first | rfl | (exfalso; omega)
  have hs2 : ∀ i, i < 8 → W.frozen? ⟨w.heap.size + 1, i, none⟩ = false := fun i _ => h1.frozen i
  clear h1
  obtain ⟨b1, hb1⟩ : ∃ b1, b1 = w.heap.size + 1 := ⟨_, rfl⟩
  rw [← hb1] at hz hs1 hs2 ⊢
  have hzb : w.heap.size ≤ b1 := by omega
  clear hb1
  refine wp_region_held_drew (S := fun wz => W.heap.size ≤ wz.heap.size ∧ Hid (Below w.heap.size w wz) ∧ (∀ i, i < 8 → (wz.cell? ⟨b1, i, none⟩).isSome = true) ∧ ∀ i, i < 8 → wz.frozen? ⟨b1, i, none⟩ = false) (by kernel_rfl) ⟨Nat.le_refl _, Lib.hid (Below.drew hB), hs1, hs2⟩ (fun hHeld => ?_)
  refine wpAnyH_take (i := 0) (oi := { dst := some 3, op := Op.build 120 #[(0, Operand.const (Value.int IntKind.i64 2)), (1, Operand.const (Value.int IntKind.i64 1)), (2, Operand.const (Value.int IntKind.i64 3)), (3, Operand.const (Value.int IntKind.i64 2))], type := 120, pos := "knots.go:115", after := #[], guard := none }) (v := ?v0) rfl (by kernel_rfl) (by kernel_rfl) (by kernel_rfl) (fun _ _ _ h => h) (Or.inl ⟨by rfl, ?y0⟩) (by assumption) ?r0
  case y0 => (intro w hSw; (try dsimp only at hSw); go_simp; (try with_reducible rfl))
  try simp only [Act.put, List.setIfInBounds_toArray, List.set_cons_zero, List.set_cons_succ]
  refine wpAnyH_take (i := 1) (oi := { dst := some 4, op := Op.load 101 (Operand.tmp 1), type := 101, pos := "knots.go:115", after := #[], guard := none }) (v := ?v1) rfl (by kernel_rfl) (by kernel_rfl) (by kernel_rfl) (fun _ _ _ h => h) (Or.inl ⟨by rfl, ?y1⟩) (by assumption) ?r1
  case y1 => (intro w hSw; (try dsimp only at hSw); go_simp; (try with_reducible rfl))
  try simp only [Act.put, List.setIfInBounds_toArray, List.set_cons_zero, List.set_cons_succ]
  refine wpAnyH_take (i := 2) (oi := { dst := some 5, op := Op.makeFunc (Fn.func 95) #[Operand.tmp 4] #[], type := 146, pos := "knots.go:115", after := #[{ on := 1, ground := Ground.data }], guard := none }) (v := ?v2) rfl (by kernel_rfl) (by kernel_rfl) (by kernel_rfl) (fun _ _ _ h => h) (Or.inl ⟨by rfl, ?y2⟩) (by assumption) ?r2
  case y2 => (intro w hSw; (try dsimp only at hSw); go_simp; (try with_reducible rfl))
  try simp only [Act.put, List.setIfInBounds_toArray, List.set_cons_zero, List.set_cons_succ]
  refine wpAnyH_take (i := 3) (oi := { dst := some 6, op := Op.load 101 (Operand.tmp 1), type := 101, pos := "knots.go:115", after := #[], guard := none }) (v := ?v3) rfl (by kernel_rfl) (by kernel_rfl) (by kernel_rfl) (fun _ _ _ h => h) (Or.inl ⟨by rfl, ?y3⟩) (by assumption) ?r3
  case y3 => (intro w hSw; (try dsimp only at hSw); go_simp; (try with_reducible rfl))
  try simp only [Act.put, List.setIfInBounds_toArray, List.set_cons_zero, List.set_cons_succ]
  refine wpAnyH_take (i := 4) (oi := { dst := some 7, op := Op.makeFunc (Fn.func 96) #[Operand.tmp 6] #[], type := 147, pos := "knots.go:115", after := #[{ on := 3, ground := Ground.data }], guard := none }) (v := ?v4) rfl (by kernel_rfl) (by kernel_rfl) (by kernel_rfl) (fun _ _ _ h => h) (Or.inl ⟨by rfl, ?y4⟩) (by assumption) ?r4
  case y4 => (intro w hSw; (try dsimp only at hSw); go_simp; (try with_reducible rfl))
  try simp only [Act.put, List.setIfInBounds_toArray, List.set_cons_zero, List.set_cons_succ]
  refine wpAnyH_take (i := 7) (oi := { dst := some 10, op := Op.load 101 (Operand.tmp 1), type := 101, pos := "knots.go:115", after := #[], guard := none }) (v := ?v7) rfl (by kernel_rfl) (by kernel_rfl) (by kernel_rfl) (fun _ _ _ h => h) (Or.inl ⟨by rfl, ?y7⟩) (by assumption) ?r7
  case y7 => (intro w hSw; (try dsimp only at hSw); go_simp; (try with_reducible rfl))
  try simp only [Act.put, List.setIfInBounds_toArray, List.set_cons_zero, List.set_cons_succ]
  refine wpAnyH_take (i := 8) (oi := { dst := some 11, op := Op.makeFunc (Fn.func 98) #[Operand.tmp 10] #[], type := 146, pos := "knots.go:115", after := #[{ on := 7, ground := Ground.data }], guard := none }) (v := ?v8) rfl (by kernel_rfl) (by kernel_rfl) (by kernel_rfl) (fun _ _ _ h => h) (Or.inl ⟨by rfl, ?y8⟩) (by assumption) ?r8
  case y8 => (intro w hSw; (try dsimp only at hSw); go_simp; (try with_reducible rfl))
  try simp only [Act.put, List.setIfInBounds_toArray, List.set_cons_zero, List.set_cons_succ]
  refine wpAnyH_take (i := 9) (oi := { dst := some 12, op := Op.load 101 (Operand.tmp 1), type := 101, pos := "knots.go:115", after := #[], guard := none }) (v := ?v9) rfl (by kernel_rfl) (by kernel_rfl) (by kernel_rfl) (fun _ _ _ h => h) (Or.inl ⟨by rfl, ?y9⟩) (by assumption) ?r9
  case y9 => (intro w hSw; (try dsimp only at hSw); go_simp; (try with_reducible rfl))
  try simp only [Act.put, List.setIfInBounds_toArray, List.set_cons_zero, List.set_cons_succ]
  refine wpAnyH_take (i := 10) (oi := { dst := some 13, op := Op.makeFunc (Fn.func 99) #[Operand.tmp 12] #[], type := 147, pos := "knots.go:115", after := #[{ on := 9, ground := Ground.data }], guard := none }) (v := ?v10) rfl (by kernel_rfl) (by kernel_rfl) (by kernel_rfl) (fun _ _ _ h => h) (Or.inl ⟨by rfl, ?y10⟩) (by assumption) ?r10
  case y10 => (intro w hSw; (try dsimp only at hSw); go_simp; (try with_reducible rfl))
  try simp only [Act.put, List.setIfInBounds_toArray, List.set_cons_zero, List.set_cons_succ]
  refine wpAnyH_take (i := 13) (oi := { dst := some 16, op := Op.load 101 (Operand.tmp 1), type := 101, pos := "knots.go:115", after := #[], guard := none }) (v := ?v13) rfl (by kernel_rfl) (by kernel_rfl) (by kernel_rfl) (fun _ _ _ h => h) (Or.inl ⟨by rfl, ?y13⟩) (by assumption) ?r13
  case y13 => (intro w hSw; (try dsimp only at hSw); go_simp; (try with_reducible rfl))
  try simp only [Act.put, List.setIfInBounds_toArray, List.set_cons_zero, List.set_cons_succ]
  refine wpAnyH_take (i := 14) (oi := { dst := some 17, op := Op.makeFunc (Fn.func 101) #[Operand.tmp 16] #[], type := 147, pos := "knots.go:115", after := #[{ on := 13, ground := Ground.data }], guard := none }) (v := ?v14) rfl (by kernel_rfl) (by kernel_rfl) (by kernel_rfl) (fun _ _ _ h => h) (Or.inl ⟨by rfl, ?y14⟩) (by assumption) ?r14
  case y14 => (intro w hSw; (try dsimp only at hSw); go_simp; (try with_reducible rfl))
  try simp only [Act.put, List.setIfInBounds_toArray, List.set_cons_zero, List.set_cons_succ]
  refine wpAnyH_take (i := 15) (oi := { dst := some 18, op := Op.load 101 (Operand.tmp 1), type := 101, pos := "knots.go:115", after := #[], guard := none }) (v := ?v15) rfl (by kernel_rfl) (by kernel_rfl) (by kernel_rfl) (fun _ _ _ h => h) (Or.inl ⟨by rfl, ?y15⟩) (by assumption) ?r15
  case y15 => (intro w hSw; (try dsimp only at hSw); go_simp; (try with_reducible rfl))
  try simp only [Act.put, List.setIfInBounds_toArray, List.set_cons_zero, List.set_cons_succ]
  refine wpAnyH_take (i := 16) (oi := { dst := some 19, op := Op.makeFunc (Fn.func 92) #[Operand.tmp 18] #[], type := 145, pos := "knots.go:115", after := #[{ on := 15, ground := Ground.data }], guard := none }) (v := ?v16) rfl (by kernel_rfl) (by kernel_rfl) (by kernel_rfl) (fun _ _ _ h => h) (Or.inl ⟨by rfl, ?y16⟩) (by assumption) ?r16
  case y16 => (intro w hSw; (try dsimp only at hSw); go_simp; (try with_reducible rfl))
  try simp only [Act.put, List.setIfInBounds_toArray, List.set_cons_zero, List.set_cons_succ]
  refine wpAnyH_take (i := 17) (oi := { dst := some 20, op := Op.build 152 #[(0, Operand.func 100), (1, Operand.tmp 17), (2, Operand.tmp 19)], type := 152, pos := "knots.go:115", after := #[{ on := 14, ground := Ground.data }, { on := 16, ground := Ground.data }], guard := none }) (v := ?v17) rfl (by kernel_rfl) (by kernel_rfl) (by kernel_rfl) (fun _ _ _ h => h) (Or.inl ⟨by rfl, ?y17⟩) (by assumption) ?r17
  case y17 => (intro w hSw; (try dsimp only at hSw); go_simp; (try with_reducible rfl))
  try simp only [Act.put, List.setIfInBounds_toArray, List.set_cons_zero, List.set_cons_succ]
  refine wpAnyH_ready (rs := [5]) (by kernel_rfl) (by simp) ?_
  refine AllReadyH.cons (o := { dst := some 8, op := Op.call { callee := Callee.value (Operand.func 97), args := #[Operand.const (Value.int IntKind.u64 0), Operand.const (Value.int IntKind.u64 1)], argTypes := #[28, 28] }, type := 145, pos := "knots.go:116", after := #[], guard := none }) rfl (fun K hK => ?_) AllReadyH.nil
  go_simp
  with_reducible refine Calls.mono (still_any _ _ _) ?_
  rintro e w2 ⟨rfl, hb2⟩
  go_wp2_with fail
  refine hK.out _ _ ?_ (fun hHelda5 => ?_)
  · exact keepS_call hHeld.1 hHeld.2.1 hHeld.2.2.1 hHeld.2.2.2 hz hzz hb2
  clear hK K hHeld
  try simp only [Act.put, List.setIfInBounds_toArray, List.set_cons_zero, List.set_cons_succ]
  refine wpAnyH_take (i := 6) (oi := { dst := some 9, op := Op.build 152 #[(0, Operand.tmp 5), (1, Operand.tmp 7), (2, Operand.tmp 8)], type := 152, pos := "knots.go:115", after := #[{ on := 2, ground := Ground.data }, { on := 4, ground := Ground.data }, { on := 5, ground := Ground.data }], guard := none }) (v := ?va6) rfl (by kernel_rfl) (by kernel_rfl) (by kernel_rfl) (fun _ _ _ h => h) (Or.inl ⟨by rfl, ?ya6⟩) (by assumption) ?ra6
  case ya6 => (intro w hSw; (try dsimp only at hSw); go_simp; (try with_reducible rfl))
  try simp only [Act.put, List.setIfInBounds_toArray, List.set_cons_zero, List.set_cons_succ]
  refine wpAnyH_ready (rs := [11]) (by kernel_rfl) (by simp) ?_
  refine AllReadyH.cons (o := { dst := some 14, op := Op.call { callee := Callee.value (Operand.func 97), args := #[Operand.const (Value.int IntKind.u64 1), Operand.const (Value.int IntKind.u64 2)], argTypes := #[28, 28] }, type := 145, pos := "knots.go:117", after := #[{ on := 5, ground := Ground.chain }], guard := none }) rfl (fun K hK => ?_) AllReadyH.nil
  go_simp
  with_reducible refine Calls.mono (still_any _ _ _) ?_
  rintro e w3 ⟨rfl, hb3⟩
  go_wp2_with fail
  refine hK.out _ _ ?_ (fun hHelda11 => ?_)
  · exact keepS_call hHelda5.1 hHelda5.2.1 hHelda5.2.2.1 hHelda5.2.2.2 hz hzz hb3
  clear hK K hHelda5
  try simp only [Act.put, List.setIfInBounds_toArray, List.set_cons_zero, List.set_cons_succ]
  refine wpAnyH_take (i := 12) (oi := { dst := some 15, op := Op.build 152 #[(0, Operand.tmp 11), (1, Operand.tmp 13), (2, Operand.tmp 14)], type := 152, pos := "knots.go:115", after := #[{ on := 8, ground := Ground.data }, { on := 10, ground := Ground.data }, { on := 11, ground := Ground.data }], guard := none }) (v := ?va12) rfl (by kernel_rfl) (by kernel_rfl) (by kernel_rfl) (fun _ _ _ h => h) (Or.inl ⟨by rfl, ?ya12⟩) (by assumption) ?ra12
  case ya12 => (intro w hSw; (try dsimp only at hSw); go_simp; (try with_reducible rfl))
  try simp only [Act.put, List.setIfInBounds_toArray, List.set_cons_zero, List.set_cons_succ]
  refine wpAnyH_ready (rs := [18]) (by kernel_rfl) (by simp) ?_
  refine AllReadyH.cons (o := { dst := some 21, op := Op.buildSlice 121 3 #[(0, Operand.tmp 9), (1, Operand.tmp 15), (2, Operand.tmp 20)], type := 121, pos := "knots.go:115", after := #[{ on := 6, ground := Ground.data }, { on := 12, ground := Ground.data }, { on := 17, ground := Ground.data }], guard := none }) rfl (fun K hK => ?_) AllReadyH.nil
  go_simp
  refine hK.out _ _ ?_ (fun hHelda18 => ?_)
  · exact keepS_alloc hHelda11.1 hHelda11.2.1 hHelda11.2.2.1 hHelda11.2.2.2 hz hzz _
  clear hK K hHelda11
  try simp only [Act.put, List.setIfInBounds_toArray, List.set_cons_zero, List.set_cons_succ]
  refine wpAnyH_take (i := 19) (oi := { dst := some 22, op := Op.build 124 #[(0, Operand.const (Value.int IntKind.i64 5)), (1, Operand.const (Value.bool true)), (2, Operand.tmp 3), (3, Operand.tmp 21), (4, Operand.func 102)], type := 124, pos := "knots.go:115", after := #[{ on := 0, ground := Ground.data }, { on := 18, ground := Ground.data }], guard := none }) (v := ?va19) rfl (by kernel_rfl) (by kernel_rfl) (by kernel_rfl) (fun _ _ _ h => h) (Or.inl ⟨by rfl, ?ya19⟩) (by assumption) ?ra19
  case ya19 => (intro w hSw; (try dsimp only at hSw); go_simp; (try with_reducible rfl))
  try simp only [Act.put, List.setIfInBounds_toArray, List.set_cons_zero, List.set_cons_succ]
  obtain ⟨x0, hx0⟩ := Option.isSome_iff_exists.1 (hHelda18.2.2.1 0 (by omega))
  obtain ⟨x1, hx1⟩ := Option.isSome_iff_exists.1 (hHelda18.2.2.1 1 (by omega))
  obtain ⟨x2, hx2⟩ := Option.isSome_iff_exists.1 (hHelda18.2.2.1 2 (by omega))
  obtain ⟨x3, hx3⟩ := Option.isSome_iff_exists.1 (hHelda18.2.2.1 3 (by omega))
  obtain ⟨x4, hx4⟩ := Option.isSome_iff_exists.1 (hHelda18.2.2.1 4 (by omega))
  obtain ⟨x5, hx5⟩ := Option.isSome_iff_exists.1 (hHelda18.2.2.1 5 (by omega))
  obtain ⟨x6, hx6⟩ := Option.isSome_iff_exists.1 (hHelda18.2.2.1 6 (by omega))
  obtain ⟨x7, hx7⟩ := Option.isSome_iff_exists.1 (hHelda18.2.2.1 7 (by omega))
  have hff := hHelda18.2.2.2
  have hffa0 := hff 0 (by omega)
  have hffa1 := hff 1 (by omega)
  have hffa2 := hff 2 (by omega)
  have hffa3 := hff 3 (by omega)
  have hffa4 := hff 4 (by omega)
  have hffa5 := hff 5 (by omega)
  have hffa6 := hff 6 (by omega)
  have hffa7 := hff 7 (by omega)
  refine wpAnyH_ready (rs := [20]) (by kernel_rfl) (by simp) ?_
  refine AllReadyH.cons (o := { dst := none, op := Op.store 124 (Operand.tmp 2) (Operand.tmp 22), type := 0, pos := "knots.go:115", after := #[{ on := 19, ground := Ground.data }, { on := 11, ground := Ground.chain }, { on := 0, ground := Ground.phase }, { on := 1, ground := Ground.phase }, { on := 2, ground := Ground.phase }, { on := 3, ground := Ground.phase }, { on := 4, ground := Ground.phase }, { on := 5, ground := Ground.phase }, { on := 6, ground := Ground.phase }, { on := 7, ground := Ground.phase }, { on := 8, ground := Ground.phase }, { on := 9, ground := Ground.phase }, { on := 10, ground := Ground.phase }, { on := 11, ground := Ground.phase }, { on := 12, ground := Ground.phase }, { on := 13, ground := Ground.phase }, { on := 14, ground := Ground.phase }, { on := 15, ground := Ground.phase }, { on := 16, ground := Ground.phase }, { on := 17, ground := Ground.phase }, { on := 18, ground := Ground.phase }, { on := 19, ground := Ground.phase }], guard := none }) rfl (fun K hK => ?_) AllReadyH.nil
  go_simp
  refine hK.out _ _ ?_ (fun hHelda20 => ?_)
  · exact keepS_store8 hzb hHelda18.1 hHelda18.2.1 hHelda18.2.2.1 hHelda18.2.2.2 _ _ _ _ _ _ _ _
  clear hK K hHelda18
  try simp only [Act.put, List.setIfInBounds_toArray, List.set_cons_zero, List.set_cons_succ]
  refine wpAnyH_done (by kernel_rfl) ?_ _
  have hbe := hHelda20.2.1
  clear hHelda20 hff
  go_wp2_with fail
  refine bodyPost_ret (v := .agg #[.int .i64 5, .bool true, .int .i64 2, .int .i64 1, .int .i64 3, .int .i64 2, .slice (some ⟨w3.heap.size, 0, none⟩) 3 3, .func (.func 102) #[] #[]]) (by simp (maxDischargeDepth := 8) [results, Try.results93, go_sem, hx0, hx1, hx2, hx3, hx4, hx5, hx6, hx7]) rfl ⟨⟨_, _, _, _, _, _, _, _, rfl⟩, hbe.out⟩

end Go.Proofs.Ytohmeobfiomfdaa
