/-
  Going over the edges: over.
-/
import Derived.Test.YtohmeobfiomfdaaFeed
import Derived.Test.YtohmeobfiomfdaaEach
import Derived.Test.YtohmeobfiomfdaaQuiet
namespace Go.Proofs.Ytohmeobfiomfdaa
open Go.RowKit Go.Shelf
set_option maxRecDepth 100000
attribute [local go_sem] Oper.semAt_some

def Valid (n : Nat) (e : Ed) : Prop := e.src < n ∧ e.dst < n
instance (n : Nat) (e : Ed) : Decidable (Valid n e) := by unfold Valid; infer_instance
def allValid (n : Nat) (es : List Ed) : Bool := es.all fun e => decide (Valid n e)
/-- What going over answers. -/
def overErr (n : Nat) (es : List Ed) (beh : Nat) : Nat := if allValid n es then beh else 91

theorem KeepB.put {bs : List Nat} {W : World} {l : Nat} {o' : Obj} {B : Nat} (hl : B ≤ l) (hb : ∀ x, x ∈ bs → x < B) (hz : B ≤ W.heap.size) : KeepB bs W (W.putObj l o') :=
  ⟨(grownBy_putObj' W l o').size, fun x hx => (grownBy_putObj' W l o').block x (Nat.lt_of_lt_of_le (hb x hx) hz) (fun h => by have := hb x hx; cases h; omega)⟩

theorem feed_all {es p : List Ed} {beh : Nat} (h : p.map (fun e => (e, 0)) = feedL es beh) : beh = 0 ∧ p = es := by
  unfold feedL at h
  by_cases hb : beh = 0
  · rw [if_pos hb, List.append_nil] at h
    exact ⟨hb, (List.map_inj_right (fun a b hab => by simpa using hab)).1 h⟩
  · rw [if_neg hb] at h
    have := congrArg List.getLast? h
    simp at this
    obtain ⟨a, _, h1⟩ := this
    exact absurd h1.2.symm hb

theorem feed_some {n : Nat} {es q : List Ed} {x : Ed × Nat} {beh code : Nat} (hp : q.map (fun e => (e, 0)) ++ [x] <+: feedL es beh) (hq : ∀ e, e ∈ q → Valid n e) (hc : (x.2 ≠ 0 ∧ code = x.2) ∨ (x.2 = 0 ∧ ¬ Valid n x.1 ∧ code = 91)) :
    code = overErr n es beh ∧ (allValid n es = true → q = es) := by
  have hA : q.map (fun e => (e, 0)) ++ [x] <+: es.map (fun e => (e, 0)) → code = overErr n es beh ∧ (allValid n es = true → q = es) := by
    intro h
    have hx : x ∈ es.map (fun e => (e, 0)) := h.subset (by simp)
    obtain ⟨e, he, rfl⟩ := List.mem_map.1 hx
    rcases hc with ⟨h1, _⟩ | ⟨_, h2, h3⟩
    · exact absurd rfl h1
    · have hna : ¬ allValid n es = true := by
        unfold allValid
        rw [List.all_eq_true]
        intro h4
        exact h2 (of_decide_eq_true (h4 e he))
      refine ⟨?_, fun h5 => absurd h5 hna⟩
      unfold overErr
      rw [if_neg hna, h3]
  unfold feedL at hp
  by_cases hb : beh = 0
  · rw [if_pos hb, List.append_nil] at hp
    exact hA hp
  · rw [if_neg hb, List.prefix_concat_iff] at hp
    rcases hp with hp | hp
    · obtain ⟨h1, h2⟩ := List.append_inj' hp rfl
      obtain rfl : q = es := (List.map_inj_right (fun a b hab => by simpa using hab)).1 h1
      obtain rfl : x = (⟨0, 0, 0⟩, beh) := by simpa using h2
      have hall : allValid n q = true := by unfold allValid; rw [List.all_eq_true]; intro e he; exact decide_eq_true (hq e he)
      refine ⟨?_, fun _ => rfl⟩
      unfold overErr
      rw [if_pos hall]
      rcases hc with ⟨_, h⟩ | ⟨h, _⟩
      · exact h
      · exact absurd h hb
    · exact hA hp

set_option maxHeartbeats 4000000 in
theorem over_in (N : Nat) (hN : 8 ≤ N) (db b1 b2 g : Nat) (caps : Array Value) (eg : ∀ args w, (callFunc g args).run Try.prog w = .ok (.enter g args) w) (d : Dk) (a : Option Addr) (cap eb eo : Nat) (es : List Ed) (beh : Nat) (R : Nat → Prop) (I : List Ed → World → Prop) (w : World)
    (hfv : d.fv = .func (.func 41) #[] #[.pointer (some ⟨b1, 0, none⟩), .pointer (some ⟨b2, 0, none⟩)]) (hreach : es.length * 12 ≤ 140737488351232) (heb : eb < w.heap.size)
    (h1 : w.cell? ⟨b1, 0, none⟩ = some (.slice a es.length cap)) (h2 : w.cell? ⟨b2, 0, none⟩ = some (.int .i64 beh)) (hE : IsEds w a eb eo es)
    (hR : ∀ j, R j → j < w.heap.size) (hRb : ¬ R b1 ∧ ¬ R b2 ∧ ¬ R eb)
    (hD : ∀ p W, I p W → ∃ f, isBlk W db 75 (d.cells f))
    (hI : ∀ p W W', I p W → (∀ j, j < w.heap.size → W'.heap[j]? = W.heap[j]?) → W.heap.size ≤ W'.heap.size → I p W')
    (hsee : ∀ p x W, Valid d.n x → I p W → w.heap.size ≤ W.heap.size → Calls Try.prog g (#[.agg #[.int .u32 x.src, .int .u32 x.dst, .int .u32 x.w]] ++ caps) W fun e W' => (∃ v, e = .returned v) ∧ I (p ++ [x]) W' ∧ Chg R W W')
    (h0 : I [] w) :
    CallsIn Fence.wide N Try.prog 35 #[.pointer (some ⟨db, 0, none⟩), .func (.func g) #[] caps] w fun e w' =>
      ∃ p, e = .returned (.int .i64 (overErr d.n es beh)) ∧ (allValid d.n es = true → p = es) ∧ I p w' ∧ Chg R w w' := by
  obtain ⟨f, hd⟩ := hD _ _ h0
  have c2 : w.cell? ⟨db, 2, none⟩ = some (.func (.func 41) #[] #[.pointer (some ⟨b1, 0, none⟩), .pointer (some ⟨b2, 0, none⟩)]) := by rw [← hfv]; exact hd.cell 2
  have hdl := hd.lt
  have hb1 := World.block_lt_of_cell? w _ h1
  have hb2 := World.block_lt_of_cell? w _ h2
  simp only [] at hb1 hb2
  have hne : ¬ db = w.heap.size := by omega
  have hdl1 : db < w.heap.size + 1 := by omega
  have hdl2 : db < w.heap.size + 2 := by omega
  refine callsIn_of_wp_marks Try.func35 rfl trivial ?_ rfl
  simp only [Try.ntmps35, List.size_toArray, List.length_cons, List.length_nil, Nat.reduceAdd, Nat.reduceSub, Array.replicate_succ, Array.replicate_zero, List.push_toArray, List.append_toArray, List.nil_append, List.cons_append]
  gi_wp2
  have k2 := ((isBlk.new w 58 [.pointer (some ⟨db, 0, none⟩)]).old (.cells #[.func (.func g) #[] caps] 72)).old (.cells #[.int .i64 0] 36)
  have k3 := (isBlk.new (w.alloc (.cells #[.pointer (some ⟨db, 0, none⟩)] 58)) 72 [.func (.func g) #[] caps]).old (.cells #[.int .i64 0] 36)
  have k4 := isBlk.new ((w.alloc (.cells #[.pointer (some ⟨db, 0, none⟩)] 58)).alloc (.cells #[.func (.func g) #[] caps] 72)) 36 [.int .i64 0]
  simp only [World.size_alloc] at k3 k4
  have hB0 : Below w.heap.size w (((w.alloc (.cells #[.pointer (some ⟨db, 0, none⟩)] 58)).alloc (.cells #[.func (.func g) #[] caps] 72)).alloc (.cells #[.int .i64 0] 36)) := (by repeat (first | with_reducible exact Below.refl _ _ | with_reducible assumption | with_reducible refine below_drewN ?_ _ | with_reducible refine Below.drew ?_ | ((with_reducible refine Bset ?_ ?_); focus (first | omega | (simp; done) | (simp; omega))) | ((with_reducible refine Ball ?_ ?_); focus (first | omega | (simp; done) | (simp; omega)))))
  have hsz : (((w.alloc (.cells #[.pointer (some ⟨db, 0, none⟩)] 58)).alloc (.cells #[.func (.func g) #[] caps] 72)).alloc (.cells #[.int .i64 0] 36)).heap.size = w.heap.size + 3 := by simp
  have h00 := hI [] w _ h0 (fun j hj => hB0.block j hj) hB0.size
  obtain ⟨W0, hW0⟩ : ∃ W0, (((w.alloc (.cells #[.pointer (some ⟨db, 0, none⟩)] 58)).alloc (.cells #[.func (.func g) #[] caps] 72)).alloc (.cells #[.int .i64 0] 36)) = W0 := ⟨_, rfl⟩
  rw [hW0] at k2 k3 k4 hB0 hsz h00 ⊢
  clear hW0
  have hstab : ∀ (p : List Ed) (A B : World) (row : Option Nat), I p A → Chg R w A → A.grownBy B row → (∀ r, row = some r → w.heap.size ≤ r) → I p B ∧ Chg R w B := by
    intro p A B row hIp hc hg hr
    refine ⟨hI p A B hIp (fun j hj => hg.block j (Nat.lt_of_lt_of_le hj hc.size) (fun e => by have := hr j e.symm; omega)) hg.size, ?_⟩
    exact ⟨hg.os.trans hc.os, hg.tape.trans hc.tape, hg.output.trans hc.output, Nat.le_trans hc.size hg.size, fun j hj hn => (hg.block j (Nat.lt_of_lt_of_le hj hc.size) (fun e => by have := hr j e.symm; omega)).trans (hc.block j hj hn)⟩
  refine wpIn_rangeFunc_ownH (α := Ed × Nat) (encs := encF) rfl (by omega) (gf := 41) (lb := #[.pointer (some ⟨b1, 0, none⟩), .pointer (some ⟨b2, 0, none⟩)]) rfl trivial (enters_of Try.func41 (by kernel_rfl) rfl)
    (feed_stops (N - 1) (by omega) b1 b2 a cap eb eo es beh hreach W0 ((hB0.cell (p := ⟨b1, 0, none⟩) hb1).trans h1) ((hB0.cell (p := ⟨b2, 0, none⟩) hb2).trans h2) (hE.below hB0 hE.lt)) KeepB.trans
    (fun W l o o' hl ho _ _ => KeepB.put (B := w.heap.size) (by omega) (by intro x hx; simp only [List.mem_cons, List.not_mem_nil, or_false] at hx; omega) (by have := (Array.getElem?_eq_some_iff.1 ho).1; omega)) (Below.refl _ _) (fun _ => rfl)
    (fun pre W => (∃ p, pre = p.map (fun e => (e, 0)) ∧ (∀ e, e ∈ p → Valid d.n e) ∧ I p W ∧ Chg R w W) ∧ isBlk W w.heap.size 58 [.pointer (some ⟨db, 0, none⟩)] ∧ isBlk W (w.heap.size + 1) 72 [.func (.func g) #[] caps] ∧ isBlk W (w.heap.size + 1 + 1) 36 [.int .i64 0])
    (fun c pre W => c = .ret ∧ ∃ q x code, pre = q.map (fun e => (e, 0)) ++ [x] ∧ (∀ e, e ∈ q → Valid d.n e) ∧ ((x.2 ≠ 0 ∧ code = x.2) ∨ (x.2 = 0 ∧ ¬ Valid d.n x.1 ∧ code = 91)) ∧ (I q W ∧ Chg R w W) ∧ isBlk W (w.heap.size + 1 + 1) 36 [.int .i64 (code : Nat)])
    ?hI ?hIx ?h0
    (fun x a' W => ∃ Bx, w.heap.size + 1 + 1 < Bx ∧ isBlk W Bx 71 [.int .u32 x.1.src, .int .u32 x.1.dst, .int .u32 x.1.w] ∧ a' = { tmps := #[.pointer (some ⟨db, 0, none⟩), .func (.func g) #[] caps, .pointer (some ⟨w.heap.size, 0, none⟩), .pointer (some ⟨w.heap.size + 1, 0, none⟩), .pointer (some ⟨w.heap.size + 1 + 1, 0, none⟩), .pointer (some ⟨Bx, 0, none⟩), .int .i64 x.2, .pointer (some ⟨db, 0, none⟩), .pointer (some ⟨db, 0, none⟩), .pointer (some ⟨db, 2, none⟩), .func (.func 41) #[] #[.pointer (some ⟨b1, 0, none⟩), .pointer (some ⟨b2, 0, none⟩)], .agg #[.int .u32 x.1.src, .int .u32 x.1.dst, .int .u32 x.1.w], .int .i64 x.2, undef, undef, undef, undef, undef, undef, undef, undef, undef, undef, undef, undef, undef, undef, undef, undef, undef, undef, undef, undef, undef, undef, undef, undef, undef, undef, undef, undef, undef, undef], defers := [] })
    ?hAx ?assign ?body ?done ?stop
  case hI =>
    rintro s A B row ⟨⟨p, hp, hv, hIp, hc⟩, a2, a3, a4⟩ hg hr
    obtain ⟨x1, x2⟩ := hstab p A B row hIp hc hg (fun r e => by have := (hr r e).1; omega)
    exact ⟨⟨p, hp, hv, x1, x2⟩, a2.grown hg (fun e => by have := (hr _ e.symm).1; omega), a3.grown hg (fun e => by have := (hr _ e.symm).1; omega), a4.grown hg (fun e => by have := (hr _ e.symm).1; omega)⟩
  case hIx =>
    rintro c s A B row ⟨hc0, q, x, code, e1, e2, e3, ⟨hIp, hc⟩, a4⟩ hg hr
    exact ⟨hc0, q, x, code, e1, e2, e3, hstab q A B row hIp hc hg (fun r e => by have := (hr r e).1; omega), a4.grown hg (fun e => by have := (hr _ e.symm).1; omega)⟩
  case h0 => exact ⟨⟨[], rfl, by simp, h00, Chg.of_below hB0⟩, k2, k3, k4⟩
  case hAx =>
    rintro x a' s A B row ⟨Bx, e1, e2, e3⟩ hg hr
    refine ⟨Bx, e1, e2.grown hg (fun e => ?_), e3⟩
    obtain ⟨_, ob, ho, hoc⟩ := hr _ e.symm
    have h3 := e2
    unfold isBlk at h3
    rw [h3] at ho
    cases ho
    cases hoc
  case assign =>
    rintro l pre x W K ⟨⟨p, hp, hv, hIp, hc⟩, a2, a3, a4⟩ hK
    have l4 := a4.lt
    unfold encF
    dsimp only
    gi_wp2
    have hz := hc.size
    refine hK _ _ ((KeepsOthers.alloc _ _).from _) (KeepB.below (B := w.heap.size) ((Below.refl _ W).alloc hz _) (by intro y hy; simp only [List.mem_cons, List.not_mem_nil, or_false] at hy; omega)) ⟨⟨p, hp, hv, hstab p W _ none hIp hc (World.grownBy_alloc W _ none) (fun r e => by cases e)⟩, a2.old _, a3.old _, a4.old _⟩ ⟨W.heap.size, l4, isBlk.new W 71 _, rfl⟩
  case body =>
    rintro l pre x a' W hl ⟨r, hr⟩ ⟨⟨p, hp, hv, hIp, hc⟩, a2, a3, a4⟩ ⟨Bx, hBx, bX, rfl⟩ hlt
    have c2 : W.cell? ⟨w.heap.size, 0, none⟩ = some (.pointer (some ⟨db, 0, none⟩)) := a2.cell 0
    have c3 : W.cell? ⟨w.heap.size + 1, 0, none⟩ = some (.func (.func g) #[] caps) := a3.cell 0
    have c4 : W.cell? ⟨w.heap.size + 1 + 1, 0, none⟩ = some (.int .i64 0) := a4.cell 0
    have f4 := a4.frozen 0
    have x0 : W.cell? ⟨Bx, 0, none⟩ = some (.int .u32 x.1.src) := bX.cell 0
    have x1 : W.cell? ⟨Bx, 1, none⟩ = some (.int .u32 x.1.dst) := bX.cell 1
    have x2 : W.cell? ⟨Bx, 2, none⟩ = some (.int .u32 x.1.w) := bX.cell 2
    obtain ⟨f', hd'⟩ := hD _ _ hIp
    have d0 : W.cell? ⟨db, 0, none⟩ = some (.int .u32 d.n) := hd'.cell 0
    have HC := Lib.hid hc
    have HV := Lib.hid hv
    obtain ⟨⟨src, dst, x3⟩, err⟩ := x
    simp only [] at x0 x1 x2 ⊢
    have hl4 := a4.lt
    have hzz := hc.size
    have hset : ∀ (k code : Nat), KeepsFrom W0.heap.size W ((W.drewN k).setCell ⟨w.heap.size + 1 + 1, 0, none⟩ (.int .i64 code)) ∧ (I p ((W.drewN k).setCell ⟨w.heap.size + 1 + 1, 0, none⟩ (.int .i64 code)) ∧ Chg R w ((W.drewN k).setCell ⟨w.heap.size + 1 + 1, 0, none⟩ (.int .i64 code))) ∧ isBlk ((W.drewN k).setCell ⟨w.heap.size + 1 + 1, 0, none⟩ (.int .i64 code)) (w.heap.size + 1 + 1) 36 [.int .i64 (code : Nat)] := fun k code => ⟨⟨by simp, fun k' o _ hk ho => (KeepsOthers.setCell (W.drewN k) ⟨w.heap.size + 1 + 1, 0, none⟩ (.int .i64 code)).same k' o hk ho⟩, hstab p W _ (some (w.heap.size + 1 + 1)) hIp hc (⟨rfl, rfl, rfl, by simp, fun j hj hn => Below.heap_setCell (W.drewN k) _ _ _ (fun e => hn (by rw [e]))⟩ : W.grownBy ((W.drewN k).setCell ⟨w.heap.size + 1 + 1, 0, none⟩ (.int .i64 code)) (some (w.heap.size + 1 + 1))) (fun r e => by cases e; omega), isBlk.set (w := W.drewN k) a4 0 (.int .i64 code)⟩
    have hsee2 : Valid d.n ⟨src, dst, x3⟩ → ∀ k, Calls Try.prog g (#[.agg #[.int .u32 src, .int .u32 dst, .int .u32 x3]] ++ caps) (W.drewN k) fun e W' => (∃ v, e = .returned v) ∧ (KeepsFrom W0.heap.size W W' ∧ KeepB [b1, b2, eb] W W') ∧ (I (p ++ [⟨src, dst, x3⟩]) W' ∧ Chg R w W') ∧ isBlk W' w.heap.size 58 [.pointer (some ⟨db, 0, none⟩)] ∧ isBlk W' (w.heap.size + 1) 72 [.func (.func g) #[] caps] ∧ isBlk W' (w.heap.size + 1 + 1) 36 [.int .i64 0] := by
      intro hvv k
      obtain ⟨hIk, _⟩ := hstab p W (W.drewN k) none hIp hc ⟨rfl, rfl, rfl, Nat.le_refl _, fun j hj hn => rfl⟩ (fun r e => by cases e)
      refine (hsee p ⟨src, dst, x3⟩ (W.drewN k) hvv hIk hzz).mono ?_
      rintro e W' ⟨hve, hIW, hcW'⟩
      have hcW : Chg R W W' := ⟨hcW'.os, hcW'.tape, hcW'.output, hcW'.size, hcW'.block⟩
      clear hcW'
      have hl2 := a2.lt
      have hl3 := a3.lt
      have hkeep : ∀ j, j < W.heap.size → w.heap.size ≤ j → W'.heap[j]? = W.heap[j]? := fun j h1 h2 => hcW.block j h1 (fun hr => by have := hR j hr; omega)
      refine ⟨hve, ⟨⟨hcW.size, fun k o hB hk _ => (hkeep k (Array.getElem?_eq_some_iff.1 hk).1 (by omega)).trans hk⟩, hcW.size, fun j hj => ?_⟩, ⟨hIW, hc.trans hcW⟩, ?_, ?_, ?_⟩
      · simp only [List.mem_cons, List.not_mem_nil, or_false] at hj
        rcases hj with rfl | rfl | rfl
        · exact hcW.block _ (by omega) hRb.1
        · exact hcW.block _ (by omega) hRb.2.1
        · exact hcW.block _ (by omega) hRb.2.2
      · unfold isBlk at a2 ⊢; rw [hkeep _ hl2 (by omega)]; exact a2
      · unfold isBlk at a3 ⊢; rw [hkeep _ hl3 (by omega)]; exact a3
      · unfold isBlk at a4 ⊢; rw [hkeep _ hl4 (by omega)]; exact a4
    have HST := Lib.hid hset
    have HSE := Lib.hid hsee2
    clear hset hsee2 hc
    by_cases he : err = 0
    · subst he
      by_cases hv1 : Valid d.n ⟨src, dst, x3⟩
      · have hs1 : ¬ (d.n : Int) ≤ (src : Int) := by have := hv1.1; simp only [] at this; omega
        have hs2 : ¬ (d.n : Int) ≤ (dst : Int) := by have := hv1.2; simp only [] at this; omega
        have HSV := Lib.hid (HSE.out hv1)
        have HV1 := Lib.hid hv1
        clear HSE hv1
        gi_wp2
        have hmx : Try.prog.follows .mixedOrders = true := by kernel_rfl
        have hn1 : ¬ d.n ≤ src := by omega
        have hn2 : ¬ d.n ≤ dst := by omega
        refine round_region_quiet (by kernel_rfl) (by assumption) (by kernel_rfl) ?_
        repeat (gi_big_quiet_step (fail))
        refine wpQuietIn_nil ?_
        intro _ hw'
        obtain ⟨nq, hw''⟩ := hw'
        subst hw''
        gi_wp2
        refine ⟨trivial, ?_⟩
        refine ⟨fun _ => by omega, ?_⟩
        refine (CallsIn.inRound l (callsIn_wide.2 (weighs_any db d f' (x3 : Nat) (W.drewN nq) hd'))).mono ?_
        rintro e w' ⟨rfl, rfl⟩
        gi_wp2
        refine ⟨trivial, ?_⟩
        refine ⟨fun _ => by omega, ?_⟩
        refine (CallsIn.inRound l (callsIn_wide.2 (HSV.out nq))).mono ?_
        rintro e w' ⟨⟨v, rfl⟩, ⟨k1, k2⟩, ⟨k3, k4⟩, k5, k6, k7⟩
        gi_wp2
        refine ⟨k1, k2, ⟨p ++ [⟨src, dst, x3⟩], by simp [hp], ?_, k3, k4⟩, k5, k6, k7⟩
        intro e he
        rcases List.mem_append.1 he with h | h
        · exact HV.out e h
        · rw [List.mem_singleton] at h
          rw [h]
          exact HV1.out
      · by_cases hs : src < d.n
        · have hs1 : ¬ (d.n : Int) ≤ (src : Int) := by omega
          have hs2 : (d.n : Int) ≤ (dst : Int) := by have : ¬ dst < d.n := fun h => hv1 ⟨hs, h⟩; omega
          have HV1 := Lib.hid hv1
          clear HSE hv1 hs
          gi_wp2
          have hmx : Try.prog.follows .mixedOrders = true := by kernel_rfl
          have hn1 : ¬ d.n ≤ src := by omega
          have hn2 : d.n ≤ dst := by omega
          refine round_region_quiet (by kernel_rfl) (by assumption) (by kernel_rfl) ?_
          repeat (gi_big_quiet_step (fail))
          refine wpQuietIn_nil ?_
          intro _ hw'
          obtain ⟨nq, hw''⟩ := hw'
          subst hw''
          gi_wp2
          exact ⟨(HST.out nq 91).1, rfl, p, (⟨src, dst, x3⟩, 0), 91, by rw [hp], HV.out, Or.inr ⟨rfl, HV1.out, rfl⟩, (HST.out nq 91).2.1, (HST.out nq 91).2.2⟩
        · have hs1 : (d.n : Int) ≤ (src : Int) := by omega
          have HV1 := Lib.hid hv1
          clear HSE hv1 hs
          gi_wp2
          have hmx : Try.prog.follows .mixedOrders = true := by kernel_rfl
          refine round_region_quiet (by kernel_rfl) (by assumption) (by kernel_rfl) ?_
          repeat (gi_big_quiet_step (fail))
          refine wpQuietIn_nil ?_
          intro _ hw'
          obtain ⟨nq, hw''⟩ := hw'
          subst hw''
          gi_wp2
          exact ⟨(HST.out nq 91).1, rfl, p, (⟨src, dst, x3⟩, 0), 91, by rw [hp], HV.out, Or.inr ⟨rfl, HV1.out, rfl⟩, (HST.out nq 91).2.1, (HST.out nq 91).2.2⟩
    · have he' : ((err : Int) != 0) = true := by rw [bne_iff_ne]; omega
      have HE := Lib.hid he
      clear he HSE
      rw [show W0.heap.size = w.heap.size + 3 from hsz] at HST
      gi_wp2
      exact ⟨(HST.out 0 err).1, rfl, p, ⟨src, dst, x3⟩, err, rfl, HV.out, err, Or.inl ⟨HE.out, rfl⟩, (HST.out 0 err).2.1, (HST.out 0 err).2.2⟩
  case done =>
    rintro D ys W hDD rfl ⟨⟨p, hp, hv, hIp, hc⟩, a2, a3, a4⟩ hK
    obtain ⟨rfl, rfl⟩ := feed_all hp.symm
    have hall : allValid d.n p = true := by unfold allValid; rw [List.all_eq_true]; intro e he; exact decide_eq_true (hv e he)
    have hov : overErr d.n p 0 = 0 := by unfold overErr; rw [if_pos hall]
    have c4 : W.cell? ⟨w.heap.size + 1 + 1, 0, none⟩ = some (.int .i64 0) := a4.cell 0
    have f4 := a4.frozen 0
    clear hp
    gi_wp2
    have hK' := (KeepsOthers.setCell W ⟨w.heap.size + 1 + 1, 0, none⟩ (.int .i64 0)).same D _ hK rfl
    refine ⟨by simp, .inl ⟨_, _, rfl, run_takeDeferred hK', ?_⟩⟩
    obtain ⟨x1, x2⟩ := hstab p W _ (some (w.heap.size + 1 + 1)) hIp hc (⟨rfl, rfl, rfl, by simp, fun j hj hn => Below.heap_setCell _ _ _ _ (fun e => hn (by rw [e]))⟩ : W.grownBy (W.setCell ⟨w.heap.size + 1 + 1, 0, none⟩ (.int .i64 0)) (some (w.heap.size + 1 + 1))) (fun r e => by cases e; omega)
    obtain ⟨x3, x4⟩ := hstab p _ _ (some D) x1 x2 (grownBy_putObj' _ D (.deferred none)) (fun r e => by cases e; omega)
    have a5 := (a4.set 0 (.int .i64 0)).grown (grownBy_putObj' _ D (.deferred none)) (by intro e; cases e; omega)
    have c5 : (((W.setCell ⟨w.heap.size + 1 + 1, 0, none⟩ (.int .i64 0)).putObj D (.deferred none))).cell? ⟨w.heap.size + 1 + 1, 0, none⟩ = some (.int .i64 0) := a5.cell 0
    refine ⟨.int .i64 0, ?_, p, by rw [hov]; rfl, fun _ => rfl, x3, x4⟩
    simp [results, Try.f35, go_sem, c5]
  case stop =>
    rintro D c pre W hDD hpre ⟨rfl, q, x, code, e1, e2, e3, ⟨hIp, hc⟩, a4⟩ hK
    have c4 : W.cell? ⟨w.heap.size + 1 + 1, 0, none⟩ = some (.int .i64 code) := a4.cell 0
    have f4 := a4.frozen 0
    rw [e1] at hpre
    obtain ⟨hcode, hqe⟩ := feed_some hpre e2 e3
    have HCD := Lib.hid hcode
    clear hcode e3
    gi_wp2
    refine ⟨by simp, .inl ⟨_, _, rfl, run_takeDeferred hK, ?_⟩⟩
    obtain ⟨x3, x4⟩ := hstab q _ _ (some D) hIp hc (grownBy_putObj' _ D (.deferred none)) (fun r e => by cases e; omega)
    have a5 := a4.grown (grownBy_putObj' _ D (.deferred none)) (by intro e; cases e; omega)
    have c5 : (W.putObj D (.deferred none)).cell? ⟨w.heap.size + 1 + 1, 0, none⟩ = some (.int .i64 code) := a5.cell 0
    refine ⟨.int .i64 code, ?_, q, by rw [HCD.out], hqe, x3, x4⟩
    simp [results, Try.f35, go_sem, c5]

theorem over_any (db b1 b2 g : Nat) (caps : Array Value) (eg : ∀ args w, (callFunc g args).run Try.prog w = .ok (.enter g args) w) (d : Dk) (a : Option Addr) (cap eb eo : Nat) (es : List Ed) (beh : Nat) (R : Nat → Prop) (I : List Ed → World → Prop) (w : World)
    (hfv : d.fv = .func (.func 41) #[] #[.pointer (some ⟨b1, 0, none⟩), .pointer (some ⟨b2, 0, none⟩)]) (hreach : es.length * 12 ≤ 140737488351232) (heb : eb < w.heap.size)
    (h1 : w.cell? ⟨b1, 0, none⟩ = some (.slice a es.length cap)) (h2 : w.cell? ⟨b2, 0, none⟩ = some (.int .i64 beh)) (hE : IsEds w a eb eo es)
    (hR : ∀ j, R j → j < w.heap.size) (hRb : ¬ R b1 ∧ ¬ R b2 ∧ ¬ R eb)
    (hD : ∀ p W, I p W → ∃ f, isBlk W db 75 (d.cells f))
    (hI : ∀ p W W', I p W → (∀ j, j < w.heap.size → W'.heap[j]? = W.heap[j]?) → W.heap.size ≤ W'.heap.size → I p W')
    (hsee : ∀ p x W, Valid d.n x → I p W → w.heap.size ≤ W.heap.size → Calls Try.prog g (#[.agg #[.int .u32 x.src, .int .u32 x.dst, .int .u32 x.w]] ++ caps) W fun e W' => (∃ v, e = .returned v) ∧ I (p ++ [x]) W' ∧ Chg R W W')
    (h0 : I [] w) :
    Calls Try.prog 35 #[.pointer (some ⟨db, 0, none⟩), .func (.func g) #[] caps] w fun e w' =>
      ∃ p, e = .returned (.int .i64 (overErr d.n es beh)) ∧ (allValid d.n es = true → p = es) ∧ I p w' ∧ Chg R w w' :=
  callsIn_wide.1 (over_in 8 (Nat.le_refl 8) db b1 b2 g caps eg d a cap eb eo es beh R I w hfv hreach heb h1 h2 hE hR hRb hD hI hsee h0)

end Go.Proofs.Ytohmeobfiomfdaa
