/-
  The ring of an audit of strong components: the walk.
-/
import Derived.Test.YtohmeobfiomfdaaPlain
import Derived.Lib.SliceRun
namespace Go.Proofs.Ytohmeobfiomfdaa
open Go.RowKit Go.Shelf
set_option maxRecDepth 100000

/-- What Feed hands out, as it lies. -/
structure Fed (w : World) (b1 b2 eb eo : Nat) (a : Option Addr) (cap : Nat) (es : List Ed) (beh : Nat) : Prop where
  c1 : w.cell? ⟨b1, 0, none⟩ = some (.slice a es.length cap)
  c2 : w.cell? ⟨b2, 0, none⟩ = some (.int .i64 beh)
  e : IsEds w a eb eo es
  lt : eb < w.heap.size
  r : es.length * 12 ≤ 140737488351232
theorem Fed.keep {w w' : World} {b1 b2 eb eo cap beh : Nat} {a : Option Addr} {es : List Ed} (h : Fed w b1 b2 eb eo a cap es beh) (hk : ∀ j, j < w.heap.size → j = b1 ∨ j = b2 ∨ j = eb → w'.heap[j]? = w.heap[j]?) (hz : w.heap.size ≤ w'.heap.size) : Fed w' b1 b2 eb eo a cap es beh where
  c1 := (cell_heap (a := ⟨b1, 0, none⟩) (hk _ (World.block_lt_of_cell? w _ h.c1) (Or.inl rfl))).trans h.c1
  c2 := (cell_heap (a := ⟨b2, 0, none⟩) (hk _ (World.block_lt_of_cell? w _ h.c2) (Or.inr (Or.inl rfl)))).trans h.c2
  e := h.e.keep (fun _ => hk _ h.lt (Or.inr (Or.inr rfl))) hz
  lt := Nat.lt_of_lt_of_le h.lt hz
  r := h.r
def feedFn (b1 b2 : Nat) : Value := .func (.func 41) #[] #[.pointer (some ⟨b1, 0, none⟩), .pointer (some ⟨b2, 0, none⟩)]

theorem size_setCells (b : Nat) : ∀ (vs : List Value) (o : Nat) (w : World), (w.setCells b o vs).heap.size = w.heap.size
  | [], _, _ => rfl
  | v :: r, o, w => by rw [World.setCells, size_setCells b r, World.size_setCell]
theorem Wds.zapped {w : World} {rb : Nat} {l : List Nat} (h : Wds w rb l) (o n : Nat) (hn : o + n ≤ l.length) : Wds (w.setCells rb o (List.replicate n (.int .u64 0))) rb (zap l o n) where
  lt := by rw [size_setCells]; exact h.lt
  c := fun j hj => by
    rw [zap_len] at hj
    have hg : (zap l o n)[j]'(by rw [zap_len]; exact hj) = if o ≤ j ∧ j < o + n then 0 else l[j] := by
      have := zap_get l o n j
      rw [List.getD_eq_getElem?_getD, List.getD_eq_getElem?_getD, List.getElem?_eq_getElem (by rw [zap_len]; exact hj), List.getElem?_eq_getElem hj] at this
      exact this
    rw [hg]
    by_cases hc : o ≤ j ∧ j < o + n
    · rw [if_pos hc]
      obtain ⟨t, rfl⟩ : ∃ t, j = o + t := ⟨j - o, by omega⟩
      rw [World.cell?_setCells_in _ _ _ _ (fun i hi => by rw [List.length_replicate] at hi; rw [h.c (o + i) (by omega)]; rfl) t (by rw [List.length_replicate]; omega), List.getElem_replicate]
      rfl
    · rw [if_neg hc, World.cell?_setCells_out _ _ _ _ _ (fun _ => by rw [List.length_replicate]; simp only []; omega)]
      exact h.c j hj
  f := fun j => by rw [World.frozen?_setCells]; exact h.f j

theorem Chg.zapped {R : Nat → Prop} {a b : World} (h : Chg R a b) {rb : Nat} (hp : R rb) (o : Nat) (vs : List Value) : Chg R a (b.setCells rb o vs) := by
  induction vs generalizing b o with
  | nil => exact h
  | cons v vs ih => exact ih (h.set (p := ⟨rb, o, none⟩) (Or.inl hp) v) (o + 1)

theorem zeroV (w : World) : (zeroValue 28).run Try.prog w = .ok (.int .u64 0) w := by kernel_rfl
theorem clear_run (w : World) (rb o n c : Nat) (l : List Nat) (h : Wds w rb l) (hn : 0 < n) (hl : o + n ≤ l.length) (ty : TypeId) :
    (Builtin.clear_ #[32] ty #[.slice (some ⟨rb, o, none⟩) n c]).run Try.prog w = .ok (.tuple #[]) (w.setCells rb o (List.replicate n (.int .u64 0))) :=
  Lib.run_clear_slice w 32 28 ty (.int .u64 0) Try.underlying32 zeroV rfl rfl rb o n c hn (fun j hj => by rw [h.c (o + j) (by omega)]; rfl) (fun j _ => h.f (o + j))

theorem Env2.at {w w' : World} {pb tb bb db sb so rb n cs ct cb : Nat} {ss : List St} (h : Env2 w pb tb bb db sb so rb n cs ct cb ss) (hk : ∀ j, j = pb ∨ j = tb ∨ j = bb ∨ j = sb ∧ 0 < ss.length → w'.heap[j]? = w.heap[j]?) (hz : w.heap.size ≤ w'.heap.size) : Env2 w' pb tb bb db sb so rb n cs ct cb ss where
  p := (cell_heap (a := ⟨pb, 0, none⟩) (hk _ (Or.inl rfl))).trans h.p
  t := (cell_heap (a := ⟨tb, 0, none⟩) (hk _ (Or.inr (Or.inl rfl)))).trans h.t
  b := (cell_heap (a := ⟨bb, 0, none⟩) (hk _ (Or.inr (Or.inr (Or.inl rfl))))).trans h.b
  s := h.s.keep (fun h0 => hk _ (Or.inr (Or.inr (Or.inr ⟨rfl, h0⟩)))) hz
  np := h.np
  nt := h.nt
  nb := h.nb
  ns := h.ns
  nd := h.nd
theorem Env2.lt {w : World} {pb tb bb db sb so rb n cs ct cb : Nat} {ss : List St} (h : Env2 w pb tb bb db sb so rb n cs ct cb ss) : ∀ j, j = pb ∨ j = tb ∨ j = bb ∨ j = sb ∧ 0 < ss.length → j < w.heap.size := by
  rintro j (rfl | rfl | rfl | ⟨rfl, h0⟩)
  · exact World.block_lt_of_cell? w _ h.p
  · exact World.block_lt_of_cell? w _ h.t
  · exact World.block_lt_of_cell? w _ h.b
  · exact h.s.lt h0

/-- The verdict, with its three words by name. -/
theorem verdict_x (db : Nat) (d : Dk) (f : Fd) (er : Nat) (w : World) (h : isBlk w db 75 (d.cells f)) :
    Calls Try.prog 37 #[.pointer (some ⟨db, 0, none⟩), .int .i64 er] w fun e w' => ∃ (x : Bool) (y z : Nat), Hid (verdC er f = #[.bool x, .int .u32 y, .int .i64 z]) ∧ e = .returned (.tuple #[.agg #[.bool x, .int .u32 y, .int .i64 z], .int .i64 er]) ∧ Below w.heap.size w w' := by
  refine (verdict_any db d f er w h).mono ?_
  rintro e w' ⟨rfl, hb⟩
  obtain ⟨x, y, z, hv⟩ : ∃ (x : Bool) (y z : Nat), verdC er f = #[.bool x, .int .u32 y, .int .i64 z] := by
    unfold verdC
    split
    · exact ⟨_, 0, 0, rfl⟩
    · split
      · exact ⟨_, 0, 0, rfl⟩
      · exact ⟨_, _, _, rfl⟩
  exact ⟨x, y, z, Lib.hid hv, by rw [hv], hb⟩

theorem verdict_x0 (db : Nat) (d : Dk) (f : Fd) (w : World) (h : isBlk w db 75 (d.cells f)) :
    Calls Try.prog 37 #[.pointer (some ⟨db, 0, none⟩), .int .i64 0] w fun e w' => ∃ (x : Bool) (y z : Nat), Hid (verdC 0 f = #[.bool x, .int .u32 y, .int .i64 z]) ∧ e = .returned (.tuple #[.agg #[.bool x, .int .u32 y, .int .i64 z], .int .i64 0]) ∧ Below w.heap.size w w' :=
  verdict_x db d f 0 w h

/-- The blocks of Feed, the states, the desk and the room are apart. -/
structure Apart (b1 b2 eb sb db rb : Nat) : Prop where
  x1 : b1 ≠ db ∧ b1 ≠ rb
  x2 : b2 ≠ db ∧ b2 ≠ rb
  x3 : eb ≠ db ∧ eb ≠ rb
  x4 : sb ≠ db ∧ sb ≠ rb
  x5 : db ≠ rb

theorem ring_over (pb tb bb db sb so rb n cs ct cb b1 b2 eb eo : Nat) (a : Option Addr) (cap : Nat) (es : List Ed) (beh : Nat) (ss : List St) (f : Fd) (l : List Nat) (w : World)
    (hd : isBlk w db 75 ((⟨n, feedFn b1 b2, .slice (some ⟨sb, so, none⟩) n cs⟩ : Dk).cells f)) (hE : Env2 w pb tb bb db sb so rb n cs ct cb ss) (hss : ss.length = n) (hnl : n + n ≤ l.length) (hlab : ∀ v, v < n → lab ss v < n)
    (hw : Wds w rb l) (hF : Fed w b1 b2 eb eo a cap es beh) (hA : Apart b1 b2 eb sb db rb) :
    Calls Try.prog 35 #[.pointer (some ⟨db, 0, none⟩), .func (.func 66) #[] #[.pointer (some ⟨pb, 0, none⟩), .pointer (some ⟨tb, 0, none⟩), .pointer (some ⟨bb, 0, none⟩)]] w fun e w' =>
      ∃ p, e = .returned (.int .i64 (overErr n es beh)) ∧ (allValid n es = true → p = es) ∧ (isBlk w' db 75 ((⟨n, feedFn b1 b2, .slice (some ⟨sb, so, none⟩) n cs⟩ : Dk).cells f) ∧ Wds w' rb (p.foldl (fun l e => ledL ss n e l) l) ∧ Env2 w' pb tb bb db sb so rb n cs ct cb ss) ∧ (p.foldl (fun l e => ledL ss n e l) l).length = l.length ∧ (∀ j, n + n ≤ j → (p.foldl (fun l e => ledL ss n e l) l).getD j 0 = l.getD j 0) ∧ Chg (fun j => j = rb) w w' := by
  have hdl := hd.lt
  have hrl := hw.lt
  refine (over_any db b1 b2 66 _ (enters_of Try.func66 (by kernel_rfl) rfl) ⟨n, feedFn b1 b2, .slice (some ⟨sb, so, none⟩) n cs⟩ a cap eb eo es beh (fun j => j = rb)
    (fun p W => (isBlk W db 75 ((⟨n, feedFn b1 b2, .slice (some ⟨sb, so, none⟩) n cs⟩ : Dk).cells f) ∧ Wds W rb (p.foldl (fun l e => ledL ss n e l) l) ∧ Env2 W pb tb bb db sb so rb n cs ct cb ss) ∧ (p.foldl (fun l e => ledL ss n e l) l).length = l.length ∧ ∀ j, n + n ≤ j → (p.foldl (fun l e => ledL ss n e l) l).getD j 0 = l.getD j 0) w rfl hF.r hF.lt hF.c1 hF.c2 hF.e
    (fun j hj => by rw [hj]; exact hrl) ⟨hA.x1.2, hA.x2.2, hA.x3.2⟩ (fun p W h => ⟨f, h.1.1⟩) ?_ ?_ ⟨⟨hd, hw, hE⟩, rfl, fun _ _ => rfl⟩).mono ?_
  · rintro p W W' ⟨⟨h1, h2, h3⟩, h4⟩ hk hz
    refine ⟨⟨?_, h2.keep (hk _ hrl) hz, h3.at (fun j hj => hk _ (hE.lt j hj)) hz⟩, h4⟩
    unfold isBlk at h1 ⊢; rw [hk _ hdl]; exact h1
  · rintro p x W hx ⟨⟨h1, h2, h3⟩, h4, h5⟩ hz
    refine (f66_any pb tb bb db sb so rb n cs ct cb ss _ f _ x W h3 rfl hss (by rw [h4]; exact hnl) hx hlab h1 h2).mono ?_
    rintro e W' ⟨h6, h7, h8, h9⟩
    refine ⟨h6, ⟨⟨h7, ?_, h3.chg (h9.mono (fun j hj => Or.inr hj))⟩, ?_, ?_⟩, h9⟩
    · rw [List.foldl_append]; exact h8
    · rw [List.foldl_append, List.foldl_cons, List.foldl_nil, ledL_len]; exact h4
    · intro j hj
      rw [List.foldl_append, List.foldl_cons, List.foldl_nil, ledL_get _ _ _ _ _ (by have := hlab _ hx.2; omega), if_neg (fun h => by have := hlab _ hx.2; omega)]
      exact h5 j hj
  · rintro e w' ⟨p, rfl, h1, ⟨h2, h3, h4⟩, h5⟩
    exact ⟨p, rfl, h1, h2, h3, h4, h5⟩

theorem overErr_ok {n : Nat} {es : List Ed} {beh : Nat} (h : overErr n es beh = 0) : allValid n es = true ∧ beh = 0 := by
  unfold overErr at h
  split at h
  · rename_i hv; exact ⟨hv, h⟩
  · cases h
theorem allValid_mem {n : Nat} {es : List Ed} (h : allValid n es = true) : ∀ e, e ∈ es → Valid n e := by
  intro e he
  unfold allValid at h
  exact of_decide_eq_true (List.all_eq_true.1 h e he)

theorem ring_each (pb tb bb db sb so rb n cs ct cb b1 b2 : Nat) (ss : List St) (f : Fd) (l : List Nat) (w : World)
    (hd : isBlk w db 75 ((⟨n, feedFn b1 b2, .slice (some ⟨sb, so, none⟩) n cs⟩ : Dk).cells f)) (hE : Env2 w pb tb bb db sb so rb n cs ct cb ss) (hss : ss.length = n) (hn : n ≤ 5000) (hnl : n + n ≤ l.length) (hlab : ∀ v, v < n → lab ss v < n)
    (hw : Wds w rb l) :
    Calls Try.prog 32 #[.pointer (some ⟨db, 0, none⟩), .func (.func 67) #[] #[.pointer (some ⟨pb, 0, none⟩), .pointer (some ⟨tb, 0, none⟩)]] w fun e w' =>
      (∃ x, e = .returned x) ∧ isBlk w' db 75 ((⟨n, feedFn b1 b2, .slice (some ⟨sb, so, none⟩) n cs⟩ : Dk).cells (notedK f 3 (fun v => l.getD (lab ss v) 0 == 0) n)) ∧ Wds w' rb l ∧ Chg (fun j => j = db) w w' := by
  subst hss
  have hdl := hd.lt
  have hrl := hw.lt
  refine (each_any db 67 _ (enters_of Try.func67 (by kernel_rfl) rfl) ⟨ss.length, feedFn b1 b2, .slice (some ⟨sb, so, none⟩) ss.length cs⟩ f (some ⟨sb, so, none⟩) cs sb so ss (fun j => j = db)
    (fun k W => isBlk W db 75 ((⟨ss.length, feedFn b1 b2, .slice (some ⟨sb, so, none⟩) ss.length cs⟩ : Dk).cells (notedK f 3 (fun v => l.getD (lab ss v) 0 == 0) k)) ∧ Wds W rb l ∧ Env2 W pb tb bb db sb so rb ss.length cs ct cb ss) w hd rfl (by omega)
    (fun k W h => h.2.2.s) ?_ ?_ ⟨hd, hw, hE⟩).mono ?_
  · rintro k W W' ⟨h1, h2, h3⟩ hk hz
    refine ⟨?_, h2.keep (hk _ hrl) hz, h3.at (fun j hj => hk _ (hE.lt j hj)) hz⟩
    unfold isBlk at h1 ⊢; rw [hk _ hdl]; exact h1
  · rintro k W hk ⟨h1, h2, h3⟩ hz
    have hla := lab_get hk
    refine (f67_any pb tb bb db sb so rb ss.length cs ct cb ss _ _ l k ss[k] W h3 hnl (by rw [hla]; exact hlab k hk) h1 h2).mono ?_
    rintro e W' ⟨h6, h7, h8⟩
    rw [hla] at h7
    exact ⟨h6, ⟨h7, h2.keep (h8.block _ h2.lt (fun e => hE.nd e.symm)) h8.size, h3.chg (h8.mono (fun j hj => Or.inl hj))⟩, h8⟩
  · rintro e w' ⟨h1, ⟨h2, h3, _⟩, h4⟩
    exact ⟨h1, h2, h3, h4⟩

def RingEnd (n : Nat) (ss : List St) (es : List Ed) (beh : Nat) (f : Fd) (l : List Nat) (db rb : Nat) (w : World) (e : Ending) (w' : World) : Prop :=
  ∃ (x : Bool) (y z : Nat) (f' : Fd) (l' : List Nat), verdC (overErr n es beh) f' = #[.bool x, .int .u32 y, .int .i64 z] ∧ e = .returned (.tuple #[.agg #[.bool x, .int .u32 y, .int .i64 z], .int .i64 (overErr n es beh)]) ∧
    (overErr n es beh = 0 → ∃ p : Nat → Bool, (∀ v, v < n → (p v = true ↔ InKnot ss es (lab ss v))) ∧ f' = notedK f 3 p n) ∧ Wds w' rb l' ∧ l'.length = l.length ∧ (∀ j, n + n ≤ j → l'.getD j 0 = l.getD j 0) ∧ Chg (Two db rb) w w'

/-- What stands in memory while the ring is looked for. -/
structure RingW (vb pb tb bb db sb so rb n cs ct cb b1 b2 eb eo : Nat) (a : Option Addr) (cap : Nat) (es : List Ed) (beh : Nat) (ss : List St) (f : Fd) (w : World) (l' : List Nat) (W : World) : Prop where
  d : isBlk W db 75 ((⟨n, feedFn b1 b2, .slice (some ⟨sb, so, none⟩) n cs⟩ : Dk).cells f)
  e : Env2 W pb tb bb db sb so rb n cs ct cb ss
  wd : Wds W rb l'
  v : isBlk W vb 35 [.bool false, .int .u32 0, .int .i64 0]
  fe : Fed W b1 b2 eb eo a cap es beh
  c : Chg (Two db rb) w W
theorem RingW.go {vb pb tb bb db sb so rb n cs ct cb b1 b2 eb eo : Nat} {a : Option Addr} {cap : Nat} {es : List Ed} {beh : Nat} {ss : List St} {f : Fd} {w : World} {l' : List Nat} {W : World}
    (h : RingW vb pb tb bb db sb so rb n cs ct cb b1 b2 eb eo a cap es beh ss f w l' W) (hA : Apart b1 b2 eb sb db rb) (hv : vb ≠ rb) {W' : World} {l'' : List Nat} (hc : Chg (fun j => j = rb) W W') (hw : Wds W' rb l'') :
    RingW vb pb tb bb db sb so rb n cs ct cb b1 b2 eb eo a cap es beh ss f w l'' W' where
  d := by have := h.d; have hl := this.lt; unfold isBlk at this ⊢; rw [hc.block _ hl hA.x5]; exact this
  e := h.e.chg (hc.mono (fun _ h => Or.inr h))
  wd := hw
  v := by have := h.v; have hl := this.lt; unfold isBlk at this ⊢; rw [hc.block _ hl hv]; exact this
  fe := h.fe.keep (fun j hj hx => hc.block _ hj (by
    rcases hx with rfl | rfl | rfl
    · exact hA.x1.2
    · exact hA.x2.2
    · exact hA.x3.2)) hc.size
  c := h.c.trans (hc.mono (fun _ h => Or.inr h))

theorem set3 {w : World} {b : Nat} {T : TypeId} {x0 x1 x2 : Value} (h : isBlk w b T [x0, x1, x2]) (y0 y1 y2 : Value) :
    isBlk (((w.setCell ⟨b, 0, none⟩ y0).setCell ⟨b, 1, none⟩ y1).setCell ⟨b, 2, none⟩ y2) b T [y0, y1, y2] ∧ Chg (fun j => j = b) w (((w.setCell ⟨b, 0, none⟩ y0).setCell ⟨b, 1, none⟩ y1).setCell ⟨b, 2, none⟩ y2) :=
  ⟨((h.set 0 y0).set 1 y1).set 2 y2, ((((Chg.refl (fun j => j = b) w).set (p := ⟨b, 0, none⟩) (Or.inl rfl) y0).set (p := ⟨b, 1, none⟩) (Or.inl rfl) y1).set (p := ⟨b, 2, none⟩) (Or.inl rfl) y2)⟩

theorem RingEnd.mk {n : Nat} {ss : List St} {es : List Ed} {beh : Nat} {f f' : Fd} {l l' : List Nat} {db rb vb : Nat} {w w1 w2 w' : World} {e : Ending} (er : Nat) (x : Bool) (y z : Nat)
    (ho : overErr n es beh = er) (hv : verdC er f' = #[.bool x, .int .u32 y, .int .i64 z]) (he : e = .returned (.tuple #[.agg #[.bool x, .int .u32 y, .int .i64 z], .int .i64 er]))
    (hp : er = 0 → ∃ p : Nat → Bool, (∀ v, v < n → (p v = true ↔ InKnot ss es (lab ss v))) ∧ f' = notedK f 3 p n) (hw : Wds w1 rb l') (h1 : l'.length = l.length) (h2 : ∀ j, n + n ≤ j → l'.getD j 0 = l.getD j 0)
    (hc : Chg (Two db rb) w w1) (hb : Below w1.heap.size w1 w2) (hvz : w.heap.size ≤ vb) (hvr : vb ≠ db ∧ vb ≠ rb) (h3 : Chg (fun j => j = vb) w2 w') : RingEnd n ss es beh f l db rb w e w' := by
  subst ho
  have hrl := hw.lt
  refine ⟨x, y, z, f', l', hv, he, hp, ?_, h1, h2, ?_⟩
  · exact (hw.keep (w' := w2) (hb.block _ hrl) hb.size).keep (h3.block _ (Nat.lt_of_lt_of_le hrl hb.size) hvr.2.symm) h3.size
  · have hc2 : Chg (Two db rb) w w2 := hc.trans (Chg.of_below hb)
    exact ⟨h3.os.trans hc2.os, h3.tape.trans hc2.tape, h3.output.trans hc2.output, Nat.le_trans hc2.size h3.size, fun j hj hn => (h3.block j (Nat.lt_of_lt_of_le hj hc2.size) (by omega)).trans (hc2.block j hj hn)⟩

structure RingRel (n : Nat) (es : List Ed) (beh : Nat) (ss : List St) (l : List Nat) (gk : Nat) (ag : Bool) (l' : List Nat) : Prop where
  len : l'.length = l.length
  far : ∀ j, n + n ≤ j → l'.getD j 0 = l.getD j 0
  k : allValid n es = true → KInv ss es n l'
  cl : ag = false → overErr n es beh = 0 ∧ Closed ss es (fun b => b < n ∧ l'.getD b 0 = 0)
  z : zeros l' n + (if ag then 1 else 0) ≤ gk

set_option maxHeartbeats 4000000 in
theorem ring_any (db sb so rb n cs ct cb b1 b2 eb eo : Nat) (a : Option Addr) (cap : Nat) (es : List Ed) (beh : Nat) (ss : List St) (f : Fd) (l : List Nat) (w : World)
    (hd : isBlk w db 75 ((⟨n, feedFn b1 b2, .slice (some ⟨sb, so, none⟩) n cs⟩ : Dk).cells f)) (hs : IsSts w (some ⟨sb, so, none⟩) sb so ss) (hss : ss.length = n) (hn1 : 1 ≤ n) (hnl : n + n ≤ l.length) (hl : l.length ≤ 5000) (hlab : ∀ v, v < n → lab ss v < n ∧ lab ss (lab ss v) = lab ss v)
    (hw : Wds w rb l) (hF : Fed w b1 b2 eb eo a cap es beh) (hA : Apart b1 b2 eb sb db rb) :
    Calls Try.prog 39 #[.pointer (some ⟨db, 0, none⟩), .slice (some ⟨rb, 0, none⟩) n ct, .slice (some ⟨rb, n, none⟩) n cb] w (RingEnd n ss es beh f l db rb w) := by
  have hdl := hd.lt
  have hrl := hw.lt
  have hsl := hs.lt (by omega)
  go_enter Try.func39, Try.ntmps39
  go_upto_region 1 with fail
  have k3 := ((isBlk.new w 58 [.pointer (some ⟨db, 0, none⟩)]).old (.cells #[.slice (some ⟨rb, 0, none⟩) n ct] 32)).old (.cells #[.slice (some ⟨rb, n, none⟩) n cb] 32) |>.old (.cells #[.bool false, .int .u32 0, .int .i64 0] 35)
  have k4 := ((isBlk.new (w.alloc (.cells #[.pointer (some ⟨db, 0, none⟩)] 58)) 32 [.slice (some ⟨rb, 0, none⟩) n ct]).old (.cells #[.slice (some ⟨rb, n, none⟩) n cb] 32)).old (.cells #[.bool false, .int .u32 0, .int .i64 0] 35)
  have k5 := (isBlk.new ((w.alloc (.cells #[.pointer (some ⟨db, 0, none⟩)] 58)).alloc (.cells #[.slice (some ⟨rb, 0, none⟩) n ct] 32)) 32 [.slice (some ⟨rb, n, none⟩) n cb]).old (.cells #[.bool false, .int .u32 0, .int .i64 0] 35)
  have k6 := isBlk.new (((w.alloc (.cells #[.pointer (some ⟨db, 0, none⟩)] 58)).alloc (.cells #[.slice (some ⟨rb, 0, none⟩) n ct] 32)).alloc (.cells #[.slice (some ⟨rb, n, none⟩) n cb] 32)) 35 [.bool false, .int .u32 0, .int .i64 0]
  simp only [World.size_alloc] at k3 k4 k5 k6
  have hB0 : Below w.heap.size w ((((w.alloc (.cells #[.pointer (some ⟨db, 0, none⟩)] 58)).alloc (.cells #[.slice (some ⟨rb, 0, none⟩) n ct] 32)).alloc (.cells #[.slice (some ⟨rb, n, none⟩) n cb] 32)).alloc (.cells #[.bool false, .int .u32 0, .int .i64 0] 35)) := (by repeat (first | with_reducible exact Below.refl _ _ | with_reducible assumption | with_reducible refine below_drewN ?_ _ | with_reducible refine Below.drew ?_ | ((with_reducible refine Bset ?_ ?_); focus (first | omega | (simp; done) | (simp; omega))) | ((with_reducible refine Ball ?_ ?_); focus (first | omega | (simp; done) | (simp; omega)))))
  obtain ⟨W1, hW1⟩ : ∃ W1, ((((w.alloc (.cells #[.pointer (some ⟨db, 0, none⟩)] 58)).alloc (.cells #[.slice (some ⟨rb, 0, none⟩) n ct] 32)).alloc (.cells #[.slice (some ⟨rb, n, none⟩) n cb] 32)).alloc (.cells #[.bool false, .int .u32 0, .int .i64 0] 35)) = W1 := ⟨_, rfl⟩
  rw [hW1] at k3 k4 k5 k6 hB0 ⊢
  clear hW1
  obtain ⟨pb, hpb⟩ : ∃ pb, pb = w.heap.size := ⟨_, rfl⟩
  obtain ⟨tb, htb⟩ : ∃ tb, tb = w.heap.size + 1 := ⟨_, rfl⟩
  obtain ⟨bb, hbb⟩ : ∃ bb, bb = w.heap.size + 1 + 1 := ⟨_, rfl⟩
  obtain ⟨vb, hvb⟩ : ∃ vb, vb = w.heap.size + 1 + 1 + 1 := ⟨_, rfl⟩
  rw [← hvb] at k6 ⊢
  rw [← hbb] at k5 ⊢
  rw [← htb] at k4 ⊢
  rw [← hpb] at k3 ⊢
  have hE1 : Env2 W1 pb tb bb db sb so rb n cs ct cb ss := ⟨k3.cell 0, k4.cell 0, k5.cell 0, hs.below hB0 (fun _ => hsl), ⟨by omega, by omega⟩, ⟨by omega, by omega⟩, ⟨by omega, by omega⟩, fun _ => hA.x4, hA.x5⟩
  have hd1 := hd.below hB0 hdl
  have hw1 : Wds W1 rb l := hw.keep (hB0.block _ hrl) hB0.size
  have hf1 := hF.keep (w' := W1) (fun j hj _ => hB0.block _ hj) hB0.size
  have hc1 : Chg (Two db rb) w W1 := Chg.of_below hB0
  have hvd : vb ≠ db ∧ vb ≠ rb := ⟨by omega, by omega⟩
  have hvz : w.heap.size ≤ vb := by omega
  have hcl := clear_run W1 rb 0 n ct l hw1 hn1 (by omega)
  have hR2 := (⟨hd1, hE1, hw1, k6, hf1, hc1⟩ : RingW vb pb tb bb db sb so rb n cs ct cb b1 b2 eb eo a cap es beh ss f w l W1).go hA hvd.2 ((Chg.refl (fun j => j = rb) W1).zapped rfl 0 (List.replicate n (.int .u64 0))) (hw1.zapped 0 n (by omega))
  have hQ2 : RingRel n es beh ss l (zeros (zap l 0 n) n + 1) true (zap l 0 n) := ⟨zap_len _ _ _, fun j hj => by rw [zap_get, if_neg (by omega)], fun _ b hb _ => by rw [zap_get, if_pos (by omega)], (fun h => by cases h), by simp⟩
  have hbl := World.block_lt_of_cell? W1 _ (k4.cell 0 : W1.cell? ⟨tb, 0, none⟩ = _)
  have c4 : W1.cell? ⟨tb, 0, none⟩ = some (.slice (some ⟨rb, 0, none⟩) n ct) := k4.cell 0
  have HQ := Lib.hid (And.intro hR2 hQ2)
  clear hR2 hQ2 k3 k4 k5 k6 hE1 hd1 hw1 hf1 hc1 hB0 hd hs hw hF hpb htb hbb hvb
  go_upto_block 0 with fail
  obtain ⟨W2, hW2⟩ : ∃ W2, W1.setCells rb 0 (List.replicate n (.int .u64 0)) = W2 := ⟨_, rfl⟩
  rw [hW2] at HQ ⊢
  clear hW2 hcl c4 hbl
  go_wp2_with fail
  go_loopg [8, 9, 10] (zeros (zap l 0 n) n + 1) (fun gk v _ _ wr => ∃ (ag : Bool) (l' : List Nat), v = .bool ag ∧ RingW vb pb tb bb db sb so rb n cs ct cb b1 b2 eb eo a cap es beh ss f w l' wr ∧ RingRel n es beh ss l gk ag l')
  case atStart => exact ⟨true, _, rfl, HQ.out⟩
  case round =>
    clear HQ
    obtain ⟨ag, l', rfl, hRW, hRR⟩ := hrel
    have cp := hRW.e.p
    have ct' := hRW.e.t
    have cb' := hRW.e.b
    cases ag
    · obtain ⟨hov, hcl⟩ := hRR.cl rfl
      have hva := allValid_mem (overErr_ok hov).1
      have hk := hRR.k (overErr_ok hov).1
      have hp : ∃ p : Nat → Bool, (∀ v, v < n → (p v = true ↔ InKnot ss es (lab ss v))) ∧ notedK f 3 (fun v => l'.getD (lab ss v) 0 == 0) n = notedK f 3 p n := by
        refine ⟨fun v => l'.getD (lab ss v) 0 == 0, fun v hv => ?_, rfl⟩
        rw [beq_iff_eq]
        exact ⟨fun h => ⟨_, hcl, (hlab v hv).1, h⟩, fun h => hk _ (hlab v hv).1 h⟩
      have HP := Lib.hid hp
      have HL := Lib.hid (And.intro hRR.len hRR.far)
      have HR := Lib.hid hRW
      have HO := Lib.hid hov
      have hll : n + n ≤ l'.length := by rw [hRR.len]; exact hnl
      clear hp hRR hov hcl hva hk hRW
      go_upto_region 17 with (go_at_call 32; (with_reducible refine (ring_each pb tb bb db sb so rb n cs ct cb b1 b2 ss f l' _ HR.out.d HR.out.e hss (by omega) hll (fun v hv => (hlab v hv).1) HR.out.wd).mono ?_); rintro e w1 ⟨⟨x, rfl⟩, hd1, hw1, hc1⟩)
      have HB := Lib.hid (And.intro hd1 (And.intro hw1 (HR.out.c.trans (hc1.mono (fun _ h => Or.inl h)))))
      have cp1 : w1.cell? ⟨pb, 0, none⟩ = some (.pointer (some ⟨db, 0, none⟩)) := (cell_heap (a := ⟨pb, 0, none⟩) (hc1.block _ (World.block_lt_of_cell? _ _ cp) HR.out.e.np.1)).trans cp
      have hv1 : isBlk w1 vb 35 [.bool false, .int .u32 0, .int .i64 0] := by have := HR.out.v; have hl := this.lt; unfold isBlk at this ⊢; rw [hc1.block _ hl hvd.1]; exact this
      clear hd1 hw1 hc1 cp ct' cb'
      go_wp2_with (go_at_call 37; (with_reducible refine (verdict_x0 db _ _ _ HB.out.1).mono ?_); rintro e w2 ⟨x, y, z, hvx, rfl, hb2⟩; have hv2 := hv1.below hb2 hv1.lt; have hc20 : w2.cell? ⟨vb, 0, none⟩ = _ := hv2.cell 0; have hc21 : w2.cell? ⟨vb, 1, none⟩ = _ := hv2.cell 1; have hc22 : w2.cell? ⟨vb, 2, none⟩ = _ := hv2.cell 2; have hf20 := hv2.frozen 0; have hf21 := hv2.frozen 1; have hf22 := hv2.frozen 2)
      obtain ⟨hk9, hg9⟩ := set3 (hv1.below hb2 hv1.lt) (.bool x) (.int .u32 y) (.int .i64 z)
      have r0 := hk9.cell 0
      have r1 := hk9.cell 1
      have r2 := hk9.cell 2
      refine bodyPost_ret (v := .tuple #[.agg #[.bool x, .int .u32 y, .int .i64 z], .int .i64 0]) (by simp (maxDischargeDepth := 8) [results, Try.results39, go_sem, r0, r1, r2]) rfl ?_
      exact (RingEnd.mk 0 x y z HO.out hvx.out rfl (fun _ => ⟨_, HP.out.choose_spec.1, HP.out.choose_spec.2⟩) HB.out.2.1 HL.out.1 HL.out.2 HB.out.2.2 hb2 hvz hvd hg9)
    · have hll : n + n ≤ l'.length := by rw [hRR.len]; exact hnl
      have hcl := clear_run wr rb n n cb l' hRW.wd hn1 (by omega)
      have hR3 := hRW.go hA hvd.2 ((Chg.refl (fun j => j = rb) wr).zapped rfl n (List.replicate n (.int .u64 0))) (hRW.wd.zapped n n (by omega))
      have HR3 := Lib.hid hR3
      have HQ := Lib.hid hRR
      clear hRR hRW hR3
      go_upto_region 6 with fail
      obtain ⟨W3, hW3⟩ : ∃ W3, wr.setCells rb n (List.replicate n (.int .u64 0)) = W3 := ⟨_, rfl⟩
      rw [hW3] at HR3 ⊢
      clear hW3 hcl cp ct' cb'
      have cp := HR3.out.e.p
      have hzl : n + n ≤ (zap l' n n).length := by rw [zap_len]; exact hll
      obtain ⟨er, her⟩ : ∃ er, overErr n es beh = er := ⟨_, rfl⟩
      have HER := Lib.hid her
      by_cases hez : er = 0
      · have hez' : ((er : Int) != 0) = false := by rw [bne_eq_false_iff_eq]; omega
        have HEZ := Lib.hid hez
        clear her hez
        go_upto_block 2 with (go_at_call 35; (with_reducible refine (ring_over pb tb bb db sb so rb n cs ct cb b1 b2 eb eo a cap es beh ss f (zap l' n n) _ HR3.out.d HR3.out.e hss hzl (fun v hv => (hlab v hv).1) HR3.out.wd HR3.out.fe hA).mono ?_); rintro e w4 ⟨p, rfl, hp, ⟨hd4, hw4, hE4⟩, hlen4, hfar4, hc4⟩; rw [HER.out]; have cp4 := hE4.p; have ct4 := hE4.t; have cb4 := hE4.b; have HH := Lib.hid (And.intro hp (And.intro hw4 (And.intro hlen4 hc4))); clear hp hd4 hw4 hE4 hlen4 hfar4 hc4)
        have hpe := HH.out.1 (overErr_ok (HER.out.trans HEZ.out)).1
        have hRW4 := HR3.out.go hA hvd.2 HH.out.2.2.2 HH.out.2.1
        have hLl := HH.out.2.2.1
        rw [hpe] at hRW4 hLl
        rw [zap_len] at hLl
        obtain ⟨L, hL⟩ : ∃ L, es.foldl (fun l e => ledL ss n e l) (zap l' n n) = L := ⟨_, rfl⟩
        rw [hL] at hRW4 hLl
        have hfk := fun k hk => goneK_facts ss n L (by omega) k hk
        have HFK := Lib.hid hfk
        have HL := Lib.hid hL
        have HRW4 := Lib.hid hRW4
        have hLL : n + n ≤ L.length := by omega
        clear hpe hRW4 hLl hL HH HR3 cp cp4 ct4 cb4 hfk
        obtain ⟨gq, rfl⟩ : ∃ gq : Nat, gq = gk := ⟨_, rfl⟩
        go_wp2_with fail
        go_loopg [8, 10, 26] n (fun gm v _ i wx => ∃ k : Nat, k + gm = n ∧ i = .int .i64 k ∧ v = .bool (goneK ss n L k).2 ∧ RingW vb pb tb bb db sb so rb n cs ct cb b1 b2 eb eo a cap es beh ss f w (goneK ss n L k).1 wx)
        case atStart => exact ⟨0, by omega, rfl, rfl, HRW4.out⟩
        case round =>
          clear HRW4
          obtain ⟨k, hk, rfl, rfl, hRX⟩ := hrel
          have g1 := (HFK.out k (by omega)).1
          have HRX := Lib.hid hRX
          by_cases hlt : k < n
          · have ct' := hRX.e.t
            have cb' := hRX.e.b
            have cp := hRX.e.p
            have cd3 : wr.cell? ⟨db, 3, none⟩ = some (.slice (some ⟨sb, so, none⟩) n cs) := hRX.d.cell 3
            have hsl' := hRX.e.s.lt (by omega)
            have cs' := hRX.e.s.c0 k (by omega)
            rw [lab_get (by omega : k < ss.length)] at cs'
            have r1 := hRX.wd.c k (by omega)
            have r2 := hRX.wd.c (n + k) (by omega)
            rw [getD_get (by omega)] at r1 r2
            have f1 := hRX.wd.f k
            have hst : goneK ss n L (k + 1) = if (goneK ss n L k).1.getD k 0 = 0 ∧ (goneK ss n L k).1.getD (n + k) 0 = 0 then ((goneK ss n L k).1.set k 1, (goneK ss n L k).2 || lab ss k == k) else goneK ss n L k := rfl
            have hgo := fun hc hw => hRX.go (l'' := (goneK ss n L k).1.set k 1) (W' := wr.setCell ⟨rb, k, none⟩ (.int .u64 (1 : Nat))) hA hvd.2 hc hw
            have hgo2 := hgo ((Chg.refl (fun j => j = rb) wr).set (p := ⟨rb, k, none⟩) (Or.inl rfl) (.int .u64 (1 : Nat))) (hRX.wd.set k 1 (by omega))
            clear hgo hRX
            generalize goneK ss n L k = P at *
            obtain ⟨G, ag⟩ := P
            simp only [] at r1 r2 f1 hst hgo2 HRX g1 ⊢
            have HGO := Lib.hid hgo2
            have hkn : (k : Int) < n := by omega
            have hk0 : (0 : Int) ≤ k := Int.natCast_nonneg _
            have hkw : IntKind.u64.wrap (k : Int) = (k : Int) := by rw [IntKind.wrap_u64]; omega
            have hnd := hA.x5
            have hns := hA.x4.2
            have hpr : pb ≠ rb := HRX.out.e.np.2
            have htr : tb ≠ rb := HRX.out.e.nt.2
            have HST := Lib.hid hst
            clear hst hgo2
            generalize G.getD k 0 = v1 at *
            generalize G.getD (n + k) 0 = v2 at *
            by_cases h1 : v1 = 0
            · have h1' : ((v1 : Int) == 0) = true := by rw [beq_iff_eq]; omega
              by_cases h2 : v2 = 0
              · have h2' : ((v2 : Int) == 0) = true := by rw [beq_iff_eq]; omega
                have HS := Lib.hid (HST.out.trans (if_pos ⟨h1, h2⟩))
                clear h1 h2 HST
                cases ag
                · generalize lab ss k = lb at *
                  by_cases h3 : lb = k
                  · have h3' : ((lb : Int) == (k : Int)) = true := by rw [beq_iff_eq]; omega
                    have HS2 := Lib.hid (show (false || lb == k) = true by simp [h3])
                    clear h3
                    go_wp2
                    go_roundg (gk - 1)
                    case measure => omega
                    case rel => exact ⟨k + 1, by omega, by go_num, by rw [HS.out, HS2.out], by rw [HS.out]; exact HGO.out⟩
                  · have h3' : ((lb : Int) == (k : Int)) = false := by rw [beq_eq_false_iff_ne]; omega
                    have HS2 := Lib.hid (show (false || lb == k) = false by simp [h3])
                    clear h3
                    go_wp2
                    go_roundg (gk - 1)
                    case measure => omega
                    case rel => exact ⟨k + 1, by omega, by go_num, by rw [HS.out, HS2.out], by rw [HS.out]; exact HGO.out⟩
                · go_wp2
                  go_roundg (gk - 1)
                  case measure => omega
                  case rel => exact ⟨k + 1, by omega, by go_num, by rw [HS.out]; rfl, by rw [HS.out]; exact HGO.out⟩
              · have h2' : ((v2 : Int) == 0) = false := by rw [beq_eq_false_iff_ne]; omega
                have HS := Lib.hid (HST.out.trans (if_neg (fun h => h2 h.2)))
                clear h1 h2 HST
                go_wp2
                go_roundg (gk - 1)
                case measure => omega
                case rel => exact ⟨k + 1, by omega, by go_num, by rw [HS.out], by rw [HS.out]; exact HRX.out⟩
            · have h1' : ((v1 : Int) == 0) = false := by rw [beq_eq_false_iff_ne]; omega
              have HS := Lib.hid (HST.out.trans (if_neg (fun h => h1 h.1)))
              clear h1 HST
              go_wp2
              go_roundg (gk - 1)
              case measure => omega
              case rel => exact ⟨k + 1, by omega, by go_num, by rw [HS.out], by rw [HS.out]; exact HRX.out⟩
          · obtain rfl : n = k := by omega
            have hrr : goneK ss n L n = ringRound ss es n l' := by unfold ringRound; rw [HL.out]
            have hov := HER.out.trans HEZ.out
            have hva := allValid_mem (overErr_ok hov).1
            have hq := HQ.out
            obtain ⟨q1, q2, q3, q4, q5, q6⟩ := ring_round hva hlab hll (hq.k (overErr_ok hov).1)
            rw [← hrr] at q1 q2 q3 q4 q5 q6
            have hz := hq.z
            simp only [if_true] at hz
            have hnew : RingRel n es beh ss l (gq - 1) (goneK ss n L n).2 (goneK ss n L n).1 := by
              refine ⟨q1.trans hq.len, fun j hj => (q2 j hj).trans (hq.far j hj), fun _ => q3, fun h => ⟨hov, q6 h⟩, ?_⟩
              cases hb : (goneK ss n L n).2
              · simp only [Bool.false_eq_true, if_false]; omega
              · have := q4 hb; simp only [if_true]; omega
            have HN := Lib.hid hnew
            have hgq : 0 < gq := by omega
            clear hnew hz q1 q2 q3 q4 q5 q6 hq hva hov hrr g1 hRX
            go_wp2
            go_roundg (gq - 1)
            case measure => omega
            case rel => exact ⟨_, _, rfl, HRX.out, HN.out⟩
      · have hez' : ((er : Int) != 0) = true := by rw [bne_iff_ne]; omega
        have HEZ := Lib.hid hez
        clear her hez
        have cv := HR3.out.v
        go_wp2_with (first | (go_at_call 35; (with_reducible refine (ring_over pb tb bb db sb so rb n cs ct cb b1 b2 eb eo a cap es beh ss f (zap l' n n) _ HR3.out.d HR3.out.e hss hzl (fun v hv => (hlab v hv).1) HR3.out.wd HR3.out.fe hA).mono ?_); rintro e w4 ⟨p, rfl, hp, ⟨hd4, hw4, hE4⟩, hlen4, hfar4, hc4⟩; rw [HER.out]; have cp4 := hE4.p; have HH := Lib.hid (And.intro hw4 (And.intro (And.intro hlen4 hfar4) hd4)); have HC := Lib.hid (HR3.out.c.trans (hc4.mono (fun _ h => Or.inr h))); have HV := Lib.hid (show isBlk w4 vb 35 [.bool false, .int .u32 0, .int .i64 0] by (have h1 := cv; have h2 := cv.lt; unfold isBlk at h1 ⊢; rw [hc4.block _ h2 hvd.2]; exact h1)); clear hp hd4 hw4 hE4 hlen4 hfar4 hc4) | (go_at_call 37; (with_reducible refine (verdict_x db _ _ er _ HH.out.2.2).mono ?_); rintro e w2 ⟨x, y, z, hvx, rfl, hb2⟩; have hv2 := HV.out.below hb2 HV.out.lt; have hc20 : w2.cell? ⟨vb, 0, none⟩ = _ := hv2.cell 0; have hc21 : w2.cell? ⟨vb, 1, none⟩ = _ := hv2.cell 1; have hc22 : w2.cell? ⟨vb, 2, none⟩ = _ := hv2.cell 2; have hf20 := hv2.frozen 0; have hf21 := hv2.frozen 1; have hf22 := hv2.frozen 2))
        obtain ⟨hk9, hg9⟩ := set3 hv2 (.bool x) (.int .u32 y) (.int .i64 z)
        have r0 := hk9.cell 0
        have r1 := hk9.cell 1
        have r2 := hk9.cell 2
        refine bodyPost_ret (v := .tuple #[.agg #[.bool x, .int .u32 y, .int .i64 z], .int .i64 er]) (by simp (maxDischargeDepth := 8) [results, Try.results39, go_sem, r0, r1, r2]) rfl ?_
        refine RingEnd.mk er x y z HER.out hvx.out rfl (fun h => absurd h HEZ.out) HH.out.1 ?_ ?_ HC.out hb2 hvz hvd hg9
        · rw [HH.out.2.1.1, zap_len]; exact HQ.out.len
        · intro j hj
          rw [HH.out.2.1.2 j hj, zap_get, if_neg (by omega)]
          exact HQ.out.far j hj

end Go.Proofs.Ytohmeobfiomfdaa
