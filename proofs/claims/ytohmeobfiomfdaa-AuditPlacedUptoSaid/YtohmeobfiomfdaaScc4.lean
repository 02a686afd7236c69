/-
  Going over vertices and edges in an audit of strong components: each pass by its closure.
-/
import Derived.Test.YtohmeobfiomfdaaRing
namespace Go.Proofs.Ytohmeobfiomfdaa
open Go.RowKit Go.Shelf
set_option maxRecDepth 100000

theorem Env.at {w w' : World} {pb qb tb bb db sb so rb n cs ct cb : Nat} {ss : List St} (h : Env w pb qb tb bb db sb so rb n cs ct cb ss) (hk : ∀ j, j = pb ∨ j = qb ∨ j = tb ∨ j = bb ∨ j = sb ∧ 0 < ss.length → w'.heap[j]? = w.heap[j]?) (hz : w.heap.size ≤ w'.heap.size) : Env w' pb qb tb bb db sb so rb n cs ct cb ss where
  p := (cell_heap (a := ⟨pb, 0, none⟩) (hk _ (Or.inl rfl))).trans h.p
  q := (cell_heap (a := ⟨qb, 0, none⟩) (hk _ (Or.inr (Or.inl rfl)))).trans h.q
  t := (cell_heap (a := ⟨tb, 0, none⟩) (hk _ (Or.inr (Or.inr (Or.inl rfl))))).trans h.t
  b := (cell_heap (a := ⟨bb, 0, none⟩) (hk _ (Or.inr (Or.inr (Or.inr (Or.inl rfl)))))).trans h.b
  s := h.s.keep (fun h0 => hk _ (Or.inr (Or.inr (Or.inr (Or.inr ⟨rfl, h0⟩))))) hz
  np := h.np
  nq := h.nq
  nt := h.nt
  nb := h.nb
  ns := h.ns
  nd := h.nd
theorem Env.lt {w : World} {pb qb tb bb db sb so rb n cs ct cb : Nat} {ss : List St} (h : Env w pb qb tb bb db sb so rb n cs ct cb ss) : ∀ j, j = pb ∨ j = qb ∨ j = tb ∨ j = bb ∨ j = sb ∧ 0 < ss.length → j < w.heap.size := by
  rintro j (rfl | rfl | rfl | rfl | ⟨rfl, h0⟩)
  · exact World.block_lt_of_cell? w _ h.p
  · exact World.block_lt_of_cell? w _ h.q
  · exact World.block_lt_of_cell? w _ h.t
  · exact World.block_lt_of_cell? w _ h.b
  · exact h.s.lt h0

/-- What stands in memory while strong components are audited. -/
structure SccW (vb pb qb tb bb db sb so rb n cs ct cb b1 b2 eb eo : Nat) (a : Option Addr) (cap : Nat) (es : List Ed) (beh : Nat) (ss : List St) (w : World) (f : Fd) (l : List Nat) (W : World) : Prop where
  d : isBlk W db 75 ((⟨n, feedFn b1 b2, .slice (some ⟨sb, so, none⟩) n cs⟩ : Dk).cells f)
  e : Env W pb qb tb bb db sb so rb n cs ct cb ss
  wd : Wds W rb l
  v : isBlk W vb 35 [.bool false, .int .u32 0, .int .i64 0]
  fe : Fed W b1 b2 eb eo a cap es beh
  c : Chg (fun j => j = rb) w W
  nd : w.heap.size ≤ db ∧ w.heap.size ≤ vb
  nv : vb ≠ db ∧ vb ≠ rb
  ap : Apart b1 b2 eb sb db rb

theorem Chg.then {R S : Nat → Prop} {w a b : World} (h : Chg R w a) (k : Chg S a b) (hs : ∀ j, S j → R j ∨ w.heap.size ≤ j) : Chg R w b :=
  ⟨k.os.trans h.os, k.tape.trans h.tape, k.output.trans h.output, Nat.le_trans h.size k.size, fun j hj hr => (k.block j (Nat.lt_of_lt_of_le hj h.size) (fun e => (hs j e).elim hr (fun x => absurd hj (Nat.not_lt_of_le x)))).trans (h.block j hj hr)⟩

theorem SccW.go {vb pb qb tb bb db sb so rb n cs ct cb b1 b2 eb eo : Nat} {a : Option Addr} {cap : Nat} {es : List Ed} {beh : Nat} {ss : List St} {w : World} {f f' : Fd} {l l' : List Nat} {W W' : World}
    (h : SccW vb pb qb tb bb db sb so rb n cs ct cb b1 b2 eb eo a cap es beh ss w f l W) (hc : Chg (fun j => j = db ∨ j = rb ∨ vb < j) W W') (hp : ∀ j, j = pb ∨ j = qb ∨ j = tb ∨ j = bb → W'.heap[j]? = W.heap[j]?) (hvs : ∀ j, j = b1 ∨ j = b2 ∨ j = eb ∨ j = sb → j < vb)
    (hd : isBlk W' db 75 ((⟨n, feedFn b1 b2, .slice (some ⟨sb, so, none⟩) n cs⟩ : Dk).cells f')) (hw : Wds W' rb l') :
    SccW vb pb qb tb bb db sb so rb n cs ct cb b1 b2 eb eo a cap es beh ss w f' l' W' where
  d := hd
  e := h.e.at (by
    rintro j (e | e | e | e | ⟨rfl, h0⟩)
    · exact hp j (Or.inl e)
    · exact hp j (Or.inr (Or.inl e))
    · exact hp j (Or.inr (Or.inr (Or.inl e)))
    · exact hp j (Or.inr (Or.inr (Or.inr e)))
    · have hx := hvs j (Or.inr (Or.inr (Or.inr rfl)))
      exact hc.block _ (h.e.s.lt h0) (by rintro (e | e | e); exact h.ap.x4.1 e; exact h.ap.x4.2 e; omega)) hc.size
  wd := hw
  v := by have := h.v; have hl := this.lt; unfold isBlk at this ⊢; rw [hc.block _ hl (by rintro (e | e | e); exact h.nv.1 e; exact h.nv.2 e; omega)]; exact this
  fe := h.fe.keep (fun j hj hx => hc.block _ hj (by
    have h1 : j < vb := hvs j (by rcases hx with e | e | e; exact Or.inl e; exact Or.inr (Or.inl e); exact Or.inr (Or.inr (Or.inl e)))
    have h2 : j ≠ db ∧ j ≠ rb := by
      rcases hx with rfl | rfl | rfl
      · exact h.ap.x1
      · exact h.ap.x2
      · exact h.ap.x3
    rintro (e | e | e); exact h2.1 e; exact h2.2 e; omega)) hc.size
  c := h.c.then hc (fun j hj => by
    have := h.nd
    rcases hj with rfl | rfl | e
    · exact Or.inr this.1
    · exact Or.inl rfl
    · exact Or.inr (by omega))
  nd := h.nd
  nv := h.nv
  ap := h.ap

/-- The first closure at the first vertices. -/
def initL (ss : List St) (n : Nat) (l : List Nat) : Nat → List Nat
  | 0 => l
  | k + 1 => ((initL ss n l k).set k (rooted k (lab ss k))).set (n + k) (rooted k (lab ss k))
theorem initL_facts (ss : List St) (n : Nat) (l : List Nat) (hl : n + n ≤ l.length) : ∀ k, k ≤ n → (initL ss n l k).length = l.length ∧
    (∀ v, v < k → (initL ss n l k).getD v 0 = rooted v (lab ss v) ∧ (initL ss n l k).getD (n + v) 0 = rooted v (lab ss v)) ∧ (∀ j, n + n ≤ j → (initL ss n l k).getD j 0 = l.getD j 0)
  | 0, _ => ⟨rfl, fun v hv => absurd hv (Nat.not_lt_zero _), fun _ _ => rfl⟩
  | k + 1, hk => by
    obtain ⟨a1, a2, a3⟩ := initL_facts ss n l hl k (by omega)
    unfold initL
    refine ⟨by simp [a1], fun v hv => ?_, fun j hj => ?_⟩
    · by_cases e : v = k
      · subst e
        rw [getD_set, getD_set, getD_set, List.length_set, a1, if_neg (by omega), if_pos (by omega), if_pos (by omega)]
        exact ⟨rfl, rfl⟩
      · rw [getD_set, getD_set, getD_set, getD_set, List.length_set, a1, if_neg (by omega), if_neg (by omega), if_neg (by omega), if_neg (by omega)]
        exact a2 v (by omega)
    · rw [getD_set, getD_set, if_neg (by omega), if_neg (by omega)]
      exact a3 j hj

theorem each33 (pb qb tb bb db sb so rb n cs ct cb b1 b2 : Nat) (ss : List St) (l : List Nat) (w : World) (f : Fd)
    (hd : isBlk w db 75 ((⟨n, feedFn b1 b2, .slice (some ⟨sb, so, none⟩) n cs⟩ : Dk).cells f)) (hE : Env w pb qb tb bb db sb so rb n cs ct cb ss) (hw : Wds w rb l) (hss : ss.length = n) (hnl : n + n ≤ l.length) (hl : l.length ≤ 5000) :
    Calls Try.prog 32 #[.pointer (some ⟨db, 0, none⟩), .func (.func 33) #[] #[.pointer (some ⟨pb, 0, none⟩), .pointer (some ⟨qb, 0, none⟩), .pointer (some ⟨tb, 0, none⟩), .pointer (some ⟨bb, 0, none⟩)]] w fun e w' =>
      (∃ x, e = .returned x) ∧ isBlk w' db 75 ((⟨n, feedFn b1 b2, .slice (some ⟨sb, so, none⟩) n cs⟩ : Dk).cells (notedK f 1 (fun v => badLabel ss v (lab ss v)) n)) ∧ Wds w' rb (initL ss n l n) ∧ Chg (Two db rb) w w' := by
  subst hss
  have hdl := hd.lt
  have hrl := hw.lt
  refine (each_any db 33 _ (enters_of Try.func33 (by kernel_rfl) rfl) ⟨ss.length, feedFn b1 b2, .slice (some ⟨sb, so, none⟩) ss.length cs⟩ f (some ⟨sb, so, none⟩) cs sb so ss (Two db rb)
    (fun k W => isBlk W db 75 ((⟨ss.length, feedFn b1 b2, .slice (some ⟨sb, so, none⟩) ss.length cs⟩ : Dk).cells (notedK f 1 (fun v => badLabel ss v (lab ss v)) k)) ∧ Wds W rb (initL ss ss.length l k) ∧ Env W pb qb tb bb db sb so rb ss.length cs ct cb ss) w hd rfl (by omega)
    (fun k W h => h.2.2.s) ?_ ?_ ⟨hd, hw, hE⟩).mono ?_
  · rintro k W W' ⟨h1, h2, h3⟩ hk hz
    refine ⟨?_, h2.keep (hk _ hrl) hz, h3.at (fun j hj => hk _ (hE.lt j hj)) hz⟩
    unfold isBlk at h1 ⊢; rw [hk _ hdl]; exact h1
  · rintro k W hk ⟨h1, h2, h3⟩ hz
    have hla := lab_get hk
    have hli := (initL_facts ss ss.length l hnl k (by omega)).1
    refine (f33_any pb qb tb bb db sb so rb ss.length cs ct cb ss _ _ _ k ss[k] W h3 rfl (by rw [hli]; exact hnl) hk (by rw [hli]; exact hl) h1 h2).mono ?_
    rintro e W' ⟨h6, h7, h8, h9⟩
    rw [hla] at h7 h8
    exact ⟨h6, ⟨h7, h8, h3.chg h9⟩, h9⟩
  · rintro e w' ⟨h1, ⟨h2, h3, _⟩, h4⟩
    exact ⟨h1, h2, h3, h4⟩

theorem each38 (pb qb tb bb db sb so rb n cs ct cb b1 b2 : Nat) (ss : List St) (l : List Nat) (w : World) (f : Fd)
    (hd : isBlk w db 75 ((⟨n, feedFn b1 b2, .slice (some ⟨sb, so, none⟩) n cs⟩ : Dk).cells f)) (hE : Env w pb qb tb bb db sb so rb n cs ct cb ss) (hw : Wds w rb l) (hss : ss.length = n) (hnl : n + n ≤ l.length) (hl : l.length ≤ 5000) (hle : ∀ j, j < n + n → l.getD j 0 ≤ 1) :
    Calls Try.prog 32 #[.pointer (some ⟨db, 0, none⟩), .func (.func 38) #[] #[.pointer (some ⟨pb, 0, none⟩), .pointer (some ⟨tb, 0, none⟩), .pointer (some ⟨bb, 0, none⟩)]] w fun e w' =>
      (∃ x, e = .returned x) ∧ isBlk w' db 75 ((⟨n, feedFn b1 b2, .slice (some ⟨sb, so, none⟩) n cs⟩ : Dk).cells (notedK f 2 (fun v => short l n v) n)) ∧ Chg (fun j => j = db) w w' := by
  subst hss
  have hdl := hd.lt
  have hrl := hw.lt
  refine (each_any db 38 _ (enters_of Try.func38 (by kernel_rfl) rfl) ⟨ss.length, feedFn b1 b2, .slice (some ⟨sb, so, none⟩) ss.length cs⟩ f (some ⟨sb, so, none⟩) cs sb so ss (fun j => j = db)
    (fun k W => isBlk W db 75 ((⟨ss.length, feedFn b1 b2, .slice (some ⟨sb, so, none⟩) ss.length cs⟩ : Dk).cells (notedK f 2 (fun v => short l ss.length v) k)) ∧ Wds W rb l ∧ Env W pb qb tb bb db sb so rb ss.length cs ct cb ss) w hd rfl (by omega)
    (fun k W h => h.2.2.s) ?_ ?_ ⟨hd, hw, hE⟩).mono ?_
  · rintro k W W' ⟨h1, h2, h3⟩ hk hz
    refine ⟨?_, h2.keep (hk _ hrl) hz, h3.at (fun j hj => hk _ (hE.lt j hj)) hz⟩
    unfold isBlk at h1 ⊢; rw [hk _ hdl]; exact h1
  · rintro k W hk ⟨h1, h2, h3⟩ hz
    refine (f38_any pb qb tb bb db sb so rb ss.length cs ct cb ss _ _ l k ss[k] W h3 hnl hk hle h1 h2).mono ?_
    rintro e W' ⟨h6, h7, h8⟩
    exact ⟨h6, ⟨h7, h2.keep (h8.block _ h2.lt (fun e => hE.nd e.symm)) h8.size, h3.chg (h8.mono (fun j hj => Or.inl hj))⟩, h8⟩
  · rintro e w' ⟨h1, ⟨h2, _, _⟩, h4⟩
    exact ⟨h1, h2, h4⟩

theorem over36 (pb qb tb bb ab db sb so rb n cs ct cb b1 b2 eb eo : Nat) (a : Option Addr) (cap : Nat) (es : List Ed) (beh : Nat) (ss : List St) (f : Fd) (l : List Nat) (g : Bool) (w : World)
    (hd : isBlk w db 75 ((⟨n, feedFn b1 b2, .slice (some ⟨sb, so, none⟩) n cs⟩ : Dk).cells f)) (hE : Env w pb qb tb bb db sb so rb n cs ct cb ss) (hss : ss.length = n) (hnl : n + n ≤ l.length) (hl : l.length ≤ 5000)
    (hw : Wds w rb l) (hF : Fed w b1 b2 eb eo a cap es beh) (hA : Apart b1 b2 eb sb db rb) (ha : isBlk w ab 4 [.bool g]) (hab : ab ≠ db ∧ ab ≠ rb ∧ ab ≠ pb ∧ ab ≠ qb ∧ ab ≠ tb ∧ ab ≠ bb ∧ ab ≠ sb) (hab2 : ab ≠ b1 ∧ ab ≠ b2 ∧ ab ≠ eb) :
    Calls Try.prog 35 #[.pointer (some ⟨db, 0, none⟩), .func (.func 36) #[] #[.pointer (some ⟨qb, 0, none⟩), .pointer (some ⟨tb, 0, none⟩), .pointer (some ⟨ab, 0, none⟩), .pointer (some ⟨bb, 0, none⟩)]] w fun e w' =>
      ∃ p, e = .returned (.int .i64 (overErr n es beh)) ∧ (allValid n es = true → p = es) ∧ isBlk w' db 75 ((⟨n, feedFn b1 b2, .slice (some ⟨sb, so, none⟩) n cs⟩ : Dk).cells f) ∧ Wds w' rb (passL ss n p l g).1 ∧ isBlk w' ab 4 [.bool (passL ss n p l g).2] ∧ (∀ e, e ∈ p → Valid n e) ∧ Chg (fun j => j = rb ∨ j = ab) w w' := by
  have hdl := hd.lt
  have hrl := hw.lt
  have hal := ha.lt
  refine (over_any db b1 b2 36 _ (enters_of Try.func36 (by kernel_rfl) rfl) ⟨n, feedFn b1 b2, .slice (some ⟨sb, so, none⟩) n cs⟩ a cap eb eo es beh (fun j => j = rb ∨ j = ab)
    (fun p W => (isBlk W db 75 ((⟨n, feedFn b1 b2, .slice (some ⟨sb, so, none⟩) n cs⟩ : Dk).cells f) ∧ Wds W rb (passL ss n p l g).1 ∧ isBlk W ab 4 [.bool (passL ss n p l g).2] ∧ Env W pb qb tb bb db sb so rb n cs ct cb ss) ∧ ∀ e, e ∈ p → Valid n e) w rfl hF.r hF.lt hF.c1 hF.c2 hF.e
    (fun j hj => by rcases hj with rfl | rfl; exact hrl; exact hal) ⟨?_, ?_, ?_⟩ (fun p W h => ⟨f, h.1.1⟩) ?_ ?_ ⟨⟨hd, hw, ha, hE⟩, by simp⟩).mono ?_
  · rintro (e | e); exact hA.x1.2 e; exact hab2.1 e.symm
  · rintro (e | e); exact hA.x2.2 e; exact hab2.2.1 e.symm
  · rintro (e | e); exact hA.x3.2 e; exact hab2.2.2 e.symm
  · rintro p W W' ⟨⟨h1, h2, h3, h4⟩, h5⟩ hk hz
    refine ⟨⟨?_, h2.keep (hk _ hrl) hz, ?_, h4.at (fun j hj => hk _ (hE.lt j hj)) hz⟩, h5⟩
    · unfold isBlk at h1 ⊢; rw [hk _ hdl]; exact h1
    · unfold isBlk at h3 ⊢; rw [hk _ hal]; exact h3
  · rintro p x W hx ⟨⟨h1, h2, h3, h4⟩, h5⟩ hz
    have hpl := passL_len ss n p l g
    refine (f36_any pb qb tb bb ab db sb so rb n cs ct cb ss _ f _ _ x W h4 hss (by rw [hpl]; exact hnl) hx (by rw [hpl]; exact hl) h3 hab h1 h2).mono ?_
    rintro e W' ⟨h6, h7, h8, h9, h10⟩
    rw [passL_snoc]
    have hne : ∀ j, j = pb ∨ j = qb ∨ j = tb ∨ j = bb ∨ j = sb ∧ 0 < ss.length → ¬ (j = rb ∨ j = ab) := by
      rintro j (rfl | rfl | rfl | rfl | ⟨rfl, h0⟩) (e | e)
      · exact h4.np.2 e
      · exact hab.2.2.1 e.symm
      · exact h4.nq.2 e
      · exact hab.2.2.2.1 e.symm
      · exact h4.nt.2 e
      · exact hab.2.2.2.2.1 e.symm
      · exact h4.nb.2 e
      · exact hab.2.2.2.2.2.1 e.symm
      · exact (h4.ns h0).2 e
      · exact hab.2.2.2.2.2.2 e.symm
    refine ⟨h6, ⟨⟨h7, h8, h9, h4.at (fun j hj => h10.block j (h4.lt j hj) (hne j hj)) h10.size⟩, ?_⟩, h10⟩
    intro e he
    rcases List.mem_append.1 he with he | he
    · exact h5 e he
    · rw [List.mem_singleton] at he; rw [he]; exact hx
  · rintro e w' ⟨p, rfl, h1, ⟨⟨h2, h3, h4, _⟩, h6⟩, h5⟩
    exact ⟨p, rfl, h1, h2, h3, h4, h6, h5⟩

end Go.Proofs.Ytohmeobfiomfdaa
