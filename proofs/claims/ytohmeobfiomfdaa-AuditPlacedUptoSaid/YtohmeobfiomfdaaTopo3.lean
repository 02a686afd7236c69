/-
  Going over vertices and edges in an audit of levels: each pass by its closure.
-/
import Derived.Test.YtohmeobfiomfdaaTopo2
namespace Go.Proofs.Ytohmeobfiomfdaa
open Go.RowKit Go.Shelf
set_option maxRecDepth 100000

/-- What the edges note, and what they hold. -/
def tpF (ss : List St) (p : List Ed) (f : Fd) : Fd := p.foldl (fun f e => noted f e.dst 2 (topoBad (lab ss e.src) (lab ss e.dst))) f
def tpL (ss : List St) (p : List Ed) (l : List Nat) : List Nat := p.foldl (fun l e => holdL ss e l) l
theorem tpF_snoc (ss : List St) (p : List Ed) (x : Ed) (f : Fd) : tpF ss (p ++ [x]) f = noted (tpF ss p f) x.dst 2 (topoBad (lab ss x.src) (lab ss x.dst)) := by
  unfold tpF; rw [List.foldl_append]; rfl
theorem tpL_snoc (ss : List St) (p : List Ed) (x : Ed) (l : List Nat) : tpL ss (p ++ [x]) l = holdL ss x (tpL ss p l) := by
  unfold tpL; rw [List.foldl_append]; rfl
theorem holdL_len (ss : List St) (e : Ed) (l : List Nat) : (holdL ss e l).length = l.length := by
  unfold holdL; split <;> simp
theorem tpL_len (ss : List St) (p : List Ed) : ∀ l : List Nat, (tpL ss p l).length = l.length := by
  induction p with
  | nil => intro l; rfl
  | cons e p ih => intro l; exact (ih (holdL ss e l)).trans (holdL_len ss e l)
/-- What the vertices note. -/
def tpV (n : Nat) (ss : List St) (l : List Nat) (f : Fd) : Nat → Fd
  | 0 => f
  | k + 1 => noted (noted (tpV n ss l f k) k 1 (topoTop n (lab ss k))) k 3 (topoLost (lab ss k) (l.getD k 0))

theorem each50 (pb qb tb nb db sb so rb n cs ct b1 b2 : Nat) (ss : List St) (l : List Nat) (w : World) (f : Fd)
    (hd : isBlk w db 75 ((⟨n, feedFn b1 b2, .slice (some ⟨sb, so, none⟩) n cs⟩ : Dk).cells f)) (hE : Env3 w pb qb tb nb db sb so rb n cs ct ss) (hw : Wds w rb l) (hss : ss.length = n) (hnl : n ≤ l.length) (hl : l.length ≤ 5000) :
    Calls Try.prog 32 #[.pointer (some ⟨db, 0, none⟩), .func (.func 50) #[] #[.pointer (some ⟨pb, 0, none⟩), .pointer (some ⟨nb, 0, none⟩), .pointer (some ⟨tb, 0, none⟩)]] w fun e w' =>
      (∃ x, e = .returned x) ∧ isBlk w' db 75 ((⟨n, feedFn b1 b2, .slice (some ⟨sb, so, none⟩) n cs⟩ : Dk).cells (tpV n ss l f n)) ∧ Chg (fun j => j = db) w w' := by
  subst hss
  have hdl := hd.lt
  have hrl := hw.lt
  refine (each_any db 50 _ (enters_of Try.func50 (by kernel_rfl) rfl) ⟨ss.length, feedFn b1 b2, .slice (some ⟨sb, so, none⟩) ss.length cs⟩ f (some ⟨sb, so, none⟩) cs sb so ss (fun j => j = db)
    (fun k W => isBlk W db 75 ((⟨ss.length, feedFn b1 b2, .slice (some ⟨sb, so, none⟩) ss.length cs⟩ : Dk).cells (tpV ss.length ss l f k)) ∧ Wds W rb l ∧ Env3 W pb qb tb nb db sb so rb ss.length cs ct ss) w hd rfl (by omega)
    (fun k W h => h.2.2.s) ?_ ?_ ⟨hd, hw, hE⟩).mono ?_
  · rintro k W W' ⟨h1, h2, h3⟩ hk hz
    refine ⟨?_, h2.keep (hk _ hrl) hz, h3.at (fun j hj => hk _ (hE.lt j hj)) hz⟩
    unfold isBlk at h1 ⊢; rw [hk _ hdl]; exact h1
  · rintro k W hk ⟨h1, h2, h3⟩ hz
    have hla := lab_get hk
    refine (f50_any pb qb tb nb db sb so rb ss.length cs ct ss _ _ l k ss[k] W h3 hnl hk hl h1 h2).mono ?_
    rintro e W' ⟨h6, h7, h8⟩
    rw [hla] at h7
    exact ⟨h6, ⟨h7, h2.keep (h8.block _ h2.lt (fun e => hE.nd e.symm)) h8.size, h3.chg (h8.mono (fun j hj => Or.inl hj))⟩, h8⟩
  · rintro e w' ⟨h1, ⟨h2, _, _⟩, h4⟩
    exact ⟨h1, h2, h4⟩

theorem over49 (pb qb tb nb db sb so rb n cs ct b1 b2 eb eo : Nat) (a : Option Addr) (cap : Nat) (es : List Ed) (beh : Nat) (ss : List St) (f : Fd) (l : List Nat) (w : World)
    (hd : isBlk w db 75 ((⟨n, feedFn b1 b2, .slice (some ⟨sb, so, none⟩) n cs⟩ : Dk).cells f)) (hE : Env3 w pb qb tb nb db sb so rb n cs ct ss) (hss : ss.length = n) (hnl : n ≤ l.length)
    (hw : Wds w rb l) (hF : Fed w b1 b2 eb eo a cap es beh) (hA : Apart b1 b2 eb sb db rb) :
    Calls Try.prog 35 #[.pointer (some ⟨db, 0, none⟩), .func (.func 49) #[] #[.pointer (some ⟨qb, 0, none⟩), .pointer (some ⟨pb, 0, none⟩), .pointer (some ⟨tb, 0, none⟩)]] w fun e w' =>
      ∃ p, e = .returned (.int .i64 (overErr n es beh)) ∧ (allValid n es = true → p = es) ∧ isBlk w' db 75 ((⟨n, feedFn b1 b2, .slice (some ⟨sb, so, none⟩) n cs⟩ : Dk).cells (tpF ss p f)) ∧ Wds w' rb (tpL ss p l) ∧ (∀ e, e ∈ p → Valid n e) ∧ Chg (Two db rb) w w' := by
  have hdl := hd.lt
  have hrl := hw.lt
  refine (over_any db b1 b2 49 _ (enters_of Try.func49 (by kernel_rfl) rfl) ⟨n, feedFn b1 b2, .slice (some ⟨sb, so, none⟩) n cs⟩ a cap eb eo es beh (Two db rb)
    (fun p W => (isBlk W db 75 ((⟨n, feedFn b1 b2, .slice (some ⟨sb, so, none⟩) n cs⟩ : Dk).cells (tpF ss p f)) ∧ Wds W rb (tpL ss p l) ∧ Env3 W pb qb tb nb db sb so rb n cs ct ss) ∧ ∀ e, e ∈ p → Valid n e) w rfl hF.r hF.lt hF.c1 hF.c2 hF.e
    (fun j hj => by rcases hj with rfl | rfl; exact hdl; exact hrl) ⟨?_, ?_, ?_⟩ (fun p W h => ⟨tpF ss p f, h.1.1⟩) ?_ ?_ ⟨⟨hd, hw, hE⟩, by simp⟩).mono ?_
  · rintro (e | e); exact hA.x1.1 e; exact hA.x1.2 e
  · rintro (e | e); exact hA.x2.1 e; exact hA.x2.2 e
  · rintro (e | e); exact hA.x3.1 e; exact hA.x3.2 e
  · rintro p W W' ⟨⟨h1, h2, h4⟩, h5⟩ hk hz
    refine ⟨⟨?_, h2.keep (hk _ hrl) hz, h4.at (fun j hj => hk _ (hE.lt j hj)) hz⟩, h5⟩
    unfold isBlk at h1 ⊢; rw [hk _ hdl]; exact h1
  · rintro p x W hx ⟨⟨h1, h2, h4⟩, h5⟩ hz
    have hpl := tpL_len ss p l
    refine (f49_any pb qb tb nb db sb so rb n cs ct ss _ _ _ x W h4 hss (by rw [hpl]; exact hnl) hx h1 h2).mono ?_
    rintro e W' ⟨h6, h7, h8, h9⟩
    rw [tpF_snoc, tpL_snoc]
    refine ⟨h6, ⟨⟨h7, h8, h4.chg h9⟩, ?_⟩, h9⟩
    intro e he
    rcases List.mem_append.1 he with he | he
    · exact h5 e he
    · rw [List.mem_singleton] at he; rw [he]; exact hx
  · rintro e w' ⟨p, rfl, h1, ⟨⟨h2, h3, _⟩, h6⟩, h5⟩
    exact ⟨p, rfl, h1, h2, h3, h6, h5⟩

/-- What stands in memory while levels are audited. -/
structure TopW (vb pb qb tb nb db sb so rb n cs ct b1 b2 eb eo : Nat) (a : Option Addr) (cap : Nat) (es : List Ed) (beh : Nat) (ss : List St) (w : World) (f : Fd) (l : List Nat) (W : World) : Prop where
  d : isBlk W db 75 ((⟨n, feedFn b1 b2, .slice (some ⟨sb, so, none⟩) n cs⟩ : Dk).cells f)
  e : Env3 W pb qb tb nb db sb so rb n cs ct ss
  wd : Wds W rb l
  v : isBlk W vb 35 [.bool false, .int .u32 0, .int .i64 0]
  fe : Fed W b1 b2 eb eo a cap es beh
  c : Chg (fun j => j = rb) w W
  nd : w.heap.size ≤ db ∧ w.heap.size ≤ vb
  nv : vb ≠ db ∧ vb ≠ rb
  ap : Apart b1 b2 eb sb db rb

theorem TopW.go {vb pb qb tb nb db sb so rb n cs ct b1 b2 eb eo : Nat} {a : Option Addr} {cap : Nat} {es : List Ed} {beh : Nat} {ss : List St} {w : World} {f f' : Fd} {l l' : List Nat} {W W' : World}
    (h : TopW vb pb qb tb nb db sb so rb n cs ct b1 b2 eb eo a cap es beh ss w f l W) (hc : Chg (Two db rb) W W')
    (hd : isBlk W' db 75 ((⟨n, feedFn b1 b2, .slice (some ⟨sb, so, none⟩) n cs⟩ : Dk).cells f')) (hw : Wds W' rb l') :
    TopW vb pb qb tb nb db sb so rb n cs ct b1 b2 eb eo a cap es beh ss w f' l' W' where
  d := hd
  e := h.e.chg hc
  wd := hw
  v := by have := h.v; have hl := this.lt; unfold isBlk at this ⊢; rw [hc.block _ hl (by rintro (e | e); exact h.nv.1 e; exact h.nv.2 e)]; exact this
  fe := h.fe.keep (fun j hj hx => hc.block _ hj (by
    have h2 : j ≠ db ∧ j ≠ rb := by
      rcases hx with rfl | rfl | rfl
      · exact h.ap.x1
      · exact h.ap.x2
      · exact h.ap.x3
    rintro (e | e); exact h2.1 e; exact h2.2 e)) hc.size
  c := h.c.then hc (fun j hj => by
    have := h.nd
    rcases hj with rfl | rfl
    · exact Or.inr this.1
    · exact Or.inl rfl)
  nd := h.nd
  nv := h.nv
  ap := h.ap

end Go.Proofs.Ytohmeobfiomfdaa
