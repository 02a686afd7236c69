/-
  Going over vertices and edges in an audit of two colours: each pass by its closure.
-/
import Derived.Test.YtohmeobfiomfdaaFst3
import Derived.Test.YtohmeobfiomfdaaTopo3
namespace Go.Proofs.Ytohmeobfiomfdaa
open Go.RowKit Go.Shelf
set_option maxRecDepth 100000

/-- The edges between the two places of each vertex. -/
def Dbl (p : List Ed) (n : Nat) (a b : Nat) : Prop := ∃ e, e ∈ p ∧ ((a = e.src ∧ b = e.dst + n) ∨ (a = e.src + n ∧ b = e.dst))
theorem Dbl_snoc (p : List Ed) (x : Ed) (n a b : Nat) : ((Dbl p n a b ∨ (a = x.src ∧ b = x.dst + n)) ∨ (a = x.src + n ∧ b = x.dst)) ↔ Dbl (p ++ [x]) n a b := by
  constructor
  · rintro ((⟨e, he, h⟩ | h) | h)
    · exact ⟨e, List.mem_append.2 (Or.inl he), h⟩
    · exact ⟨x, by simp, Or.inl h⟩
    · exact ⟨x, by simp, Or.inr h⟩
  · rintro ⟨e, he, h⟩
    rcases List.mem_append.1 he with he | he
    · exact Or.inl (Or.inl ⟨e, he, h⟩)
    · rw [List.mem_singleton] at he; subst he
      rcases h with h | h
      · exact Or.inl (Or.inr h)
      · exact Or.inr h
theorem Dbl.lt {p : List Ed} {n a b : Nat} (h : Dbl p n a b) (hp : ∀ e, e ∈ p → Valid n e) : a < 2 * n ∧ b < 2 * n := by
  obtain ⟨e, he, h⟩ := h
  obtain ⟨h1, h2⟩ := hp e he
  omega
/-- What the vertices note. -/
def cV (n : Nat) (ss : List St) (ρ : Nat → Nat) (f : Fd) : Nat → Fd
  | 0 => f
  | k + 1 => noted (cV n ss ρ f k) k 1 (colBad (lab ss k) (ρ k) (ρ (k + n)))

theorem each55 (pb fb ab db sb so rb n N cs cf b1 b2 : Nat) (ss : List St) (L : List Nat) (w : World) (f : Fd)
    (hd : isBlk w db 75 ((⟨n, feedFn b1 b2, .slice (some ⟨sb, so, none⟩) n cs⟩ : Dk).cells f)) (hE : EnvC w pb fb ab db sb so rb n N cs cf ss) (hw : Wds w rb L) (hF : Fst L N) (hNk : N ≤ 1000000) :
    Calls Try.prog 32 #[.pointer (some ⟨db, 0, none⟩), .func (.func 55) #[] #[.pointer (some ⟨fb, 0, none⟩), .pointer (some ⟨ab, 0, none⟩), .pointer (some ⟨pb, 0, none⟩)]] w fun e w' =>
      (∃ x, e = .returned x) ∧ (∃ L', Wds w' rb L' ∧ Same L L' N) ∧ isBlk w' db 75 ((⟨n, feedFn b1 b2, .slice (some ⟨sb, so, none⟩) n cs⟩ : Dk).cells (cV n ss (rt L) f n)) ∧ Chg (Two db rb) w w' := by
  obtain ⟨hss, hN2⟩ := hE.sn
  subst hss
  have hdl := hd.lt
  have hrl := hw.lt
  refine (each_any db 55 _ (enters_of Try.func55 (by kernel_rfl) rfl) ⟨ss.length, feedFn b1 b2, .slice (some ⟨sb, so, none⟩) ss.length cs⟩ f (some ⟨sb, so, none⟩) cs sb so ss (Two db rb)
    (fun k W => isBlk W db 75 ((⟨ss.length, feedFn b1 b2, .slice (some ⟨sb, so, none⟩) ss.length cs⟩ : Dk).cells (cV ss.length ss (rt L) f k)) ∧ EnvC W pb fb ab db sb so rb ss.length N cs cf ss ∧ ∃ L', Wds W rb L' ∧ Same L L' N) w hd rfl (by omega)
    (fun k W h => h.2.1.s) ?_ ?_ ⟨hd, hE, L, hw, Same.refl hF⟩).mono ?_
  · rintro k W W' ⟨h1, h2, L', h3, h4⟩ hk hz
    refine ⟨?_, h2.at (fun j hj => hk _ (hE.lt j hj)) hz, L', h3.keep (hk _ hrl) hz, h4⟩
    unfold isBlk at h1 ⊢; rw [hk _ hdl]; exact h1
  · rintro k W hk ⟨h1, h2, L', h3, h4⟩ hz
    have hla := lab_get hk
    refine (f55_any pb fb ab db sb so rb ss.length N cs cf ss _ _ L L' k ss[k] W h2 h4 hk hNk h1 h3).mono ?_
    rintro e W' ⟨h6, L2, h7, h8, h9, h10⟩
    rw [hla] at h9
    exact ⟨h6, ⟨h9, h2.chg h10, L2, h7, h8⟩, h10⟩
  · rintro e w' ⟨h1, ⟨h2, _, L', h3, h4⟩, h5⟩
    exact ⟨h1, ⟨L', h3, h4⟩, h2, h5⟩

/-- The forest that some edges leave. -/
structure Grown (p : List Ed) (n N : Nat) (L0 L : List Nat) : Prop where
  f : Fst L N
  r : Roots (Dbl p n) (rt L) N
  v : ∀ e, e ∈ p → Valid n e
  len : L.length = L0.length
  far : ∀ j, N ≤ j → L.getD j 0 = L0.getD j 0
theorem Grown.init (n N : Nat) (L0 : List Nat) (hN : N ≤ L0.length) : Grown [] n N L0 (alone L0 N) where
  f := alone_fst hN
  r := (Roots.alone L0 N).congr (fun a b => ⟨fun h => h.elim, fun ⟨e, he, _⟩ => by cases he⟩)
  v := fun e he => by cases he
  len := alone_len hN
  far := fun j hj => by rw [alone_get, if_neg (by omega)]
theorem Grown.step {p : List Ed} {n N : Nat} {L0 L L1 L2 : List Nat} {x : Ed} (h : Grown p n N L0 L) (hN : N = 2 * n) (hx : Valid n x) (h1 : Joined L L1 N x.src (x.dst + n)) (h2 : Joined L1 L2 N (x.src + n) x.dst) : Grown (p ++ [x]) n N L0 L2 where
  f := h2.f
  r := by
    obtain ⟨hx1, hx2⟩ := hx
    have hlt : ∀ a b, Dbl p n a b → a < N ∧ b < N := fun a b hab => by have := hab.lt h.v; omega
    have r1 := h.r.join hlt (by omega) (by omega) h1
    have r2 := r1.join (fun a b hab => by rcases hab with hab | ⟨rfl, rfl⟩; exact hlt a b hab; exact ⟨by omega, by omega⟩) (by omega) (by omega) h2
    exact r2.congr (Dbl_snoc p x n)
  v := fun e he => by
    rcases List.mem_append.1 he with he | he
    · exact h.v e he
    · rw [List.mem_singleton] at he; rw [he]; exact hx
  len := h2.len.trans (h1.len.trans h.len)
  far := fun j hj => (h2.far j hj).trans ((h1.far j hj).trans (h.far j hj))

theorem over53 (pb fb ab db sb so rb n N cs cf b1 b2 eb eo : Nat) (a : Option Addr) (cap : Nat) (es : List Ed) (beh : Nat) (ss : List St) (f : Fd) (L0 : List Nat) (w : World)
    (hd : isBlk w db 75 ((⟨n, feedFn b1 b2, .slice (some ⟨sb, so, none⟩) n cs⟩ : Dk).cells f)) (hE : EnvC w pb fb ab db sb so rb n N cs cf ss) (hNl : N ≤ L0.length) (hNk : N ≤ 1000000)
    (hw : Wds w rb (alone L0 N)) (hF : Fed w b1 b2 eb eo a cap es beh) (hA : Apart b1 b2 eb sb db rb) :
    Calls Try.prog 35 #[.pointer (some ⟨db, 0, none⟩), .func (.func 53) #[] #[.pointer (some ⟨fb, 0, none⟩), .pointer (some ⟨ab, 0, none⟩)]] w fun e w' =>
      ∃ p L, e = .returned (.int .i64 (overErr n es beh)) ∧ (allValid n es = true → p = es) ∧ Wds w' rb L ∧ Grown p n N L0 L ∧ Chg (fun j => j = rb) w w' := by
  obtain ⟨hss, hN2⟩ := hE.sn
  have hdl := hd.lt
  have hrl := hw.lt
  have hnd := hE.nd
  refine (over_any db b1 b2 53 _ (enters_of Try.func53 (by kernel_rfl) rfl) (⟨n, feedFn b1 b2, .slice (some ⟨sb, so, none⟩) n cs⟩ : Dk) a cap eb eo es beh (fun j => j = rb)
    (fun p W => isBlk W db 75 ((⟨n, feedFn b1 b2, .slice (some ⟨sb, so, none⟩) n cs⟩ : Dk).cells f) ∧ EnvC W pb fb ab db sb so rb n N cs cf ss ∧ ∃ L, Wds W rb L ∧ Grown p n N L0 L) w rfl hF.r hF.lt hF.c1 hF.c2 hF.e
    (fun j hj => by rw [hj]; exact hrl) ⟨hA.x1.2, hA.x2.2, hA.x3.2⟩ (fun p W h => ⟨f, h.1⟩) ?_ ?_ ⟨hd, hE, _, hw, Grown.init n N L0 hNl⟩).mono ?_
  · rintro p W W' ⟨h1, h2, L, h3, h4⟩ hk hz
    refine ⟨?_, h2.at (fun j hj => hk _ (hE.lt j hj)) hz, L, h3.keep (hk _ hrl) hz, h4⟩
    unfold isBlk at h1 ⊢; rw [hk _ hdl]; exact h1
  · rintro p x W hx ⟨h1, h2, L, h3, h4⟩ hz
    refine (f53_any pb fb ab db sb so rb n N cs cf ss L x W h2 hx h4.f hNk h3).mono ?_
    rintro e W' ⟨h6, L1, L2, h7, h8, h9, h10⟩
    refine ⟨h6, ⟨?_, h2.chg (h10.mono (fun j h => Or.inr h)), L2, h7, h4.step hN2 hx h8 h9⟩, h10⟩
    exact (h10.block _ h1.lt hnd).trans h1
  · rintro e w' ⟨p, rfl, h1, ⟨_, _, L, h3, h4⟩, h5⟩
    exact ⟨p, L, rfl, h1, h3, h4, h5⟩

/-- What stands in memory while two colours are audited. -/
structure ColW (vb pb fb ab db sb so rb n N cs cf b1 b2 eb eo : Nat) (a : Option Addr) (cap : Nat) (es : List Ed) (beh : Nat) (ss : List St) (w : World) (f : Fd) (L : List Nat) (W : World) : Prop where
  d : isBlk W db 75 ((⟨n, feedFn b1 b2, .slice (some ⟨sb, so, none⟩) n cs⟩ : Dk).cells f)
  e : EnvC W pb fb ab db sb so rb n N cs cf ss
  wd : Wds W rb L
  v : isBlk W vb 35 [.bool false, .int .u32 0, .int .i64 0]
  fe : Fed W b1 b2 eb eo a cap es beh
  c : Chg (fun j => j = rb) w W
  nd : w.heap.size ≤ db ∧ w.heap.size ≤ vb
  nv : vb ≠ db ∧ vb ≠ rb
  ap : Apart b1 b2 eb sb db rb

theorem ColW.go {vb pb fb ab db sb so rb n N cs cf b1 b2 eb eo : Nat} {a : Option Addr} {cap : Nat} {es : List Ed} {beh : Nat} {ss : List St} {w : World} {f f' : Fd} {L L' : List Nat} {W W' : World}
    (h : ColW vb pb fb ab db sb so rb n N cs cf b1 b2 eb eo a cap es beh ss w f L W) (hc : Chg (Two db rb) W W')
    (hd : isBlk W' db 75 ((⟨n, feedFn b1 b2, .slice (some ⟨sb, so, none⟩) n cs⟩ : Dk).cells f')) (hw : Wds W' rb L') :
    ColW vb pb fb ab db sb so rb n N cs cf b1 b2 eb eo a cap es beh ss w f' L' W' where
  d := hd
  e := h.e.chg hc
  wd := hw
  v := by have := h.v; have hl := this.lt; unfold isBlk at this ⊢; rw [hc.block _ hl (by rintro (e | e); exact h.nv.1 e; exact h.nv.2 e)]; exact this
  fe := h.fe.keep (fun j hj hx => hc.block _ hj (by
    have h2 : j ≠ db ∧ j ≠ rb := by
      rcases hx with rfl | rfl | rfl
      · exact h.ap.x1
      · exact h.ap.x2
      · exact h.ap.x3
    rintro (e | e); exact h2.1 e; exact h2.2 e)) hc.size
  c := h.c.then hc (fun j hj => by
    have := h.nd
    rcases hj with rfl | rfl
    · exact Or.inr this.1
    · exact Or.inl rfl)
  nd := h.nd
  nv := h.nv
  ap := h.ap

end Go.Proofs.Ytohmeobfiomfdaa
