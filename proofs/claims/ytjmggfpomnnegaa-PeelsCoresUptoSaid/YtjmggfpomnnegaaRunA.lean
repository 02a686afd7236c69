/-
  run: the walk, but for its four inner loops.
-/
import Derived.Test.YtjmggfpomnnegaaRunM
import Derived.Deep.LoopGhost
import Derived.Deep.DeepCutAuto
import Derived.Deep.CutBlock
namespace Go.Proofs.Ytjmggfpomnnegaa
open Go.RowKit
set_option maxRecDepth 100000

theorem Try.info25 : (Try.prog.info? 25).map (fun i => (i.zero, i.size, i.bytes)) = some (some (.agg #[.int .u64 0, .int .u64 0, .int .u64 0, .int .u64 0, .int .u64 0, .int .u64 0, .int .u64 0, .int .u64 0]), 8, 64) := by kernel_rfl

theorem own_below {w w' : World} {base e size g n cap B : Nat} {xs : List Value} (h : w.ownsRow base e size (.slice (some ⟨g, 0, none⟩) n cap) n xs) (hb : Below B w w') (hg : g < B) :
    w'.ownsRow base e size (.slice (some ⟨g, 0, none⟩) n cap) n xs := by
  obtain ⟨h1, h2⟩ := h
  refine ⟨h1, ?_⟩
  rcases h2 with h2 | ⟨g', cap', cur, hv, hg', hh, r⟩
  · exact Or.inl h2
  · obtain ⟨rfl, rfl⟩ : g = g' ∧ cap = cap' := by
      simp only [Value.slice.injEq, Option.some.injEq, Addr.mk.injEq, and_true, true_and] at hv
      exact hv
    exact Or.inr ⟨g, cap, cur, rfl, hg', by rw [hb.block g hg]; exact hh, r⟩

theorem own_lt {w : World} {base e size g n cap : Nat} {xs : List Value} (h : w.ownsRow base e size (.slice (some ⟨g, 0, none⟩) n cap) n xs) : base ≤ g ∧ g < w.heap.size := h.lt g rfl
theorem own_drew {w : World} {base e size n : Nat} {v : Value} {xs : List Value} (h : w.ownsRow base e size v n xs) : w.drew.ownsRow base e size v n xs := h

theorem folded_n (pr : Prg) (I : Value) (n : Nat) (hpr : PrgOk pr I n) (pb sb : Nat) (c : Ct) (ss : List St) (w : World) (base : Nat) (hp : w.cell? ⟨pb, 0, none⟩ = some I)
    (hS : w.ownsRow base 25 8 (.slice (some ⟨sb, 0, none⟩) n n) n (stCells ss)) (hlen : ss.length = n) (hn : n ≤ 65536) :
    Calls Try.prog 46 #[.pointer (some ⟨pb, 0, none⟩), .agg #[.int .u64 c.k0, .int .u64 c.k1, .int .u64 c.k2, .int .u64 c.k3], .slice (some ⟨sb, 0, none⟩) n n, .int .i64 0] w fun e w' =>
      e = .returned (.tuple #[.agg #[.int .u64 (foldAll pr ss).a0, .int .u64 (foldAll pr ss).a1, .int .u64 (foldAll pr ss).a2, .int .u64 (foldAll pr ss).a3, .int .u64 (foldAll pr ss).a4, .int .u64 (foldAll pr ss).a5, .int .u64 (foldAll pr ss).a6, .int .u64 (foldAll pr ss).a7], .int .i64 0]) ∧ Below w.heap.size w w' := by
  have h := folded_any pr I n hpr pb sb 0 n c ss w hp (IsSts.of_own hS hlen (own_lt hS).2) (by omega)
  rw [hlen] at h
  exact h

/-- The order of the updates of round j + 1. -/
def flOf (flip : Int) (j : Nat) : Bool := (wrap64 (flip + ((j : Int) + 1))).tmod 2 != 0

/-- What lies in memory at the head of a round. -/
structure RunMem (pr : Prg) (n : Nat) (w1 wr : World) (kb gb : Nat) (R : RS) : Prop where
  bel : Below w1.heap.size w1 wr
  c : isBlk wr (w1.heap.size + 1) 35 [.int .u64 R.c.k0, .int .u64 R.c.k1, .int .u64 R.c.k2, .int .u64 R.c.k3]
  k : isBlk wr kb 48 [.int .i64 pr.sA, .int .i64 pr.mA, .int .i64 pr.sB, .int .i64 pr.mB]
  g : isBlk wr gb 25 R.g.cells
  own : wr.ownsRow w1.heap.size 25 8 (.slice (some ⟨w1.heap.size, 0, none⟩) n n) n (stCells R.ss)
  len : R.ss.length = n

theorem RunMem.below {pr : Prg} {n : Nat} {w1 wr wx : World} {kb gb B : Nat} {R : RS} (h : RunMem pr n w1 wr kb gb R) (hb : Below B wr wx) (h1 : w1.heap.size + 1 < B) (h2 : kb < B) (h3 : gb < B) : RunMem pr n w1 wx kb gb R where
  bel := h.bel.trans (hb.mono (by omega))
  c := h.c.below hb h1
  k := h.k.below hb h2
  g := h.g.below hb h3
  own := own_below h.own hb (by omega)
  len := h.len

theorem own_far8 {w : World} {base e size m : Nat} {v : Value} {xs : List Value} (h : w.ownsRow base e size v m xs) {g : Nat} (hv : v.ownBlock ≠ some g) (o : Nat) (x : St) : ((((((((w.setCell ⟨g, o, none⟩ (.int .u64 x.a0)).setCell ⟨g, o + 1, none⟩ (.int .u64 x.a1)).setCell ⟨g, o + 2, none⟩ (.int .u64 x.a2)).setCell ⟨g, o + 3, none⟩ (.int .u64 x.a3)).setCell ⟨g, o + 4, none⟩ (.int .u64 x.a4)).setCell ⟨g, o + 5, none⟩ (.int .u64 x.a5)).setCell ⟨g, o + 6, none⟩ (.int .u64 x.a6)).setCell ⟨g, o + 7, none⟩ (.int .u64 x.a7)).ownsRow base e size v m xs := by
  have hb := below_store8 (Below.refl g w) (Nat.le_refl g) o x
  refine h.kept (row := some g) ⟨hb.os, hb.tape, hb.output, hb.size, fun j hj hne => heap_store8 w g o j x (fun h => hne (by rw [h]))⟩ ?_
  first | exact hv | (cases hq : v.ownBlock <;> simp_all)

theorem RunMem.store8 {pr : Prg} {n : Nat} {w1 wr : World} {kb gb : Nat} {ss : List St} {c : Ct} {g : St} (h : RunMem pr n w1 wr kb gb ⟨ss, c, g⟩) (t : Nat) (ht : t < n) (hk : kb ≠ w1.heap.size) (hg : gb ≠ w1.heap.size) (x : St) :
    RunMem pr n w1 ((((((((wr.setCell ⟨w1.heap.size, t * 8, none⟩ (.int .u64 x.a0)).setCell ⟨w1.heap.size, t * 8 + 1, none⟩ (.int .u64 x.a1)).setCell ⟨w1.heap.size, t * 8 + 2, none⟩ (.int .u64 x.a2)).setCell ⟨w1.heap.size, t * 8 + 3, none⟩ (.int .u64 x.a3)).setCell ⟨w1.heap.size, t * 8 + 4, none⟩ (.int .u64 x.a4)).setCell ⟨w1.heap.size, t * 8 + 5, none⟩ (.int .u64 x.a5)).setCell ⟨w1.heap.size, t * 8 + 6, none⟩ (.int .u64 x.a6)).setCell ⟨w1.heap.size, t * 8 + 7, none⟩ (.int .u64 x.a7)) kb gb ⟨ss.set t x, c, g⟩ where
  bel := below_store8 h.bel (Nat.le_refl _) _ x
  c := by have := h.c; unfold isBlk at this ⊢; rw [heap_store8 _ _ _ _ _ (Nat.succ_ne_self _)]; exact this
  k := by have := h.k; unfold isBlk at this ⊢; rw [heap_store8 _ _ _ _ _ hk]; exact this
  g := by have := h.g; unfold isBlk at this ⊢; rw [heap_store8 _ _ _ _ _ hg]; exact this
  own := own_store8 h.own t (by rw [show ss.length = n from h.len]; exact ht) x
  len := by have := h.len; change ss.length = n at this; change (ss.set t x).length = n; rw [List.length_set]; exact this

theorem RunMem.turned {pr : Prg} {n : Nat} {w1 wr : World} {kb gb : Nat} {ss : List St} {c : Ct} {g : St} (h : RunMem pr n w1 wr kb gb ⟨ss, c, g⟩) (hk : kb ≠ w1.heap.size + 1) (hg : gb ≠ w1.heap.size + 1) (d : Ct) :
    RunMem pr n w1 (((((wr.setCell ⟨w1.heap.size + 1, 0, none⟩ (.int .u64 d.k0)).setCell ⟨w1.heap.size + 1, 1, none⟩ (.int .u64 d.k1)).setCell ⟨w1.heap.size + 1, 2, none⟩ (.int .u64 d.k2)).setCell ⟨w1.heap.size + 1, 3, none⟩ (.int .u64 d.k3)).alloc (.cells #[.int .u64 d.k0, .int .u64 d.k1, .int .u64 d.k2, .int .u64 d.k3] 35)) kb gb ⟨ss, d, g⟩ := by
  have hB : Below (w1.heap.size + 1) wr ((((wr.setCell ⟨w1.heap.size + 1, 0, none⟩ (.int .u64 d.k0)).setCell ⟨w1.heap.size + 1, 1, none⟩ (.int .u64 d.k1)).setCell ⟨w1.heap.size + 1, 2, none⟩ (.int .u64 d.k2)).setCell ⟨w1.heap.size + 1, 3, none⟩ (.int .u64 d.k3)) := (((((Below.refl (w1.heap.size + 1) wr).setCell (p := ⟨w1.heap.size + 1, 0, none⟩) (Nat.le_refl _) _).setCell (p := ⟨w1.heap.size + 1, 1, none⟩) (Nat.le_refl _) _).setCell (p := ⟨w1.heap.size + 1, 2, none⟩) (Nat.le_refl _) _).setCell (p := ⟨w1.heap.size + 1, 3, none⟩) (Nat.le_refl _) _)
  have hc1 : w1.heap.size + 1 < wr.heap.size := h.c.lt
  exact {
    bel := Ball (by have := hB.size; omega) (h.bel.trans (hB.mono (by omega)))
    c := ((((h.c.set 0 _).set 1 _).set 2 _).set 3 _).old _
    k := ((((h.k.other hk).other hk).other hk).other hk).old _
    g := ((((h.g.other hg).other hg).other hg).other hg).old _
    own := (own_below h.own hB (by omega)).alloc _
    len := h.len }

theorem own_lower {w : World} {base base' e size m : Nat} {v : Value} {xs : List Value} (h : w.ownsRow base e size v m xs) (hb : base' ≤ base) : w.ownsRow base' e size v m xs :=
  ⟨h.1, h.2.imp id (fun ⟨g, cap, cur, hv, hg, rest⟩ => ⟨g, cap, cur, hv, Nat.le_trans hb hg, rest⟩)⟩

theorem isBlk.grown {w w' : World} {b : Nat} {T : TypeId} {vs : List Value} {row : Option Nat} (h : isBlk w b T vs) (hg : w.grownBy w' row) (hne : some b ≠ row) : isBlk w' b T vs := by
  have hl := h.lt
  unfold isBlk at h ⊢
  rw [hg.block b hl hne, h]

theorem isBlk.ed {w : World} {b s d x : Nat} (h : isBlk w b 37 [.int .u32 s, .int .u32 d, .int .u32 x]) : w.cell? ⟨b, 0, none⟩ = some (.int .u32 s) ∧ w.cell? ⟨b, 1, none⟩ = some (.int .u32 d) ∧ w.cell? ⟨b, 2, none⟩ = some (.int .u32 x) :=
  ⟨h.cell 0, h.cell 1, h.cell 2⟩

theorem Try.info112 : (Try.prog.info? 112).map (fun i => (i.zero, i.size, i.bytes)) = some (some (.agg #[.int .u32 0, .int .u64 0, .int .u64 0]), 3, 24) := by kernel_rfl

structure Held (P : Prop) : Prop where
  out : P

/-- A goal that hangs on four parts. -/
structure Four (G : Prop) where
  P1 : Prop
  P2 : Prop
  P3 : Prop
  P4 : Prop
  go : Held P1 → Held P2 → Held P3 → Held P4 → G

set_option maxHeartbeats 4000000 in
noncomputable def run_split : Four (∀ (pr : Prg) (I : Value) (n : Nat) (_ : PrgOk pr I n) (pb eb eo cap : Nat) (a : Option Addr) (es : List Ed) (flip : Int) (limit : Nat) (w : World) (_ : w.cell? ⟨pb, 0, none⟩ = some I) (_ : IsEds w a eb eo es) (_ : es.length ≤ 1048576) (_ : n ≤ 65536) (_ : limit ≤ 4294967296) (_ : ∀ e ∈ es, e.src < n ∧ e.dst < n),
    Calls Try.prog 29 #[.pointer (some ⟨pb, 0, none⟩), .int .u32 n, .slice a es.length cap, .int .i64 flip, .int .i64 limit] w fun e w' =>
      ∃ (sb : Nat) (ss : List St) (rr : Nat) (dn : Bool) (fl : Nat → Bool), e = .returned (.tuple #[.slice (some ⟨sb, 0, none⟩) n n, .int .i64 rr, .bool dn, .int .i64 0]) ∧ w'.ownsRow w.heap.size 25 8 (.slice (some ⟨sb, 0, none⟩) n n) n (stCells ss) ∧ ss.length = n ∧
        Below w.heap.size w w' ∧ RunEnds pr n es fl limit ss rr dn) := by
  apply Four.mk
  focus
  intro H1 H2 H3 H4 pr I n hpr pb eb eo cap a es flip limit w hp hE hlen hn hlim hs
  have hpb := World.block_lt_of_cell? w _ hp
  simp only [] at hpb
  obtain ⟨i0, hi, hz0, hz1, hz2⟩ := info_parts Try.info25
  have hmk : ∀ w, (Instr.makeSlice 74 (.int .u32 n) (.int .u32 n)).run Try.prog w = .ok (.slice (some ⟨w.heap.size, 0, none⟩) n n) (w.alloc (.cells (madeCells #[.int .u64 0, .int .u64 0, .int .u64 0, .int .u64 0, .int .u64 0, .int .u64 0, .int .u64 0, .int .u64 0] (n * 8)) 25)) := by
    intro w
    have := run_make w 74 25 i0 (.agg #[.int .u64 0, .int .u64 0, .int .u64 0, .int .u64 0, .int .u64 0, .int .u64 0, .int .u64 0, .int .u64 0]) Try.underlying74 hi hz0 .u32 .u32 n n (by omega) (by omega) (by rw [hz2]; omega) (by omega)
    rw [hz1] at this
    simp only [Int.toNat_natCast, Value.cells] at this
    exact this
  go_enter Try.func29, Try.ntmps29
  go_upto_block 0 with (go_at_call 44; refine (degrees_any n a cap eb eo es _ hE hlen hn hs).mono ?_; rintro e w1 ⟨db, rfl, hD1, hb1⟩)
  clear hmk
  have hdb := (hD1.lt db rfl)
  have hzw := hb1.size
  have hp1 : w1.cell? ⟨pb, 0, none⟩ = some I := by rw [hb1.cell (p := ⟨pb, 0, none⟩) hpb]; exact hp
  have hE1 := hE.below hb1 hE.lt
  have hpb1 : pb < w1.heap.size := by omega
  clear hp hE hpb
  generalize hDg : degs n es = D at *
  have HDG := Lib.hid hDg
  have hDl : D.length = n := by rw [← hDg]; exact degs_len n es
  clear hDg
  go_cut [17] (fun bad wx => bad = .int .i64 0 ∧ Below w1.heap.size w1 wx ∧ isBlk wx (w1.heap.size + 1) 35 [.int .u64 Ct.zero.k0, .int .u64 Ct.zero.k1, .int .u64 Ct.zero.k2, .int .u64 Ct.zero.k3] ∧
    wx.ownsRow w1.heap.size 25 8 (.slice (some ⟨w1.heap.size, 0, none⟩) n n) n (stCells (startL pr D n n)))
  case first =>
    rename_i z0 z1 z2 z3 z4 z5 z6
    clear z2
    revert pr I n hpr pb eb eo cap a es flip limit w hlen hn hlim hs i0 hi hz0 hz1 hz2 z0 w1 db hb1 z1 hdb hzw hp1 hE1 hpb1 D hD1 HDG hDl z3 z4 z5 z6
    exact H1.out
  case rest =>
    obtain ⟨rfl, hbl, hC, hown⟩ := hcut
    have hll := startL_len pr D n n
    generalize hss : startL pr D n n = ss at *
    have HSS := Lib.hid hss
    clear hss
    have hz := hbl.size
    have hCl := hC.lt
    have hpr' : wc.cell? ⟨pb, 0, none⟩ = some I := by rw [hbl.cell (p := ⟨pb, 0, none⟩) hpb1]; exact hp1
    go_wp2_with fail
    (with_reducible refine Calls.mono (hpr.sink pb _ hpr') ?_)
    rintro e w2 ⟨rfl, hb2⟩
    have hown2 := own_below hown hb2 (by omega)
    have hC2 := hC.below hb2 hCl
    have hbl2 := hbl.trans (hb2.mono hz)
    have hz2 := hb2.size
    have hpr2 : w2.cell? ⟨pb, 0, none⟩ = some I := by rw [hb2.cell (p := ⟨pb, 0, none⟩) (by simp; omega)]; exact hpr'
    obtain ⟨q0, q1, q2, q3⟩ := hC2.ct
    clear hpr' hown hC hbl hb2
    have hlt2 : w1.heap.size + 1 < w2.heap.size := by omega
    go_wp2_with fail
    have hpr3 : (w2.alloc (.cells #[.int .i64 pr.sA, .int .i64 pr.mA, .int .i64 pr.sB, .int .i64 pr.mB] 48)).cell? ⟨pb, 0, none⟩ = some I := by rw [World.cell?_alloc_past _ _ _ (by omega)]; exact hpr2
    (with_reducible refine Calls.mono (folded_n pr I n hpr pb w1.heap.size Ct.zero ss _ w1.heap.size hpr3 (hown2.alloc _) hll hn) ?_)
    rintro e w3 ⟨rfl, hb3⟩
    have hown3 := own_below (hown2.alloc (.cells #[.int .i64 pr.sA, .int .i64 pr.mA, .int .i64 pr.sB, .int .i64 pr.mB] 48)) hb3 (by simp; omega)
    have hC3 := (hC2.old (.cells #[.int .i64 pr.sA, .int .i64 pr.mA, .int .i64 pr.sB, .int .i64 pr.mB] 48)).below hb3 (by simp; omega)
    have hK3 := (isBlk.new w2 48 [.int .i64 pr.sA, .int .i64 pr.mA, .int .i64 pr.sB, .int .i64 pr.mB]).below hb3 (by simp)
    have hbl3 := (Ball (o := .cells #[.int .i64 pr.sA, .int .i64 pr.mA, .int .i64 pr.sB, .int .i64 pr.mB] 48) (by omega) hbl2).trans (hb3.mono (by simp; omega))
    have hz3 : w2.heap.size + 1 ≤ w3.heap.size := by have := hb3.size; simpa using this
    clear hb3 hpr2 hpr3 hown2 hC2 hbl2 q0 q1 q2 q3
    obtain ⟨kb, hkb⟩ : ∃ kb, kb = w2.heap.size := ⟨_, rfl⟩
    obtain ⟨gb, hgb⟩ : ∃ gb, gb = w3.heap.size := ⟨_, rfl⟩
    rw [← hkb] at hK3 hz3 hlt2 ⊢
    have HKB := Lib.hid hkb
    have hlt3 : kb < gb := by omega
    have hown4 := hown3.alloc (.cells (foldAll pr ss).cells.toArray 25)
    have hC4 := hC3.old (.cells (foldAll pr ss).cells.toArray 25)
    have hK4 := hK3.old (.cells (foldAll pr ss).cells.toArray 25)
    have hG4 := isBlk.new w3 25 (foldAll pr ss).cells
    have hbl4 := Ball (o := .cells (foldAll pr ss).cells.toArray 25) (by omega) hbl3
    have hz4 : gb < (w3.alloc (.cells (foldAll pr ss).cells.toArray 25)).heap.size := by rw [World.size_alloc]; omega
    rw [← hgb] at hG4
    clear hown3 hC3 hK3 hbl3 hkb hz2 hz3
    have hR0 : afterR pr n es (flOf flip) 0 = ⟨ss, Ct.zero, foldAll pr ss⟩ := by unfold afterR begins; rw [HDG.out, HSS.out]
    have hM4 : RunMem pr n w1 (w3.alloc (.cells (foldAll pr ss).cells.toArray 25)) kb gb (afterR pr n es (flOf flip) 0) := by rw [hR0]; exact ⟨hbl4, hC4, hK4, hG4, hown4, hll⟩
    have HGB := Lib.hid hgb
    have HR0 := Lib.hid hR0
    clear hbl4 hC4 hK4 hG4 hown4 hll hR0
    go_upto_block 2 with fail
    go_wp2_with fail
    simp only [← hgb]
    clear hgb
    go_loopg [17, 23] limit (fun gk bad rd wr => ∃ r : Nat, r + gk = limit ∧ rd = .int .i64 (r + 1 : Nat) ∧ bad = .int .i64 0 ∧ RunMem pr n w1 wr kb gb (afterR pr n es (flOf flip) r) ∧ ∀ j, j < r → doneR pr n es (flOf flip) j = false)
    case atStart => exact ⟨0, by omega, rfl, rfl, hM4, fun j h => absurd h (Nat.not_lt_zero _)⟩
    case round =>
      obtain ⟨r, hr, rfl, rfl, hM, hdone⟩ := hrel
      obtain ⟨wo, rfl⟩ : ∃ wo : World, wo = wr := ⟨_, rfl⟩
      have HDN := Lib.hid hdone
      clear hdone hM4
      by_cases hlt : r < limit
      · have h1 : ((r + 1 : Nat) : Int) ≤ limit := by omega
        have hRl := hM.len
        have hcl := hM.c.lt
        have hkl := hM.k.lt
        have hgl := hM.g.lt
        generalize hR : afterR pr n es (flOf flip) r = R at *
        obtain ⟨ss, c, g⟩ := R
        have HR := Lib.hid hR
        clear hR
        simp only [] at hRl hM
        obtain ⟨i1, hi1, hz10, hz11, hz12⟩ := info_parts Try.info112
        obtain ⟨bu, hbu⟩ : ∃ bu, bu = wo.heap.size := ⟨_, rfl⟩
        have HBU := Lib.hid hbu
        rw [← hbu] at hcl hkl hgl
        clear hbu
        go_upto_block 4 with fail
        go_cut [17, 24] (fun bad v wx => bad = .int .i64 0 ∧ Below bu wo wx ∧ wx.ownsRow bu 112 3 v (sends pr c ss es).length (upCells (sends pr c ss es)))
        case first =>
          rename_i z0 z1 z2 z3 z4 z5 z6 z7 z8 z9 z10 z11 z12 z13 z14 z15 z16
          clear z3 z6 z7 z8 z10 z12
          revert pr I n hpr pb eb eo cap a es flip limit w hlen hn hlim hs i0 hi hz0 hz1 hz2 z0 w1 db hb1 hdb hzw hp1 hE1 hpb1 D hD1 HDG hDl wc u18 u19 u20 u46 u47 u48 u49 u50 u51 u52 u53 u54 u55 u56 u57 u58 u59 u60 u61 u62 u63 u64 u65 u66 u67 z1 HSS hz hCl w2 w3 kb hlt2 gb HKB hlt3 hz4 HGB HR0 z2 gk u10 u11 u12 u13 u24 u25 u26 u27 u28 u29 u30 u31 u32 u33 u34 u35 u36 u37 u38 u39 u40 u78 u79 u80 u81 u82 u83 u84 u85 u86 u87 u88 u89 u90 u91 u92 u93 u94 u95 u96 u97 u98 u99 u100 u101 u102 u103 u104 u105 u106 u107 u108 u109 u110 u111 u112 u113 u114 u115 u116 u117 u118 u119 u120 u121 u122 u123 u124 u125 u126 u127 u128 u129 u130 u131 u132 u133 u134 u135 u136 u137 u138 u139 u140 u141 u142 u143 u144 u145 u146 u147 u148 u149 u150 u151 u152 u153 u154 u155 u156 u157 u158 u159 u160 u161 u162 u163 u164 u165 u166 u167 u168 u169 u170 u171 u172 u173 u174 u175 u176 u177 u178 u179 u180 u181 u182 u183 u184 u185 u186 u187 u188 u189 u190 u191 u192 u193 u194 u195 u196 u197 u198 u199 u200 u201 u202 u203 u204 u205 u206 u207 u208 u209 u210 u211 u212 u213 u214 u215 u216 u217 u218 u219 u220 u221 u222 u223 u224 u225 u226 u227 u228 u229 u230 u231 u232 u233 u234 u235 u236 u237 u238 u239 u240 u241 u242 u243 u244 u245 u246 u247 u248 u249 u250 u251 u252 u253 u254 u255 u256 u257 u258 u259 z4 z5 r hr wo HDN hlt h1 ss c g hM hRl HR i1 hi1 hz10 hz11 hz12 bu hgl hkl hcl HBU z9 z11 z13 z14 z15 z16
          exact H2.out
        case rest =>
          obtain ⟨rfl, hbx, hus⟩ := hcut
          have hUl := sends_len pr c ss es
          have hUt := sends_to pr c ss es n hs
          have hzc : bu ≤ wc.heap.size := by have := hbx.size; rw [← HBU.out] at this; exact this
          have hMc := hM.below hbx hcl hkl hgl
          clear hM hbx
          generalize hU : sends pr c ss es = U at *
          have HU := Lib.hid hU
          clear hU
          go_upto_block 6 with fail
          go_cut [] (fun wx => RunMem pr n w1 wx kb gb ⟨gatherU pr ss (turned (flOf flip r) U), c, g⟩ ∧ bu ≤ wx.heap.size)
          case first =>
            rename_i z0 z1 z2 z3 z4 z5 z6 z7 z8 z9 z10 z11 z12 z13 z14 z15 z16 z17 z18 z19 z20 z21 z22 z23 z24 z25 z26 z27 z28 z29 z30 z31 z32 z33 z34 z35 z36 z37 z38 z39 z40 z41 z42 z43 z44 z45 z46 z47 z48 z49 z50 z51 z52 z53 z54 z55 z56 z57 z58 z59 z60 z61 z62 z63 z64 z65 z66 z67 z68 z69 z70 z71 z72 z73 z74 z75 z76 z77 z78 z79 z80 z81 z82 z83 z84 z85 z86
            clear z4 z76 z77 z78 z80 z82
            revert pr I n hpr pb eb eo cap a es flip limit w hlen hn hlim hs i0 hi hz0 hz1 hz2 z0 w1 db hb1 hdb hzw hp1 hE1 hpb1 D hD1 HDG hDl z1 u18 u19 u20 u46 u47 u48 u49 u50 u51 u52 u53 u54 u55 u56 u57 u58 u59 u60 u61 u62 u63 u64 u65 u66 u67 z2 HSS hz hCl w2 w3 kb hlt2 gb HKB hlt3 hz4 HGB HR0 z3 gk u10 u11 u12 u13 z5 z6 z7 z8 z9 z10 z11 u31 u32 u33 u34 u35 u36 u37 u38 u39 u40 u78 u79 u80 u81 u82 u83 u84 u85 u86 z12 z13 z14 z15 z16 z17 z18 z19 z20 z21 z22 z23 z24 z25 z26 z27 z28 z29 z30 z31 z32 z33 z34 z35 z36 z37 z38 z39 z40 z41 z42 z43 z44 z45 z46 z47 z48 z49 z50 z51 z52 z53 z54 z55 z56 z57 z58 z59 z60 z61 z62 z63 z64 z65 z66 z67 z68 z69 z70 z71 z72 z73 u149 u150 u151 u152 u153 u154 u155 u156 u157 u158 u159 u160 u161 u162 u163 u164 u165 u166 u167 u168 u169 u170 u171 u172 u173 u174 u175 u176 u177 u178 u179 u180 u181 u182 u183 u184 u185 u186 u187 u188 u189 u190 u191 u192 u193 u194 u195 u196 u197 u198 u199 u200 u201 u202 u203 u204 u205 u206 u207 u208 u209 u210 u211 u212 u213 u214 u215 u216 u217 u218 u219 u220 u221 u222 u223 u224 u225 u226 u227 u228 u229 u230 u231 u232 u233 u234 u235 u236 u237 u238 u239 u240 u241 u242 u243 u244 u245 u246 u247 u248 u249 u250 u251 u252 u253 u254 u255 u256 u257 u258 u259 z74 z75 r hr wo HDN hlt h1 ss c g hRl HR i1 hi1 hz10 hz11 hz12 bu hgl hkl hcl HBU z79 wc u24 u25 u26 u27 u28 u29 u30 u87 u88 u89 u90 u91 u92 u93 u94 u95 u96 u97 u98 u99 u100 u101 u102 u103 u104 u105 u106 u107 u108 u109 u110 u111 u112 u113 u114 u115 u116 u117 u118 u119 u120 u121 u122 u123 u124 u125 u126 u127 u128 u129 u130 u131 u132 u133 u134 u135 u136 u137 u138 u139 u140 u141 u142 u143 u144 u145 u146 u147 u148 hzc hMc U hus hUl hUt HU z81 z83 z84 z85 z86
            exact H3.out
          case rest =>
            clear hMc hzc hus
            obtain ⟨hMg, hzg⟩ := hcut
            generalize hSS2 : gatherU pr ss (turned (flOf flip r) U) = SS at *
            have HSS2 := Lib.hid hSS2
            clear hSS2
            have hSl : SS.length = n := hMg.len
            go_upto_block 8 with fail
            go_cut [17, 33] (fun bad v wx => bad = .int .i64 0 ∧ (∃ z : Int, v = .int .u64 z) ∧ RunMem pr n w1 wx kb gb ⟨appL pr c g SS n n, c, g⟩)
            case first =>
              rename_i z0 z1 z2 z3 z4 z5 z6 z7 z8 z9 z10 z11 z12 z13 z14 z15 z16 z17 z18 z19 z20 z21 z22 z23 z24 z25 z26 z27 z28 z29 z30 z31 z32 z33 z34 z35 z36 z37 z38 z39 z40 z41 z42 z43 z44 z45 z46 z47 z48 z49 z50 z51 z52 z53 z54 z55 z56 z57 z58 z59 z60 z61 z62 z63 z64 z65 z66 z67 z68 z69 z70 z71 z72 z73 z74 z75 z76 z77 z78 z79 z80 z81 z82 z83 z84 z85 z86 z87 z88 z89 z90 z91 z92 z93 z94 z95 z96 z97 z98 z99 z100 z101 z102 z103 z104 z105 z106 z107 z108 z109 z110 z111 z112 z113 z114 z115 z116 z117 z118 z119 z120 z121 z122 z123 z124 z125 z126 z127 z128 z129 z130 z131 z132 z133 z134 z135 z136 z137 z138 z139 z140 z141 z142 z143 z144
              clear z4 z133 z134 z135 z137 z140
              revert pr I n hpr pb eb eo cap a es flip limit w hlen hn hlim hs i0 hi hz0 hz1 hz2 z0 w1 db hb1 hdb hzw hp1 hE1 hpb1 D hD1 HDG hDl z1 u18 u19 u20 u46 u47 u48 u49 u50 u51 u52 u53 u54 u55 u56 u57 u58 u59 u60 u61 u62 u63 u64 u65 u66 u67 z2 HSS hz hCl w2 w3 kb hlt2 gb HKB hlt3 hz4 HGB HR0 z3 gk u10 u11 u12 u13 z5 z6 z7 z8 z9 z10 z11 z12 z13 u33 u34 u35 u36 u37 u38 u39 u40 u78 u79 u80 u81 u82 u83 u84 u85 u86 z14 z15 z16 z17 z18 z19 z20 z21 z22 z23 z24 z25 z26 z27 z28 z29 z30 z31 z32 z33 z34 z35 z36 z37 z38 z39 z40 z41 z42 z43 z44 z45 z46 z47 z48 z49 z50 z51 z52 z53 z54 z55 z56 z57 z58 z59 z60 z61 z62 z63 z64 z65 z66 z67 z68 z69 z70 z71 z72 z73 z74 z75 z76 z77 z78 z79 z80 z81 z82 z83 z84 z85 z86 z87 z88 z89 z90 z91 z92 z93 z94 z95 z96 z97 z98 z99 z100 z101 z102 z103 z104 z105 z106 z107 z108 z109 z110 z111 z112 z113 z114 z115 z116 z117 z118 z119 z120 z121 z122 z123 z124 z125 z126 z127 z128 z129 z130 u204 u205 u206 u207 u208 u209 u210 u211 u212 u213 u214 u215 u216 u217 u218 u219 u220 u221 u222 u223 u224 u225 u226 u227 u228 u229 u230 u231 u232 u233 u234 u235 u236 u237 u238 u239 u240 u241 u242 u243 u244 u245 u246 u247 u248 u249 u250 u251 u252 u253 u254 u255 u256 u257 u258 u259 z131 z132 r hr wo HDN hlt h1 ss c g hRl HR i1 hi1 hz10 hz11 hz12 bu hgl hkl hcl HBU z136 z138 u24 u25 u26 u27 u28 u29 u30 u87 u88 u89 u90 u91 u92 u93 u94 u95 u96 u97 u98 u99 u100 u101 u102 u103 u104 u105 u106 u107 u108 u109 u110 u111 u112 u113 u114 u115 u116 u117 u118 u119 u120 u121 u122 u123 u124 u125 u126 u127 u128 u129 u130 u131 u132 u133 u134 u135 u136 u137 u138 u139 u140 u141 u142 u143 u144 u145 u146 u147 u148 U hUl hUt HU wc u31 u32 u149 u150 u151 u152 u153 u154 u155 u156 u157 u158 u159 u160 u161 u162 u163 u164 u165 u166 u167 u168 u169 u170 u171 u172 u173 u174 u175 u176 u177 u178 u179 u180 u181 u182 u183 u184 u185 u186 u187 u188 u189 u190 u191 u192 u193 u194 u195 u196 u197 u198 u199 u200 u201 u202 u203 hzg SS hMg HSS2 hSl z139 z141 z142 z143 z144
              exact H4.out
            case rest =>
              clear hMg hSl
              obtain ⟨rfl, ⟨z, rfl⟩, hMh⟩ := hcut
              have hap : appL pr c g SS n n = roundS pr n es (flOf flip r) c g ss := by unfold roundS; rw [HU.out, HSS2.out]
              rw [hap] at hMh
              clear hap
              generalize hT : roundS pr n es (flOf flip r) c g ss = T at *
              have HT := Lib.hid hT
              clear hT
              have hTl : T.length = n := hMh.len
              have hsx : w1.heap.size < wc.heap.size := by have := hMh.c.lt; omega
              have hcx : w1.heap.size + 1 < wc.heap.size := hMh.c.lt
              have hgx : gb < wc.heap.size := hMh.g.lt
              have hkx : kb < wc.heap.size := hMh.k.lt
              have hprx : wc.cell? ⟨pb, 0, none⟩ = some I := by rw [hMh.bel.cell (p := ⟨pb, 0, none⟩) hpb1]; exact hp1
              obtain ⟨q0, q1, q2, q3⟩ := hMh.c.ct
              obtain ⟨g0, g1, g2, g3, g4, g5, g6, g7⟩ := hMh.g.st
              go_wp2_with fail
              (with_reducible refine Calls.mono (folded_n pr I n hpr pb w1.heap.size c T _ w1.heap.size ?_ ?_ hTl hn) ?_)
              focus (exact hprx)
              focus (exact hMh.own)
              rintro e w2 ⟨rfl, hb2⟩
              have hM2 := hMh.below hb2 hcx hkx hgx
              clear hMh g0 g1 g2 g3 g4 g5 g6 g7 q0 q1 q2 q3 hprx
              have hz2 := hb2.size
              generalize hF : foldAll pr T = F at *
              have HF := Lib.hid hF
              clear hF hb2
              obtain ⟨g0, g1, g2, g3, g4, g5, g6, g7⟩ := hM2.g.st
              obtain ⟨q0, q1, q2, q3⟩ := hM2.c.ct
              have hff : ∀ j, w2.frozen? ⟨gb, j, none⟩ = false := fun j => hM2.g.frozen j
              have hgc : ¬ gb = w1.heap.size + 1 := by omega
              have hcg : ¬ w1.heap.size + 1 = gb := by omega
              go_wp2_with fail
              obtain ⟨wy, hwy⟩ : ∃ wy : World, wy = ((((((((w2.setCell ⟨gb, 0, none⟩ (.int .u64 F.a0)).setCell ⟨gb, 1, none⟩ (.int .u64 F.a1)).setCell ⟨gb, 2, none⟩ (.int .u64 F.a2)).setCell ⟨gb, 3, none⟩ (.int .u64 F.a3)).setCell ⟨gb, 4, none⟩ (.int .u64 F.a4)).setCell ⟨gb, 5, none⟩ (.int .u64 F.a5)).setCell ⟨gb, 6, none⟩ (.int .u64 F.a6)).setCell ⟨gb, 7, none⟩ (.int .u64 F.a7)) := ⟨_, rfl⟩
              have hM3 : RunMem pr n w1 wy kb gb ⟨T, c, F⟩ := by
                rw [hwy]
                refine ⟨below_st8 hM2.bel (by omega) F, hM2.c.st8o hcg F, hM2.k.st8o (by omega) F, hM2.g.st8 F, own_far8 hM2.own ?_ 0 F, hTl⟩
                exact fun h => absurd (show w1.heap.size = gb by simpa [Value.ownBlock] using h) (by omega)
              rw [← hwy]
              clear hwy g0 g1 g2 g3 g4 g5 g6 g7 q0 q1 q2 q3 hff
              have hpry : wy.cell? ⟨pb, 0, none⟩ = some I := by rw [hM3.bel.cell (p := ⟨pb, 0, none⟩) hpb1]; exact hp1
              (with_reducible refine Calls.mono (hpr.turn pb c F _ _ _ ?_) ?_)
              focus (exact hpry)
              rintro e w4 ⟨rfl, hb4⟩
              have hM4 := hM3.below hb4 hM3.c.lt hM3.k.lt hM3.g.lt
              clear hM2 hM3 hpry hb4
              obtain ⟨q0, q1, q2, q3⟩ := hM4.c.ct
              have hff : ∀ j, w4.frozen? ⟨w1.heap.size + 1, j, none⟩ = false := fun j => hM4.c.frozen j
              have hc4 : w1.heap.size + 1 < w4.heap.size := hM4.c.lt
              have hc5 : ¬ w1.heap.size + 1 = w4.heap.size := by omega
              cases hdn : (pr.turn c F).2
              · have HDN2 := Lib.hid hdn
                clear hdn
                go_wp2_with (first | (go_at_call 45; refine (worse_ok 0 rfl _).mono ?_; rintro e w3 ⟨rfl, rfl⟩))
                go_roundg (gk - 1)
                case measure => omega
                case rel =>
                  refine ⟨r + 1, by omega, by go_num, rfl, ?_, ?_⟩
                  · have hA : afterR pr n es (flOf flip) (r + 1) = ⟨T, (pr.turn c F).1, F⟩ := by
                      show (roundR pr n es (flOf flip r) (afterR pr n es (flOf flip) r)).1 = _
                      rw [HR.out]; unfold roundR; simp only [HT.out, HF.out]
                    rw [hA]
                    exact hM4.turned (by omega) (by omega) (pr.turn c F).1
                  · intro j hj
                    by_cases hjr : j = r
                    · subst hjr
                      unfold doneR; rw [HR.out]; unfold roundR; simp only [HT.out, HF.out]; exact HDN2.out
                    · exact HDN.out j (by omega)
              · have HDN2 := Lib.hid hdn
                clear hdn
                go_wp2_with (first | (go_at_call 45; refine (worse_ok 0 rfl _).mono ?_; rintro e w3 ⟨rfl, rfl⟩))
                have hM5 := hM4.turned (by omega) (by omega) (pr.turn c F).1
                have hA : afterR pr n es (flOf flip) (r + 1) = ⟨T, (pr.turn c F).1, F⟩ := by
                  show (roundR pr n es (flOf flip r) (afterR pr n es (flOf flip) r)).1 = _
                  rw [HR.out]; unfold roundR; simp only [HT.out, HF.out]
                have hD : doneR pr n es (flOf flip) r = true := by
                  unfold doneR; rw [HR.out]; unfold roundR; simp only [HT.out, HF.out]; exact HDN2.out
                refine bodyPost_ret (v := .tuple #[.slice (some ⟨w1.heap.size, 0, none⟩) n n, .int .i64 ((r + 1 : Nat) : Int), .bool true, .int .i64 0]) (by simp [results, Try.results29, go_sem]) rfl ⟨w1.heap.size, T, r + 1, true, flOf flip, rfl, own_lower hM5.own (by omega), hTl, hb1.trans (hM5.bel.mono hzw), Or.inl ⟨rfl, r, hlt, rfl, hD, HDN.out, by rw [hA]⟩⟩
      · have hrl : r = limit := by omega
        have hTl := hM.len
        have hbel := hb1.trans (hM.bel.mono hzw)
        have hown := hM.own
        go_wp2
        refine bodyPost_ret (v := .tuple #[.slice (some ⟨w1.heap.size, 0, none⟩) n n, .int .i64 (limit : Int), .bool false, .int .i64 0]) (by simp [results, Try.results29, go_sem]) rfl ⟨w1.heap.size, (afterR pr n es (flOf flip) limit).ss, limit, Or.inl ⟨rfl, ?_, ?_, hbel, flOf flip, Or.inr ⟨rfl, rfl, fun j hj => HDN.out j (by omega), rfl⟩⟩⟩
        · rw [← hrl]; exact own_lower hown (by omega)
        · rw [← hrl]; exact hTl

end Go.Proofs.Ytjmggfpomnnegaa
