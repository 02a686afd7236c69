/-
  The statement AuditPlaced: the walk.
-/
import Derived.Test.YtohmeobfiomfdaaPla8
import Derived.Deep.CutRange
namespace Go.Proofs.Ytohmeobfiomfdaa
open Go.RowKit Go.Shelf
set_option maxRecDepth 100000

theorem graph_w (n sl sc eb eo ec K m : Nat) (sa ea : Option Addr) (beh room : Int) (x5 x6 x7 x8 x9 x10 x11 x12 x13 : Value) (es : List Ed) (w : World) (hn : n ≤ 4294967295) (hE : IsEds w ea eb eo es) (hel : es.length ≤ 1048576) (hK : min es.length 500 = K) (hm : szN n = m) :
    Calls Try.prog 23 #[.agg #[.int .u32 n, .slice sa sl sc, .slice ea es.length ec, .int .i64 beh, .int .i64 room, x5, x6, x7, x8, x9, x10, x11, x12, x13], .int .i64 1] w fun e w' => ∃ (a : Option Addr) (cap : Nat), e = .returned (.slice a K cap) ∧ Hid (∃ g, IsEds w' a g 0 (graphE m es K)) ∧ Below w.heap.size w w' := by
  subst hK
  subst hm
  refine (graph_any n sl sc eb eo ec sa ea beh room x5 x6 x7 x8 x9 x10 x11 x12 x13 es w hn hE hel).mono ?_
  rintro e w' ⟨a, cap, h1, g, h2, _, h3⟩
  exact ⟨a, cap, h1, Lib.hid ⟨g, h2⟩, h3⟩
theorem size_w (n sl sc el ec m : Nat) (sa ea : Option Addr) (beh room : Int) (x5 x6 x7 x8 x9 x10 x11 x12 x13 : Value) (w : World) (hn : n ≤ 4294967295) (hm : szN n = m) : Calls Try.prog 22 #[.agg #[.int .u32 n, .slice sa sl sc, .slice ea el ec, .int .i64 beh, .int .i64 room, x5, x6, x7, x8, x9, x10, x11, x12, x13]] w fun e w' => e = .returned (.int .u32 m) ∧ Below w.heap.size w w' := by
  subst hm
  exact size_any n sl sc el ec sa ea beh room x5 x6 x7 x8 x9 x10 x11 x12 x13 w hn
theorem wcc_w (n ec eb K : Nat) (ea : Option Addr) (es : List Ed) (w : World) (hE : IsEds w ea eb 0 es) (hn : n ≤ 5000) (hn1 : 1 ≤ n) (hlen : es.length ≤ 1048576) (hva : ∀ e, e ∈ es → Valid n e) (hK : es.length = K) :
    Calls Try.prog 24 #[.int .u32 n, .slice ea K ec] w fun e w' => ∃ (g : Nat), e = .returned (.slice (some ⟨g, 0, none⟩) n n) ∧ Hid (∃ LL, w.heap.size ≤ g ∧ Wds w' g LL ∧ LL.length = n ∧ ∃ ρ, Roots (Sgl es) ρ n ∧ ∀ v, v < n → LL.getD v 0 = ρ v) ∧ Below w.heap.size w w' := by
  subst hK
  refine (refWCC_any n ec eb 0 ea es w hE hn hn1 hlen hva).mono ?_
  rintro e w' ⟨g, L, ρ, h1, h2, h3, h4, h5, h6, h7⟩
  exact ⟨g, h1, Lib.hid ⟨L, h2, h3, h4, ρ, h5, h6⟩, h7⟩
theorem corenum_w (n ec eb K : Nat) (ea : Option Addr) (es : List Ed) (w : World) (hE : IsEds w ea eb 0 es) (hn : n ≤ 5000) (hn1 : 1 ≤ n) (hlen : es.length ≤ 1048576) (hva : ∀ e, e ∈ es → Valid n e) (hK : es.length = K) :
    Calls Try.prog 25 #[.int .u32 n, .slice ea K ec] w fun e w' => ∃ (g : Nat), e = .returned (.slice (some ⟨g, 0, none⟩) n n) ∧ Hid (∃ T, w.heap.size ≤ g ∧ Wds w' g T ∧ T.length = n ∧ ∃ P, Peeled es n P ∧ ∀ v, v < n → T.getD v 0 = P.getD v 0 - 1) ∧ Hid (Below w.heap.size w w') := by
  subst hK
  refine (refCores_any n ec eb 0 ea es w hE hn hn1 hlen hva).mono ?_
  rintro e w' ⟨g, h1, ⟨T, P, h2, h3, h4, h5, h6, h7⟩⟩
  exact ⟨g, h1, Lib.hid ⟨T, h3, h4, h5, P, h2, h6⟩, Lib.hid h7⟩
theorem colours_w (n ec eb K : Nat) (ea : Option Addr) (es : List Ed) (w : World) (hE : IsEds w ea eb 0 es) (hn : n ≤ 5000) (hn1 : 1 ≤ n) (hlen : es.length ≤ 1048576) (hva : ∀ e, e ∈ es → Valid n e) (hK : es.length = K) :
    Calls Try.prog 21 #[.int .u32 n, .slice ea K ec] w fun e w' => ∃ (g : Nat), e = .returned (.slice (some ⟨g, 0, none⟩) n n) ∧ Hid (∃ C, w.heap.size ≤ g ∧ Wds w' g C ∧ C.length = n ∧ ∀ ρ2, Roots (Dbl es n) ρ2 (2 * n) → ∀ v, v < n → C.getD v 0 = wantC (ρ2 v) (ρ2 (v + n))) ∧ Below w.heap.size w w' := by
  subst hK
  refine (refColours_any n ec eb 0 ea es w hE hn hn1 hlen hva).mono ?_
  rintro e w' ⟨g, T, h1, h2, h3, h4, h5, h6⟩
  exact ⟨g, h1, Lib.hid ⟨T, h2, h3, h4, h5⟩, h6⟩
theorem statesO_w (a : Option Addr) (sb so sc : Nat) (ss : List St) (r : Nat) (w : World) (hs : IsSts w a sb so ss) (hr : r ≤ 1048576) (hsl : ss.length ≤ 1048576) :
    Calls Try.prog 6 #[.slice a ss.length sc, .int .i64 r] w fun e w' => ∃ g cap, e = .returned (.slice (some ⟨g, 0, none⟩) r cap) ∧ Hid (r ≤ cap ∧ w.heap.size ≤ g ∧ ∃ S, S.length = r ∧ Sts8 w' g S) ∧ Below w.heap.size w w' := by
  refine (states_own a sb so sc ss r w hs hr hsl).mono ?_
  rintro e w' ⟨g, cap, h1, h2, h3, h4, h5, h6⟩
  exact ⟨g, cap, h1, Lib.hid ⟨by omega, h5, padS ss r, padS_len ss r, h3.left, h4, h3.lt (by simp)⟩, h6⟩

/-- What stands in memory between the rounds. -/
structure PlW (w0 : World) (sg rb lb kb cb : Nat) (a2 : Option Addr) (eg : Nat) (ge : List Ed) (S : List St) (l LL T C : List Nat) (W : World) : Prop where
  ed : IsEds W a2 eg 0 ge
  st : Sts8 W sg S
  rm : Wds W rb l
  lw : Wds W lb LL
  kw : Wds W kb T
  cw : Wds W cb C
  b : Below w0.heap.size w0 W
  z : w0.heap.size ≤ sg ∧ w0.heap.size ≤ rb
  n1 : 0 < ge.length → eg ≠ rb ∧ eg ≠ sg
  n2 : sg ≠ rb ∧ lb ≠ rb ∧ kb ≠ rb ∧ cb ≠ rb
  n3 : lb ≠ sg ∧ kb ≠ sg ∧ cb ≠ sg
theorem PlW.below {w0 W W' : World} {sg rb lb kb cb : Nat} {a2 : Option Addr} {eg : Nat} {ge : List Ed} {S : List St} {l LL T C : List Nat} (h : PlW w0 sg rb lb kb cb a2 eg ge S l LL T C W) (hb : Below W.heap.size W W') : PlW w0 sg rb lb kb cb a2 eg ge S l LL T C W' :=
  ⟨h.ed.below hb h.ed.lt, h.st.keep (hb.block _ h.st.lt) hb.size, h.rm.keep (hb.block _ h.rm.lt) hb.size, h.lw.keep (hb.block _ h.lw.lt) hb.size, h.kw.keep (hb.block _ h.kw.lt) hb.size, h.cw.keep (hb.block _ h.cw.lt) hb.size, h.b.trans (hb.mono h.b.size), h.z, h.n1, h.n2, h.n3⟩
theorem PlW.room {w0 W W' : World} {sg rb lb kb cb : Nat} {a2 : Option Addr} {eg : Nat} {ge : List Ed} {S : List St} {l l' LL T C : List Nat} (h : PlW w0 sg rb lb kb cb a2 eg ge S l LL T C W) (hc : Chg (fun j => j = rb) W W') (hw : Wds W' rb l') : PlW w0 sg rb lb kb cb a2 eg ge S l' LL T C W' :=
  ⟨h.ed.keep (fun h0 => hc.block _ (h.ed.lt h0) (h.n1 h0).1) hc.size, h.st.keep (hc.block _ h.st.lt h.n2.1) hc.size, hw, h.lw.keep (hc.block _ h.lw.lt h.n2.2.1) hc.size, h.kw.keep (hc.block _ h.kw.lt h.n2.2.2.1) hc.size, h.cw.keep (hc.block _ h.cw.lt h.n2.2.2.2) hc.size, h.b.trans (hc.below h.b.size (fun j hj => by rw [hj]; exact h.z.2)), h.z, h.n1, h.n2, h.n3⟩
theorem PlW.put {w0 W : World} {sg rb lb kb cb : Nat} {a2 : Option Addr} {eg : Nat} {ge : List Ed} {S : List St} {l LL T C : List Nat} (h : PlW w0 sg rb lb kb cb a2 eg ge S l LL T C W) (i : Nat) (hi : i < S.length) (x : St) : PlW w0 sg rb lb kb cb a2 eg ge (S.set i x) l LL T C ((((((((W.setCell ⟨sg, i * 8, none⟩ (.int .u64 x.a0)).setCell ⟨sg, i * 8 + 1, none⟩ (.int .u64 x.a1)).setCell ⟨sg, i * 8 + 2, none⟩ (.int .u64 x.a2)).setCell ⟨sg, i * 8 + 3, none⟩ (.int .u64 x.a3)).setCell ⟨sg, i * 8 + 4, none⟩ (.int .u64 x.a4)).setCell ⟨sg, i * 8 + 5, none⟩ (.int .u64 x.a5)).setCell ⟨sg, i * 8 + 6, none⟩ (.int .u64 x.a6)).setCell ⟨sg, i * 8 + 7, none⟩ (.int .u64 x.a7)) := by
  have hc : Chg (fun j => j = sg) W ((((((((W.setCell ⟨sg, i * 8, none⟩ (.int .u64 x.a0)).setCell ⟨sg, i * 8 + 1, none⟩ (.int .u64 x.a1)).setCell ⟨sg, i * 8 + 2, none⟩ (.int .u64 x.a2)).setCell ⟨sg, i * 8 + 3, none⟩ (.int .u64 x.a3)).setCell ⟨sg, i * 8 + 4, none⟩ (.int .u64 x.a4)).setCell ⟨sg, i * 8 + 5, none⟩ (.int .u64 x.a5)).setCell ⟨sg, i * 8 + 6, none⟩ (.int .u64 x.a6)).setCell ⟨sg, i * 8 + 7, none⟩ (.int .u64 x.a7)) := (Chg.set (R := fun j => j = sg) (Chg.set (R := fun j => j = sg) (Chg.set (R := fun j => j = sg) (Chg.set (R := fun j => j = sg) (Chg.set (R := fun j => j = sg) (Chg.set (R := fun j => j = sg) (Chg.set (R := fun j => j = sg) (Chg.set (R := fun j => j = sg) (Chg.refl (fun j => j = sg) W) (p := ⟨sg, i * 8, none⟩) (Or.inl rfl) (.int .u64 x.a0)) (p := ⟨sg, i * 8 + 1, none⟩) (Or.inl rfl) (.int .u64 x.a1)) (p := ⟨sg, i * 8 + 2, none⟩) (Or.inl rfl) (.int .u64 x.a2)) (p := ⟨sg, i * 8 + 3, none⟩) (Or.inl rfl) (.int .u64 x.a3)) (p := ⟨sg, i * 8 + 4, none⟩) (Or.inl rfl) (.int .u64 x.a4)) (p := ⟨sg, i * 8 + 5, none⟩) (Or.inl rfl) (.int .u64 x.a5)) (p := ⟨sg, i * 8 + 6, none⟩) (Or.inl rfl) (.int .u64 x.a6)) (p := ⟨sg, i * 8 + 7, none⟩) (Or.inl rfl) (.int .u64 x.a7))
  exact ⟨h.ed.keep (fun h0 => hc.block _ (h.ed.lt h0) (h.n1 h0).2) hc.size, h.st.put i hi x, h.rm.keep (hc.block _ h.rm.lt h.n2.1.symm) hc.size, h.lw.keep (hc.block _ h.lw.lt h.n3.1) hc.size, h.kw.keep (hc.block _ h.kw.lt h.n3.2.1) hc.size, h.cw.keep (hc.block _ h.cw.lt h.n3.2.2) hc.size, h.b.trans (hc.below h.b.size (fun j hj => by rw [hj]; exact h.z.1)), h.z, h.n1, h.n2, h.n3⟩
theorem PlW.dr {w0 W : World} {sg rb lb kb cb : Nat} {a2 : Option Addr} {eg : Nat} {ge : List Ed} {S : List St} {l LL T C : List Nat} (h : PlW w0 sg rb lb kb cb a2 eg ge S l LL T C W) : PlW w0 sg rb lb kb cb a2 eg ge S l LL T C W.drew := h.below (Below.drew (Below.refl _ W))

set_option maxHeartbeats 16000000 in
theorem placed_any (n sc eb eo sb so ec oc ob oo : Nat) (sa ea oa : Option Addr) (beh room : Int) (x5 x6 x7 x8 x9 x10 x11 x12 x13 : Value) (ss ot : List St) (es : List Ed) (w : World) (hn : n ≤ 4294967295) (hs : IsSts w sa sb so ss) (hE : IsEds w ea eb eo es) (hO : IsSts w oa ob oo ot) (hsl : ss.length ≤ 1048576) (hel : es.length ≤ 1048576) (hol : ot.length ≤ 1048576) :
    Calls Try.prog 5 #[.agg #[.int .u32 n, .slice sa ss.length sc, .slice ea es.length ec, .int .i64 beh, .int .i64 room, x5, x6, x7, x8, x9, x10, x11, x12, x13], .slice oa ot.length oc] w fun e w' => e = .returned (.bool true) ∧ Below w.heap.size w w' := by
  obtain ⟨m, hm⟩ : ∃ m, szN n = m := ⟨_, rfl⟩
  have hm1 : 1 ≤ m := by rw [← hm]; exact szN_pos n
  have hm2 : m ≤ 60 := by rw [← hm]; exact szN_le n
  obtain ⟨K, hK⟩ : ∃ K, min es.length 500 = K := ⟨_, rfl⟩
  have HM := Lib.hid hm
  have HK := Lib.hid hK
  obtain ⟨M, hM⟩ : ∃ M, M = 2 * m := ⟨_, rfl⟩
  have HMM := Lib.hid hM
  have hw1 : IntKind.i64.wrap (m : Int) = (m : Int) := IntWalk.i64_in _ (by omega)
  have hw2 : IntKind.i64.wrap (2 * (m : Int)) = (M : Int) := by rw [IntWalk.i64_in _ (by omega)]; omega
  have hmk : ∀ w, (Instr.makeSlice 32 (.int .i64 M) (.int .i64 M)).run Try.prog w = .ok (.slice (some ⟨w.heap.size, 0, none⟩) M M) (w.alloc (.cells (madeCells #[.int .u64 0] (M * 1)) 28)) := by
    intro w
    obtain ⟨i0, hi, hz0, hz1, hz2⟩ := info_parts Try.info28
    have := run_make w 32 28 i0 (.int .u64 0) Try.underlying32 hi hz0 .i64 .i64 M M (by omega) (by omega) (by rw [hz2]; omega) (by omega)
    rw [hz1] at this
    simp only [Int.toNat_natCast, Value.cells] at this
    exact this
  simp only [Nat.mul_one] at hmk
  have hglen : (graphE m es K).length = K := graphE_len (by omega)
  have hva := graphE_valid hm1 es K
  have hK5 : K ≤ 1048576 := by omega
  obtain ⟨ge, hge⟩ : ∃ ge, graphE m es K = ge := ⟨_, rfl⟩
  rw [hge] at hglen hva
  have HGE := Lib.hid hge
  have HVA := Lib.hid hva
  have HGL := Lib.hid hglen
  have hgl5 : ge.length ≤ 1048576 := by omega
  have hB0 : Below w.heap.size w (w.alloc (.cells #[.int .u32 n, .slice sa ss.length sc, .slice ea es.length ec, .int .i64 beh, .int .i64 room, x5, x6, x7, x8, x9, x10, x11, x12, x13] 30)) := (by repeat (first | with_reducible exact Below.refl _ _ | with_reducible assumption | with_reducible refine below_drewN ?_ _ | with_reducible refine Below.drew ?_ | ((with_reducible refine Bset ?_ ?_); focus (first | omega | (simp; done) | (simp; omega))) | ((with_reducible refine Ball ?_ ?_); focus (first | omega | (simp; done) | (simp; omega)))))
  have hs0 := hs.below hB0 hs.lt
  have hE0 := hE.below hB0 hE.lt
  have hp0 := isBlk.new w 30 [.int .u32 n, .slice sa ss.length sc, .slice ea es.length ec, .int .i64 beh, .int .i64 room, x5, x6, x7, x8, x9, x10, x11, x12, x13]
  have hm5 : m ≤ 5000 := by omega
  clear hm hK hM hge hva hglen
  go_enter Try.func5, Try.ntmps5
  go_upto_block 0 with (first
    | (go_at_call 22; ((with_reducible refine (size_w n ss.length sc es.length ec m sa ea beh room _ _ _ _ _ _ _ _ _ _ hn HM.out).mono ?_); rintro e w1 ⟨rfl, hb1⟩; have hp1 := hp0.below hb1 hp0.lt; have hE1 := hE0.below hb1 hE0.lt; have hs1 := hs0.below hb1 hs0.lt; have hpl1 := hp1.lt; have c0 : w1.cell? ⟨w.heap.size, 0, none⟩ = some (.int .u32 n) := hp1.cell 0; have c1 : w1.cell? ⟨w.heap.size, 1, none⟩ = some (.slice sa ss.length sc) := hp1.cell 1; have c2 : w1.cell? ⟨w.heap.size, 2, none⟩ = some (.slice ea es.length ec) := hp1.cell 2; have c3 : w1.cell? ⟨w.heap.size, 3, none⟩ = some (.int .i64 beh) := hp1.cell 3; have c4 : w1.cell? ⟨w.heap.size, 4, none⟩ = some (.int .i64 room) := hp1.cell 4; have c5 : w1.cell? ⟨w.heap.size, 5, none⟩ = some (x5) := hp1.cell 5; have c6 : w1.cell? ⟨w.heap.size, 6, none⟩ = some (x6) := hp1.cell 6; have c7 : w1.cell? ⟨w.heap.size, 7, none⟩ = some (x7) := hp1.cell 7; have c8 : w1.cell? ⟨w.heap.size, 8, none⟩ = some (x8) := hp1.cell 8; have c9 : w1.cell? ⟨w.heap.size, 9, none⟩ = some (x9) := hp1.cell 9; have c10 : w1.cell? ⟨w.heap.size, 10, none⟩ = some (x10) := hp1.cell 10; have c11 : w1.cell? ⟨w.heap.size, 11, none⟩ = some (x11) := hp1.cell 11; have c12 : w1.cell? ⟨w.heap.size, 12, none⟩ = some (x12) := hp1.cell 12; have c13 : w1.cell? ⟨w.heap.size, 13, none⟩ = some (x13) := hp1.cell 13))
    | (go_at_call 23; ((with_reducible refine (graph_w n ss.length sc eb eo ec K m sa ea beh room _ _ _ _ _ _ _ _ _ es _ hn hE1 hel HK.out HM.out).mono ?_); rintro e w2 ⟨a2, cap2, rfl, HG, hb2⟩; have hp2 := hp1.below hb2 hp1.lt; have hs2 := hs1.below hb2 hs1.lt; have hpl2 := hp2.lt; have d1 : w2.cell? ⟨w.heap.size, 1, none⟩ = some (.slice sa ss.length sc) := hp2.cell 1))
    | (go_at_call 6; ((with_reducible refine (statesO_w sa sb so sc ss m _ hs2 (by omega) hsl).mono ?_); rintro e w3 ⟨sg, scap, rfl, HS, hb3⟩; have HEa : Hid (∃ g, IsEds (w3.alloc (.cells (madeCells #[.int .u64 0] M) 28)) a2 g 0 ge ∧ (0 < ge.length → g < w2.heap.size)) := Lib.hid (by obtain ⟨g, hg⟩ := HG.out; rw [HGE.out] at hg; exact ⟨g, (hg.below hb3 hg.lt).below ((Below.refl _ w3).alloc (Nat.le_refl _) _) (hg.below hb3 hg.lt).lt, hg.lt⟩)))
    | (go_at_call 24; ((with_reducible refine (wcc_w m cap2 HEa.out.choose K a2 ge _ HEa.out.choose_spec.1 hm5 hm1 hgl5 HVA.out HGL.out).mono ?_); rintro e w5 ⟨lb, rfl, HL, hb5⟩; have HEb := Lib.hid (HEa.out.choose_spec.1.below hb5 HEa.out.choose_spec.1.lt)))
    | (go_at_call 25; ((with_reducible refine (corenum_w m cap2 HEa.out.choose K a2 ge _ HEb.out hm5 hm1 hgl5 HVA.out HGL.out).mono ?_); rintro e w6 ⟨kb, rfl, HKK, HB6⟩; have HEc := Lib.hid (HEb.out.below HB6.out HEb.out.lt)))
    | (go_at_call 21; ((with_reducible refine (colours_w m cap2 HEa.out.choose K a2 ge _ HEc.out hm5 hm1 hgl5 HVA.out HGL.out).mono ?_); rintro e w7 ⟨cb, rfl, HC, hb7⟩)))
  obtain ⟨hsc, hsgz, S0, hS0l, hst0⟩ := HS.out
  obtain ⟨LL, hlz, hlw, hll, hLR⟩ := HL.out
  obtain ⟨T, hkz, hkw, htl, hTP⟩ := HKK.out
  obtain ⟨C, hcz, hcw, hcl, hCS⟩ := HC.out
  have hz1 := hb1.size
  have hz2 := hb2.size
  have hz3 := hb3.size
  have hz5 := hb5.size
  have hz6 := HB6.out.size
  have hz7 := hb7.size
  simp only [World.size_alloc] at hz1 hz5 hlz
  have hsl3 := hst0.lt
  have hll5 := hlw.lt
  have hkl6 := hkw.lt
  have hcl7 := hcw.lt
  have hb57 : Below w5.heap.size w5 w7 := HB6.out.trans (hb7.mono hz6)
  have hb47 : Below (w3.heap.size + 1) (w3.alloc (.cells (madeCells #[.int .u64 0] M) 28)) w7 := by
    have h1 := hb5
    simp only [World.size_alloc] at h1
    exact h1.trans (hb57.mono hz5)
  have hb37 : Below w3.heap.size w3 w7 := ((Below.refl _ w3).alloc (Nat.le_refl _) _).trans (hb47.mono (by omega))
  have hB7 : Below w.heap.size w w7 := by
    have h1 : Below w.heap.size _ w1 := hb1.mono (by simp)
    exact hB0.trans (h1.trans ((hb2.mono (by omega)).trans ((hb3.mono (by omega)).trans (hb37.mono (by omega)))))
  have hrm := (Wds.made w3 M 28).keep (w' := w7) (hb47.block _ (by omega)) (by have := hb47.size; simpa using this)
  obtain ⟨eg, heg⟩ : ∃ eg, HEa.out.choose = eg := ⟨_, rfl⟩
  have hE7 := HEc.out.below hb7 HEc.out.lt
  have hegl := HEa.out.choose_spec.2
  rw [heg] at hE7 hegl
  obtain ⟨rb, hrb⟩ : ∃ rb, rb = w3.heap.size := ⟨_, rfl⟩
  rw [← hrb] at hrm ⊢
  have HP0 : Hid (PlW w sg rb lb kb cb a2 eg ge S0 (List.replicate M 0) LL T C w7) := Lib.hid
    ⟨hE7, hst0.keep (hb37.block _ hsl3) hb37.size, hrm, hlw.keep (hb57.block _ hll5) hb57.size, hkw.keep (hb7.block _ hkl6) hb7.size, hcw, hB7, ⟨by omega, by omega⟩, fun h0 => by have := hegl h0; omega, ⟨by omega, by omega, by omega, by omega⟩, ⟨by omega, by omega, by omega⟩⟩
  have HFX := Lib.hid (And.intro hLR (And.intro hTP hCS))
  have HLN := Lib.hid (And.intro hll (And.intro htl hcl))
  have hmc : m ≤ scap := hsc
  clear heg hrb hE7 hegl hrm hB7 hb37 hb47 hb57 hll5 hkl6 hcl7 hsl3 hz1 hz2 hz3 hz5 hz6 hz7 hlz hkz hcz hsgz hlw hkw hcw hst0 hLR hTP hCS hll htl hcl hb7 hb5 hb3 hb2 hb1 HS HL HKK HC HB6 HEa HEb HEc HG hp0 hp1 hp2 hs0 hs1 hs2 hE0 hE1 hpl1 hpl2 d1 c0 c1 c2 c3 c4 c5 c6 c7 c8 c9 c10 c11 c12 c13 hB0 hmk hsc
  go_wp2_with fail
  go_loopg [12, 13, 14, 15, 16, 17, 18, 19] 3 (fun gk v12 _ _ _ _ _ _ _ wr => ∃ (r : Nat) (S : List St) (l : List Nat), r + gk = 3 ∧ v12 = .int .i64 r ∧ S.length = m ∧ l.length = M ∧ Hid (PlW w sg rb lb kb cb a2 eg ge S l LL T C wr))
  case atStart => exact ⟨0, S0, _, by omega, rfl, hS0l, by simp, HP0⟩
  case round =>
    clear HP0 hS0l
    obtain ⟨r, S, l, hr, rfl, hSl, hl, HP⟩ := hrel
    by_cases hlt : r < 3
    · have hr3 : (r : Int) < 3 := by omega
      have hr0 : (0 : Int) ≤ r := Int.natCast_nonneg _
      obtain ⟨gq, rfl⟩ : ∃ gq : Nat, gq = gk := ⟨_, rfl⟩
      have hgq : 0 < gq := by omega
      have hedp := HP.out.ed
      go_upto_region 12 with (first
        | (go_at_call 9; ((with_reducible refine (feed0_any a2 cap2 eg 0 ge K _ HP.out.ed HGL.out hgl5).mono ?_); rintro e wf1 ⟨b1, b2, a3, cap3, fg, rfl, HF1, HZ1, hbf1⟩; have HPf1 := Lib.hid (HP.out.below hbf1)))
        | (go_at_call 26; ((with_reducible refine (labels_w m sg rb scap b1 b2 fg 0 M a3 cap3 ge S _ _ _ hm1 hm5 HPf1.out.st.s hSl HMM.out hl HVA.out HPf1.out.rm HF1.out ⟨by have := HZ1.out; have := HP.out.rm.lt; omega, by have := HZ1.out; have := HP.out.rm.lt; omega, by have := HZ1.out; have := HP.out.rm.lt; omega, HPf1.out.n2.1⟩ HFX.out.1).mono ?_); rintro e wg1 ⟨x1, y1, z1, rfl, HX1, HR1, hc1⟩)))
      obtain ⟨l1, hlw1, hl1⟩ := HR1.out
      have hPg1 := HPf1.out.room hc1 hlw1
      have hPa1 := hPg1.below ((Below.refl _ wg1).alloc (o := .cells #[.bool x1, .int .u32 y1, .int .i64 z1] 35) (Nat.le_refl _))
      have hk1 := isBlk.new wg1 35 [.bool x1, .int .u32 y1, .int .i64 z1]
      obtain ⟨u1, hu1⟩ : ∃ u, wg1.alloc (.cells #[.bool x1, .int .u32 y1, .int .i64 z1] 35) = u := ⟨_, rfl⟩
      rw [hu1] at hPa1 hk1 ⊢
      obtain ⟨va1, hva1⟩ : ∃ v, v = wg1.heap.size := ⟨_, rfl⟩
      rw [← hva1] at hk1 ⊢
      have HP1 := Lib.hid hPa1
      have HK1 := Lib.hid hk1
      have hvr1 : va1 ≠ rb := by have := hPg1.rm.lt; omega
      clear hu1 hPa1 hk1 hPg1 hva1 hc1 hlw1 hbf1 HF1 HZ1 HPf1 HP HR1
      go_upto_region 13 with (first
        | (go_at_call 9; ((with_reducible refine (feed0_any a2 cap2 eg 0 ge K _ HP1.out.ed HGL.out hgl5).mono ?_); rintro e wf2 ⟨b1, b2, a3, cap3, fg, rfl, HF2, HZ2, hbf2⟩; have HPf2 := Lib.hid (HP1.out.below hbf2)))
        | (go_at_call 27; ((with_reducible refine (cores_w m sg rb scap b1 b2 fg 0 M a3 cap3 ge S _ _ _ hm1 hm5 HPf2.out.st.s hSl HMM.out hl1 HVA.out hgl5 HPf2.out.rm HF2.out ⟨by have := HZ2.out; have := HP1.out.rm.lt; omega, by have := HZ2.out; have := HP1.out.rm.lt; omega, by have := HZ2.out; have := HP1.out.rm.lt; omega, HPf2.out.n2.1⟩ HFX.out.2.1).mono ?_); rintro e wg2 ⟨x2, y2, z2, rfl, HX2, HR2, hc2⟩)))
      obtain ⟨l2, hlw2, hl2⟩ := HR2.out
      have hPg2 := HPf2.out.room hc2 hlw2
      have hPa2 := hPg2.below ((Below.refl _ wg2).alloc (o := .cells #[.bool x2, .int .u32 y2, .int .i64 z2] 35) (Nat.le_refl _))
      have hk2 := isBlk.new wg2 35 [.bool x2, .int .u32 y2, .int .i64 z2]
      obtain ⟨u2, hu2⟩ : ∃ u, wg2.alloc (.cells #[.bool x2, .int .u32 y2, .int .i64 z2] 35) = u := ⟨_, rfl⟩
      have HK1b : Hid (isBlk u2 va1 35 [.bool x1, .int .u32 y1, .int .i64 z1]) := Lib.hid (by rw [← hu2]; exact ((HK1.out.below hbf2 HK1.out.lt).ch1 hc2 hvr1).old _)
      rw [hu2] at hPa2 hk2 ⊢
      obtain ⟨va2, hva2⟩ : ∃ v, v = wg2.heap.size := ⟨_, rfl⟩
      rw [← hva2] at hk2 ⊢
      have HP2 := Lib.hid hPa2
      have HK2 := Lib.hid hk2
      have hvr2 : va2 ≠ rb := by have := hPg2.rm.lt; omega
      clear hu2 hPa2 hk2 hPg2 hva2 hc2 hlw2 hbf2 HF2 HZ2 HPf2 HP1 HR2
      go_upto_region 14 with (first
        | (go_at_call 9; ((with_reducible refine (feed0_any a2 cap2 eg 0 ge K _ HP2.out.ed HGL.out hgl5).mono ?_); rintro e wf3 ⟨b1, b2, a3, cap3, fg, rfl, HF3, HZ3, hbf3⟩; have HPf3 := Lib.hid (HP2.out.below hbf3)))
        | (go_at_call 19; ((with_reducible refine (twoc_w m sg rb scap b1 b2 fg 0 M a3 cap3 ge S _ _ _ hm1 (by omega) HPf3.out.st.s hSl HMM.out hl2 HVA.out HPf3.out.rm HF3.out ⟨by have := HZ3.out; have := HP2.out.rm.lt; omega, by have := HZ3.out; have := HP2.out.rm.lt; omega, by have := HZ3.out; have := HP2.out.rm.lt; omega, HPf3.out.n2.1⟩ HFX.out.2.2).mono ?_); rintro e wg3 ⟨x3, y3, z3, rfl, HX3, HR3, hc3⟩)))
      obtain ⟨l3, hlw3, hl3⟩ := HR3.out
      have hPg3 := HPf3.out.room hc3 hlw3
      have hPa3 := hPg3.below ((Below.refl _ wg3).alloc (o := .cells #[.bool x3, .int .u32 y3, .int .i64 z3] 35) (Nat.le_refl _))
      have hk3 := isBlk.new wg3 35 [.bool x3, .int .u32 y3, .int .i64 z3]
      obtain ⟨u3, hu3⟩ : ∃ u, wg3.alloc (.cells #[.bool x3, .int .u32 y3, .int .i64 z3] 35) = u := ⟨_, rfl⟩
      have HK1c : Hid (isBlk u3 va1 35 [.bool x1, .int .u32 y1, .int .i64 z1]) := Lib.hid (by rw [← hu3]; exact ((HK1b.out.below hbf3 HK1b.out.lt).ch1 hc3 hvr1).old _)
      have HK2b : Hid (isBlk u3 va2 35 [.bool x2, .int .u32 y2, .int .i64 z2]) := Lib.hid (by rw [← hu3]; exact ((HK2.out.below hbf3 HK2.out.lt).ch1 hc3 hvr2).old _)
      rw [hu3] at hPa3 hk3 ⊢
      obtain ⟨va3, hva3⟩ : ∃ v, v = wg3.heap.size := ⟨_, rfl⟩
      rw [← hva3] at hk3 ⊢
      have HP3 := Lib.hid hPa3
      have HK3 := Lib.hid hk3
      have hvr3 : va3 ≠ rb := by have := hPg3.rm.lt; omega
      clear hu3 hPa3 hk3 hPg3 hva3 hc3 hlw3 hbf3 HF3 HZ3 HPf3 HP2 HR3
      go_upto_region 16 with (go_at_call 28; ((with_reducible refine (num0_any _).mono ?_); rintro e wn ⟨rfl, rfl⟩))
      have k1 := HK1c.out
      have k2 := HK2b.out
      have p0 : u3.cell? ⟨va1, 0, none⟩ = some (.bool x1) := HK1c.out.cell 0
      have p1 : u3.cell? ⟨va1, 1, none⟩ = some (.int .u32 y1) := HK1c.out.cell 1
      have p2 : u3.cell? ⟨va1, 2, none⟩ = some (.int .i64 z1) := HK1c.out.cell 2
      have p3 : u3.cell? ⟨va2, 0, none⟩ = some (.bool x2) := HK2b.out.cell 0
      have p4 : u3.cell? ⟨va2, 1, none⟩ = some (.int .u32 y2) := HK2b.out.cell 1
      have p5 : u3.cell? ⟨va2, 2, none⟩ = some (.int .i64 z2) := HK2b.out.cell 2
      have p6 : u3.cell? ⟨va3, 0, none⟩ = some (.bool x3) := HK3.out.cell 0
      have p7 : u3.cell? ⟨va3, 1, none⟩ = some (.int .u32 y3) := HK3.out.cell 1
      have p8 : u3.cell? ⟨va3, 2, none⟩ = some (.int .i64 z3) := HK3.out.cell 2
      have hv1 := HK1c.out.lt
      have hv2 := HK2b.out.lt
      have hv3 := HK3.out.lt
      clear k1 k2
      have hu3 := Lib.hid (Below.refl u3.heap.size u3)
      go_cut [107] from 86 to 107 (fun v107 wx => v107 = .bool false ∧ Hid (Below u3.heap.size u3 wx))
      case first =>
        go_region_held3 (fun wz => ∀ b o, b < u3.heap.size → wz.cell? ⟨b, o, none⟩ = u3.cell? ⟨b, o, none⟩)
          (first | (intro b o hb; rfl) | (intro b o hb; exact hq1.cell (p := ⟨b, o, none⟩) hb) | (intro b o hb; exact hq2.cell (p := ⟨b, o, none⟩) hb) | (intro b o hb; exact hq3.cell (p := ⟨b, o, none⟩) hb))
          (first | ((with_reducible refine Calls.mono (refWords_y m sg scap lb m S LL _ HP3.out.dr.st.s hSl hm5 hm1 HP3.out.dr.lw HLN.out.1) ?_); rintro e s1 ⟨x1', y1', z1', rfl, HW1, hs1⟩; have HQ1 := Lib.hid (HP3.out.dr.below hs1); have hq1 : Below u3.heap.size u3 s1 := (Below.drew (Below.refl _ u3)).trans hs1; obtain ⟨rfl, rfl, rfl⟩ := verd_eq HX1.out HW1.out) | ((with_reducible refine Calls.mono (refWords_y m sg scap kb m S T _ HQ1.out.st.s hSl hm5 hm1 HQ1.out.kw HLN.out.2.1) ?_); rintro e s2 ⟨x2', y2', z2', rfl, HW2, hs2⟩; have HQ2 := Lib.hid (HQ1.out.below hs2); have hq2 : Below u3.heap.size u3 s2 := hq1.trans (hs2.mono hq1.size); obtain ⟨rfl, rfl, rfl⟩ := verd_eq HX2.out HW2.out) | ((with_reducible refine Calls.mono (refWords_y m sg scap cb m S C _ HQ2.out.st.s hSl hm5 hm1 HQ2.out.cw HLN.out.2.2) ?_); rintro e s3 ⟨x3', y3', z3', rfl, HW3, hs3⟩; have hq3 : Below u3.heap.size u3 s3 := hq2.trans (hs3.mono hq2.size); obtain ⟨rfl, rfl, rfl⟩ := verd_eq HX3.out HW3.out))
        all_goals
          go_wp2_with fail
          go_meet
          exact ⟨rfl, Lib.hid hq3⟩
      case rest =>
      obtain ⟨rfl, HBu⟩ := hcut
      have HP4 := Lib.hid (HP3.out.below HBu.out)
      clear HP3 HBu HX1 HX2 HX3 HK1c HK2b HK3 p0 p1 p2 p3 p4 p5 p6 p7 p8 hv1 hv2 hv3 hu3 hvr1 hvr2 hvr3 hl hl1 hl2 hedp
      go_upto_block 2 with fail
      go_wp2_with fail
      go_loopg [19] m (fun gm v19 wx => ∃ (i : Nat) (S' : List St), i + gm = m ∧ v19 = .int .i64 i ∧ S'.length = m ∧ Hid (PlW w sg rb lb kb cb a2 eg ge S' l3 LL T C wx))
      case atStart => exact ⟨0, S, by omega, rfl, hSl, HP4⟩
      case round =>
        clear HP4 hSl
        obtain ⟨i, S', hi, rfl, hSl, HP⟩ := hrel
        by_cases hlt2 : i < m
        · have i1 : (i : Int) < m := by omega
          have i2 : (0 : Int) ≤ i := Int.natCast_nonneg _
          have i3 : (i : Int) < scap := by omega
          have hgk : 0 < gk := by omega
          have cl := HP.out.lw.at i (by rw [HLN.out.1]; exact hlt2)
          have ck := HP.out.kw.at i (by rw [HLN.out.2.1]; exact hlt2)
          have hll := HP.out.lw.lt
          have hkl := HP.out.kw.lt
          have hsgl := HP.out.st.lt
          have hls := HP.out.n3.1
          have hks := HP.out.n3.2.1
          have hsf := HP.out.st.f
          have e0 := HP.out.st.s.c0 i (by omega)
          have e1 := HP.out.st.s.c1 i (by omega)
          have e2 := HP.out.st.s.c2 i (by omega)
          have e3 := HP.out.st.s.c3 i (by omega)
          have e4 := HP.out.st.s.c4 i (by omega)
          have e5 := HP.out.st.s.c5 i (by omega)
          have e6 := HP.out.st.s.c6 i (by omega)
          have e7 := HP.out.st.s.c7 i (by omega)
          simp only [Nat.zero_add] at e0 e1 e2 e3 e4 e5 e6 e7
          have hOr := hO.below HP.out.b hO.lt
          have hsgw := HP.out.z.1
          have hPl := fun c : Nat => HP.out.put i (by omega) ⟨c, 0, 0, 0, 0, 0, 0, 0⟩
          have HPL := Lib.hid hPl
          clear hPl
          obtain ⟨c, hc⟩ : ∃ c, LL.getD i 0 = c := ⟨_, rfl⟩
          obtain ⟨d, hd⟩ : ∃ d, T.getD i 0 = d := ⟨_, rfl⟩
          rw [hc] at cl
          rw [hd] at ck
          clear hc hd
          generalize S'[i] = sx at *
          obtain ⟨t0, t1, t2, t3, t4, t5, t6, t7⟩ := sx
          simp only [] at e0 e1 e2 e3 e4 e5 e6 e7
          by_cases hrr : r = 0
          · have q0 : ((r : Int) == 0) = true := by rw [beq_iff_eq]; omega
            have q1 : ((r : Int) == 1) = false := by rw [beq_eq_false_iff_ne]; omega
            by_cases hot : i < ot.length
            · have q2 : (i : Int) < ot.length := by omega
              obtain rfl := hOr.ad (by omega)
              have hobl := hOr.lt (by omega)
              have hob0 := hO.lt (by omega)
              have hos : ob ≠ sg := by omega
              have o0 := hOr.c0 i hot
              have o1 := hOr.c1 i hot
              have o2 := hOr.c2 i hot
              have o3 := hOr.c3 i hot
              have o4 := hOr.c4 i hot
              have o5 := hOr.c5 i hot
              have o6 := hOr.c6 i hot
              have o7 := hOr.c7 i hot
              have hp2 := fun c : Nat => (HPL.out c).put i (by rw [List.length_set]; omega) ot[i]
              generalize ot[i] = ox at *
              obtain ⟨v0, v1, v2, v3, v4, v5, v6, v7⟩ := ox
              simp only [] at o0 o1 o2 o3 o4 o5 o6 o7 hp2
              have HPM := Lib.hid (hp2 c)
              clear hp2 HPL hOr hrr
              go_wp2
              go_roundg (gk - 1)
              case measure => omega
              case rel => exact ⟨i + 1, _, by omega, by go_num, by rw [List.length_set, List.length_set]; exact hSl, HPM⟩
            · have q2 : ¬ (i : Int) < ot.length := by omega
              have HPM := Lib.hid (HPL.out c)
              clear HPL hOr hrr
              go_wp2
              go_roundg (gk - 1)
              case measure => omega
              case rel => exact ⟨i + 1, _, by omega, by go_num, by rw [List.length_set]; exact hSl, HPM⟩
          · have q0 : ((r : Int) == 0) = false := by rw [beq_eq_false_iff_ne]; omega
            by_cases hr1 : r = 1
            · have q1 : ((r : Int) == 1) = true := by rw [beq_iff_eq]; omega
              have HPM := Lib.hid ((HPL.out c).put i (by rw [List.length_set]; omega) ⟨d, 0, 0, 0, 0, 0, 0, 0⟩)
              clear HPL hOr hrr hr1
              go_wp2
              go_roundg (gk - 1)
              case measure => omega
              case rel => exact ⟨i + 1, _, by omega, by go_num, by rw [List.length_set, List.length_set]; exact hSl, HPM⟩
            · have q1 : ((r : Int) == 1) = false := by rw [beq_eq_false_iff_ne]; omega
              have HPM := Lib.hid (HPL.out c)
              clear HPL hOr hrr hr1
              go_wp2
              go_roundg (gk - 1)
              case measure => omega
              case rel => exact ⟨i + 1, _, by omega, by go_num, by rw [List.length_set]; exact hSl, HPM⟩
        · obtain rfl : i = m := by omega
          go_wp2
          go_roundg (gq - 1)
          case measure => omega
          case rel => exact ⟨r + 1, S', l3, by omega, by go_num, hSl, hl3, HP⟩
    · have hr3 : ¬ (r : Int) < 3 := by omega
      go_wp2
      go_ret
      exact ⟨rfl, HP.out.b⟩
end Go.Proofs.Ytohmeobfiomfdaa
