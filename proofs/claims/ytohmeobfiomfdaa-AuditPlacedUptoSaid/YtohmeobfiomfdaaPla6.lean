/-
  The document's core numbers: the walk.
-/
import Derived.Test.YtohmeobfiomfdaaPla3
import Derived.Test.YtohmeobfiomfdaaTopo7
namespace Go.Proofs.Ytohmeobfiomfdaa
open Go.RowKit Go.Shelf
set_option maxRecDepth 100000

/-- What stands in memory while the document takes away. -/
structure KorR (w0 : World) (cb gb : Nat) (C : List Nat) (G : List Bool) (W : World) : Prop where
  c : Wds W cb C
  g : isBlk W gb 4 (boolL G)
  b : Below w0.heap.size w0 W
  n : w0.heap.size ≤ cb ∧ w0.heap.size ≤ gb ∧ cb ≠ gb
theorem KorR.all {w0 W : World} {cb gb : Nat} {C : List Nat} {G : List Bool} (h : KorR w0 cb gb C G W) (o : Obj) : KorR w0 cb gb C G (W.alloc o) := ⟨h.c.all o, h.g.old o, Ball h.b.size h.b, h.n⟩
theorem KorR.put {w0 W : World} {cb gb : Nat} {C : List Nat} {G : List Bool} (h : KorR w0 cb gb C G W) {p : Addr} (v : Value) (h0 : w0.heap.size ≤ p.block) (h1 : cb ≠ p.block) (h2 : gb ≠ p.block) : KorR w0 cb gb C G (W.setCell p v) := ⟨h.c.other h1, h.g.other h2, Bset h0 h.b, h.n⟩
theorem KorR.take {w0 W : World} {cb gb : Nat} {C : List Nat} {G : List Bool} (h : KorR w0 cb gb C G W) (j k : Nat) (hj : j < C.length) : KorR w0 cb gb (C.set j k) (G.set j true) ((W.setCell ⟨gb, j, none⟩ (.bool true)).setCell ⟨cb, j, none⟩ (.int .u64 k)) :=
  ⟨(h.c.other h.n.2.2).set j k hj, by rw [← boolL_set]; exact (h.g.set j _).other h.n.2.2.symm, Bset h.n.1 (Bset h.n.2.1 h.b), h.n⟩
structure HoldR (n : Nat) (P C : List Nat) (G : List Bool) : Prop where
  c : C.length = n
  g : G.length = n
  gone : ∀ v, v < n → G.getD v false = !(P.getD v 0 == 0)
  core : ∀ v, v < n → P.getD v 0 ≠ 0 → C.getD v 0 = P.getD v 0 - 1
theorem HoldR.init (n : Nat) : HoldR n (List.replicate n 0) (List.replicate n 0) (List.replicate n false) where
  c := by simp
  g := by simp
  gone := fun v hv => by
    have h0 : (List.replicate n false).getD v false = false := by rw [List.getD_eq_getElem?_getD, List.getElem?_replicate]; split <;> rfl
    have h1 : (List.replicate n 0).getD v 0 = 0 := by rw [List.getD_eq_getElem?_getD, List.getElem?_replicate]; split <;> rfl
    rw [h0, h1]; rfl
  core := fun v hv h => by
    have h1 : (List.replicate n 0).getD v 0 = 0 := by rw [List.getD_eq_getElem?_getD, List.getElem?_replicate]; split <;> rfl
    exact absurd h1 h
theorem HoldR.take {n : Nat} {P C : List Nat} {G : List Bool} (h : HoldR n P C G) (hP : P.length = n) {j : Nat} (hj : j < n) (k : Nat) : HoldR n (P.set j (k + 1)) (C.set j k) (G.set j true) where
  c := by rw [List.length_set]; exact h.c
  g := by rw [List.length_set]; exact h.g
  gone := fun v hv => by
    have := h.g
    rw [getB_set, getD_set]
    by_cases e : j = v
    · subst e; rw [if_pos ⟨rfl, by omega⟩, if_pos ⟨rfl, by omega⟩]; rfl
    · rw [if_neg (fun x => e x.1), if_neg (fun x => e x.1)]; exact h.gone v hv
  core := fun v hv => by
    have := h.c
    rw [getD_set, getD_set]
    by_cases e : j = v
    · subst e; rw [if_pos ⟨rfl, by omega⟩, if_pos ⟨rfl, by omega⟩]; intro _; omega
    · rw [if_neg (fun x => e x.1), if_neg (fun x => e x.1)]; exact h.core v hv
theorem there_rep (n : Nat) : there (List.replicate n 0) = n := by unfold there; rw [List.count_replicate_self]
/-- The degrees behind an edge. -/
theorem dg_no {P : List Nat} {es : List Ed} {n i : Nat} {D : List Nat} (hi : i < es.length) (h : ∀ v, v < n → D.getD v 0 = dg P (es.take i) v) (hh : hit P es[i] = false) : ∀ v, v < n → D.getD v 0 = dg P (es.take (i + 1)) v := fun v hv => by
  rw [List.take_succ_eq_append_getElem hi, dg_snoc, h v hv]
  unfold bump
  rw [hh, if_neg (by simp), Nat.add_zero]
theorem dg_yes {P : List Nat} {es : List Ed} {n i : Nat} {D : List Nat} (hi : i < es.length) (hl : D.length = n) (h : ∀ v, v < n → D.getD v 0 = dg P (es.take i) v) (hva : Valid n es[i]) (hh : hit P es[i] = true) :
    ∀ v, v < n → ((D.set es[i].src (D.getD es[i].src 0 + 1)).set es[i].dst (D.getD es[i].dst 0 + 1)).getD v 0 = dg P (es.take (i + 1)) v := fun v hv => by
  have hne : es[i].src ≠ es[i].dst := fun e => by
    unfold hit at hh
    simp [e] at hh
  obtain ⟨h1, h2⟩ := hva
  rw [List.take_succ_eq_append_getElem hi, dg_snoc, ← h v hv, getD_set, getD_set, List.length_set]
  unfold bump
  rw [if_pos hh]
  by_cases e3 : es[i].dst = v
  · rw [if_pos ⟨e3, by omega⟩, if_neg (fun e => hne (e.trans e3.symm)), if_pos e3, e3]
  · rw [if_neg (fun x => e3 x.1)]
    by_cases e4 : es[i].src = v
    · rw [if_pos ⟨e4, by omega⟩, if_pos e4, if_neg e3, e4]
    · rw [if_neg (fun x => e4 x.1), if_neg e4, if_neg e3]; omega

set_option maxHeartbeats 16000000 in
theorem refCores_any (n ec eb eo : Nat) (ea : Option Addr) (es : List Ed) (w : World) (hE : IsEds w ea eb eo es) (hn : n ≤ 5000) (hn1 : 1 ≤ n) (hlen : es.length ≤ 1048576) (hva : ∀ e, e ∈ es → Valid n e) :
    Calls Try.prog 25 #[.int .u32 n, .slice ea es.length ec] w fun e w' => ∃ (g : Nat), e = .returned (.slice (some ⟨g, 0, none⟩) n n) ∧ Hid (∃ (T P : List Nat), Peeled es n P ∧ w.heap.size ≤ g ∧ Wds w' g T ∧ T.length = n ∧ (∀ v, v < n → T.getD v 0 = P.getD v 0 - 1) ∧ Below w.heap.size w w') := by
  have hmk : ∀ w, (Instr.makeSlice 32 (.int .u32 n) (.int .u32 n)).run Try.prog w = .ok (.slice (some ⟨w.heap.size, 0, none⟩) n n) (w.alloc (.cells (madeCells #[.int .u64 0] (n * 1)) 28)) := by
    intro w
    obtain ⟨i0, hi, hz0, hz1, hz2⟩ := info_parts Try.info28
    have := run_make w 32 28 i0 (.int .u64 0) Try.underlying32 hi hz0 .u32 .u32 n n (by omega) (by omega) (by rw [hz2]; omega) (by omega)
    rw [hz1] at this
    simp only [Int.toNat_natCast, Value.cells] at this
    exact this
  have hmk2 : ∀ w, (Instr.makeSlice 85 (.int .u32 n) (.int .u32 n)).run Try.prog w = .ok (.slice (some ⟨w.heap.size, 0, none⟩) n n) (w.alloc (.cells (madeCells #[.bool false] (n * 1)) 4)) := by
    intro w
    obtain ⟨i0, hi, hz0, hz1, hz2⟩ := info_parts Try.info4
    have := run_make w 85 4 i0 (.bool false) Try.underlying85 hi hz0 .u32 .u32 n n (by omega) (by omega) (by rw [hz2]; omega) (by omega)
    rw [hz1] at this
    simp only [Int.toNat_natCast, Value.cells] at this
    exact this
  simp only [Nat.mul_one] at hmk
  simp only [Nat.mul_one, madeCells_one] at hmk2
  have HMK := Lib.hid hmk
  have hw0 : IntKind.i64.wrap (n : Int) = (n : Int) := IntWalk.i64_in _ (by omega)
  go_enter Try.func25, Try.ntmps25
  go_upto_block 0 with fail
  have hc0 := (Wds.made w n 28).all (.cells (Array.replicate n (.bool false)) 4)
  have hg0 := isBlk.rep (w.alloc (.cells (madeCells #[.int .u64 0] n) 28)) n 4 (.bool false)
  simp only [World.size_alloc] at hg0
  obtain ⟨W1, hW1⟩ : ∃ W1, (w.alloc (.cells (madeCells #[.int .u64 0] n) 28)).alloc (.cells (Array.replicate n (.bool false)) 4) = W1 := ⟨_, rfl⟩
  have hB1 : Below w.heap.size w W1 := by rw [← hW1]; exact ((Below.refl _ _).alloc (Nat.le_refl _) _).alloc (by simp) _
  rw [hW1] at hc0 hg0 ⊢
  obtain ⟨gb, hgb⟩ : ∃ gb, gb = w.heap.size + 1 := ⟨_, rfl⟩
  obtain ⟨cb, hcb⟩ : ∃ cb, cb = w.heap.size := ⟨_, rfl⟩
  rw [← hgb] at hg0 ⊢
  rw [← hcb] at hc0 ⊢
  have HR1 : Hid (KorR w cb gb (List.replicate n 0) (List.replicate n false) W1) := Lib.hid ⟨hc0, by rw [show boolL (List.replicate n false) = List.replicate n (.bool false) by simp [boolL]]; exact hg0, hB1, ⟨by omega, by omega, by omega⟩⟩
  have hcg : cb ≠ gb := by omega
  have hgc : gb ≠ cb := by omega
  have hcw : w.heap.size ≤ cb := by omega
  have hgw : w.heap.size ≤ gb := by omega
  clear hW1 hmk2 hc0 hg0 hB1 hgb hcb
  go_wp2_with fail
  go_loopg [7, 8, 9, 10, 11, 12, 13, 14, 15] (mu es n (List.replicate n 0) 0 + 1) (fun gk v7 v8 _ _ _ _ _ _ _ wr => ∃ (j k : Nat) (P C : List Nat) (G : List Bool), v7 = .int .i64 (there P) ∧ v8 = .int .u64 k ∧ Hid (KorR w cb gb C G wr) ∧ Hid (Run es n j P k) ∧ Hid (HoldR n P C G) ∧ mu es n P k + 1 ≤ gk)
  case atStart => exact ⟨0, 0, _, _, _, by rw [there_rep], rfl, HR1, Lib.hid (Run.init es n), Lib.hid (HoldR.init n), Nat.le_refl _⟩
  case round =>
    clear HR1
    obtain ⟨j, k, P, C, G, rfl, rfl, HK, HR, HH, hmu⟩ := hrel
    obtain ⟨lf, hlf⟩ : ∃ lf, there P = lf := ⟨_, rfl⟩
    rw [hlf]
    have hPl := HR.out.len
    have hkb := HR.out.kb
    by_cases h0 : lf = 0
    · have h0' : ¬ (0 : Int) < (lf : Int) := by omega
      have HPE := Lib.hid (show Peeled es n P from ⟨j, k, HR.out, hlf.trans h0⟩)
      clear h0 hlf HR hkb
      go_wp2
      refine bodyPost_ret (v := .slice (some ⟨cb, 0, none⟩) n n) (by simp (maxDischargeDepth := 8) [results, Try.results25, go_sem]) rfl ?_
      exact ⟨cb, rfl, Lib.hid ⟨C, P, HPE.out, hcw, HK.out.c, HH.out.c, fun v hv => HH.out.core v hv (HPE.out.pos v hv), HK.out.b⟩⟩
    · have h0' : (0 : Int) < (lf : Int) := by omega
      have h0n : 0 < lf := by omega
      obtain ⟨gq, rfl⟩ : ∃ gq : Nat, gq = gk := ⟨_, rfl⟩
      have hmk := HMK.out
      go_upto_block 2 with fail
      have hcl := HK.out.c.lt
      have hgl := HK.out.g.lt
      have hkz := HK.out.b.size
      have hK3 := HK.out.all (.cells (madeCells #[.int .u64 0] n) 28)
      have hd3 := Wds.made wr n 28
      obtain ⟨W3, hW3⟩ : ∃ W3, wr.alloc (.cells (madeCells #[.int .u64 0] n) 28) = W3 := ⟨_, rfl⟩
      obtain ⟨db, hdb⟩ : ∃ db, db = wr.heap.size := ⟨_, rfl⟩
      rw [hW3] at hK3 hd3 ⊢
      rw [← hdb] at hd3 ⊢
      have hdc : db ≠ cb := by omega
      have hdg : db ≠ gb := by omega
      have hcd : cb ≠ db := by omega
      have hgd : gb ≠ db := by omega
      have hdw : w.heap.size ≤ db := by omega
      have HK3 := Lib.hid hK3
      have HD3 := Lib.hid hd3
      clear hW3 hdb hmk hcl hgl hkz hK3 hd3 HK
      go_wp2_with fail
      go_loopg [10, 11, 12] es.length (fun gm v10 _ _ wx => ∃ (i : Nat) (D : List Nat), i + gm = es.length ∧ v10 = .int .i64 i ∧ Hid (KorR w cb gb C G wx) ∧ Hid (Wds wx db D) ∧ D.length = n ∧ Hid (∀ v, v < n → D.getD v 0 = dg P (es.take i) v))
      case atStart => exact ⟨0, _, by omega, rfl, HK3, HD3, by simp, Lib.hid (fun v hv => by rw [List.getD_eq_getElem?_getD, List.getElem?_replicate]; split <;> rfl)⟩
      case round =>
        clear HK3 HD3
        obtain ⟨i, D, hi, rfl, HK, HD, hDl, HDD⟩ := hrel
        by_cases hlt : i < es.length
        · have i1 : (i : Int) < es.length := by omega
          have i2 : (0 : Int) ≤ i := Int.natCast_nonneg _
          have hgk : 0 < gk := by omega
          have hEr := hE.below HK.out.b hE.lt
          obtain rfl := hEr.ad (by omega)
          have hel := hEr.lt (by omega)
          have hel0 := hE.lt (by omega)
          have hed : eb ≠ db := by omega
          have c0 := hEr.c0 i hlt
          have c1 := hEr.c1 i hlt
          have hvk := hva es[i] (List.getElem_mem hlt)
          have hno := fun h => dg_no hlt HDD.out h
          have hyes := fun h => dg_yes hlt hDl HDD.out hvk h
          unfold hit at hno hyes
          have hbd : ∀ v, v < n → D.getD v 0 < 18446744073709551615 := fun v hv => by rw [HDD.out v hv]; have := dg_le P (es.take i) v; have := List.length_take_le i es; omega
          generalize es[i] = x at *
          obtain ⟨src, dst, x3⟩ := x
          obtain ⟨v1, v2⟩ := hvk
          simp only [] at c0 c1 v1 v2 hno hyes
          have gS : wr.cell? ⟨gb, src, none⟩ = some (.bool (G.getD src false)) := by rw [HK.out.g.cell src]; exact boolL_get G src (by rw [HH.out.g]; exact v1)
          have gD : wr.cell? ⟨gb, dst, none⟩ = some (.bool (G.getD dst false)) := by rw [HK.out.g.cell dst]; exact boolL_get G dst (by rw [HH.out.g]; exact v2)
          have dS := HD.out.at src (by omega)
          have dD := HD.out.at dst (by omega)
          have fS := HD.out.f src
          have fD := HD.out.f dst
          have hdl := HD.out.lt
          have hgl := HK.out.g.lt
          have bS := hbd src v1
          have bD := hbd dst v2
          have eS := HH.out.gone src v1
          have eD := HH.out.gone dst v2
          have j1 : (src : Int) < n := by omega
          have j2 : (dst : Int) < n := by omega
          have j3 : (0 : Int) ≤ src := Int.natCast_nonneg _
          have j4 : (0 : Int) ≤ dst := Int.natCast_nonneg _
          obtain ⟨bs, hbs⟩ : ∃ bs, G.getD src false = bs := ⟨_, rfl⟩
          obtain ⟨bd, hbdd⟩ : ∃ bd, G.getD dst false = bd := ⟨_, rfl⟩
          rw [hbs] at gS eS
          rw [hbdd] at gD eD
          have eS' : (P.getD src 0 == 0) = !bs := by rw [eS, Bool.not_not]
          have eD' : (P.getD dst 0 == 0) = !bd := by rw [eD, Bool.not_not]
          rw [eS', eD'] at hno hyes
          obtain ⟨us, hus⟩ : ∃ us, D.getD src 0 = us := ⟨_, rfl⟩
          obtain ⟨ud, hud⟩ : ∃ ud, D.getD dst 0 = ud := ⟨_, rfl⟩
          rw [hus] at dS bS hyes
          rw [hud] at dD bD hyes
          have HNO := Lib.hid hno
          have HYE := Lib.hid hyes
          clear hno hyes hbd eS eD eS' eD' hbs hbdd hus hud hEr HDD
          by_cases h1 : src = dst
          · have h1' : ((src : Int) != (dst : Int)) = false := by rw [bne_eq_false_iff_eq]; omega
            have H1 := Lib.hid (HNO.out (by rw [beq_iff_eq.2 h1]; rfl))
            clear h1 HNO HYE
            go_wp2
            go_roundg (gk - 1)
            case measure => omega
            case rel => exact ⟨i + 1, D, by omega, by go_num, HK, HD, hDl, H1⟩
          · have h1' : ((src : Int) != (dst : Int)) = true := by rw [bne_iff_ne]; omega
            have hsd : ¬ dst = src := fun e => h1 e.symm
            cases bs
            · cases bd
              · obtain ⟨a, ha⟩ : ∃ a, us + 1 = a := ⟨_, rfl⟩
                obtain ⟨b, hb⟩ : ∃ b, ud + 1 = b := ⟨_, rfl⟩
                have hwa : IntKind.u64.wrap ((us : Int) + 1) = (a : Int) := by rw [IntKind.wrap_u64]; omega
                have hwb : IntKind.u64.wrap ((ud : Int) + 1) = (b : Int) := by rw [IntKind.wrap_u64]; omega
                have h2 := HYE.out (by rw [beq_eq_false_iff_ne.2 h1]; rfl)
                rw [ha, hb] at h2
                have H1 := Lib.hid h2
                have HD4 := Lib.hid ((HD.out.set src a (by omega)).set dst b (by rw [List.length_set]; omega))
                have HK4 := Lib.hid ((HK.out.put (p := ⟨db, src, none⟩) (.int .u64 a) hdw hcd hgd).put (p := ⟨db, dst, none⟩) (.int .u64 b) hdw hcd hgd)
                clear HNO HYE ha hb h2
                go_wp2
                go_roundg (gk - 1)
                case measure => omega
                case rel => exact ⟨i + 1, _, by omega, by go_num, HK4, HD4, by rw [List.length_set, List.length_set]; exact hDl, H1⟩
              · have H1 := Lib.hid (HNO.out (by simp))
                clear HNO HYE
                go_wp2
                go_roundg (gk - 1)
                case measure => omega
                case rel => exact ⟨i + 1, D, by omega, by go_num, HK, HD, hDl, H1⟩
            · have H1 := Lib.hid (HNO.out (by simp))
              clear HNO HYE
              go_wp2
              go_roundg (gk - 1)
              case measure => omega
              case rel => exact ⟨i + 1, D, by omega, by go_num, HK, HD, hDl, H1⟩
        · have hie : i = es.length := by omega
          subst hie
          have hdd := HDD.out
          rw [List.take_length] at hdd
          have HDE := Lib.hid hdd
          clear hdd HDD
          have HT0 := Lib.hid (Took.init (D := dg P es) (k := k) hPl)
          have HK5 := HK
          have HD5 := HD
          have HH5 := HH
          clear HK HD HH
          go_upto_block 4 with fail
          go_wp2_with fail
          go_loopg [7, 13, 14, 15] n (fun gm v7 v13 v14 v15 wx => ∃ (i m : Nat) (ag : Bool) (P' C' : List Nat) (G' : List Bool), i + gm = n ∧ v15 = .int .i64 i ∧ v7 = .int .i64 (there P') ∧ v14 = .int .u64 m ∧ v13 = .bool ag ∧ Hid (KorR w cb gb C' G' wx) ∧ Hid (Wds wx db D) ∧ Hid (Took n P (dg P es) k i P' ag m) ∧ Hid (HoldR n P' C' G'))
          case atStart => exact ⟨0, 18446744073709551615, false, P, C, G, by omega, rfl, by rw [hlf], rfl, rfl, HK5, HD5, HT0, HH5⟩
          case round =>
            clear HK5 HD5 HH5 HT0
            obtain ⟨i, m, ag, P', C', G', hi2, rfl, rfl, rfl, rfl, HK, HD, HT, HH⟩ := hrel
            have hPl2 := HT.out.len
            by_cases hlt : i < n
            · have i1 : (i : Int) < n := by omega
              have i2 : (0 : Int) ≤ i := Int.natCast_nonneg _
              have hgk : 0 < gk := by omega
              have hPi : P'.getD i 0 = P.getD i 0 := by rw [HT.out.get i hlt, if_neg (by omega)]
              have gI : wr.cell? ⟨gb, i, none⟩ = some (.bool (G'.getD i false)) := by rw [HK.out.g.cell i]; exact boolL_get G' i (by rw [HH.out.g]; exact hlt)
              rw [HH.out.gone i hlt, hPi] at gI
              have gf := HK.out.g.frozen i
              have kd := HD.out.at i (by omega)
              rw [HDE.out i hlt] at kd
              have kc := HK.out.c.at i (by rw [HH.out.c]; exact hlt)
              have kf := HK.out.c.f i
              have hdl := HD.out.lt
              have hgl := HK.out.g.lt
              have hcl := HK.out.c.lt
              have hskip := fun h => HT.out.skip h
              have hstay := fun h h2 => HT.out.stay h h2
              have htake := fun h h2 m' => HT.out.take hlt h h2 m'
              obtain ⟨c, hc⟩ : ∃ c, P.getD i 0 = c := ⟨_, rfl⟩
              obtain ⟨dd, hdd⟩ : ∃ dd, dg P es i = dd := ⟨_, rfl⟩
              rw [hc] at gI hskip hstay htake
              rw [hdd] at kd hstay htake
              have HSK := Lib.hid hskip
              have HST := Lib.hid hstay
              have HTK := Lib.hid htake
              clear hskip hstay htake hc hdd hPi HT
              by_cases hc0 : c = 0
              · have gI2 : wr.cell? ⟨gb, i, none⟩ = some (.bool false) := by rw [gI, hc0]; rfl
                clear gI
                by_cases hdk : dd ≤ k
                · have hdk' : (dd : Int) ≤ k := by omega
                  obtain ⟨hp0, hcnt, _⟩ := HTK.out hc0 hdk 0
                  have hth : IntKind.i64.wrap ((there P' : Int) - 1) = (there (P'.set i (k + 1)) : Int) := by rw [IntWalk.i64_in _ (by have : there P' ≤ P'.length := List.count_le_length; omega)]; omega
                  have HK5 := Lib.hid (HK.out.take i k (by rw [HH.out.c]; exact hlt))
                  have HD5 := Lib.hid ((HD.out.other (p := ⟨gb, i, none⟩) (v := .bool true) hdg).other (p := ⟨cb, i, none⟩) (v := .int .u64 k) hdc)
                  have HH5 := Lib.hid (HH.out.take hPl2 hlt k)
                  have HTK2 := Lib.hid (HTK.out hc0 hdk m).2.2
                  obtain ⟨tn, htn⟩ : ∃ tn, there (P'.set i (k + 1)) = tn := ⟨_, rfl⟩
                  rw [htn] at hth
                  have HTN := Lib.hid htn
                  clear htn HSK HST HTK hc0 hdk hp0 hcnt
                  go_wp2
                  go_roundg (gk - 1)
                  case measure => omega
                  case rel => exact ⟨i + 1, m, true, P'.set i (k + 1), _, _, by omega, by go_num, by rw [HTN.out], rfl, rfl, HK5, HD5, HTK2, HH5⟩
                · have hdk' : ¬ (dd : Int) ≤ k := by omega
                  have H1 := Lib.hid (HST.out hc0 hdk)
                  clear HSK HST HTK hc0 hdk
                  by_cases hmd : dd < m
                  · have hmd' : (dd : Int) < m := by omega
                    have hmd2 : ¬ (m : Int) < dd := by omega
                    have hmd3 : ¬ (m : Int) ≤ dd := by omega
                    rw [Nat.min_eq_right (by omega)] at H1
                    go_wp2
                    go_roundg (gk - 1)
                    case measure => omega
                    case rel => exact ⟨i + 1, dd, ag, P', C', G', by omega, by go_num, rfl, rfl, rfl, HK, HD, H1, HH⟩
                  · have hmd' : ¬ (dd : Int) < m := by omega
                    have hmd2 : (m : Int) ≤ dd := by omega
                    rw [Nat.min_eq_left (by omega)] at H1
                    go_wp2
                    go_roundg (gk - 1)
                    case measure => omega
                    case rel => exact ⟨i + 1, m, ag, P', C', G', by omega, by go_num, rfl, rfl, rfl, HK, HD, H1, HH⟩
              · have gI2 : wr.cell? ⟨gb, i, none⟩ = some (.bool true) := by rw [gI, beq_eq_false_iff_ne.2 hc0]; rfl
                have H1 := Lib.hid (HSK.out hc0)
                clear gI HSK HST HTK hc0
                go_wp2
                go_roundg (gk - 1)
                case measure => omega
                case rel => exact ⟨i + 1, m, ag, P', C', G', by omega, by go_num, rfl, rfl, rfl, HK, HD, H1, HH⟩
            · obtain rfl : i = n := by omega
              obtain ⟨hr, hm2⟩ := HR.out.next hlen (by omega) HT.out
              have HR2 := Lib.hid hr
              have hmu2 : mu es i P' (if ag = true then k else m) + 1 ≤ gq - 1 := by omega
              clear hr hm2 HT
              cases ag
              · rw [if_neg (by simp)] at HR2 hmu2
                go_wp2
                go_roundg (gq - 1)
                case measure => omega
                case rel => exact ⟨j + 1, m, P', C', G', rfl, rfl, HK, HR2, HH, hmu2⟩
              · rw [if_pos rfl] at HR2 hmu2
                go_wp2
                go_roundg (gq - 1)
                case measure => omega
                case rel => exact ⟨j + 1, k, P', C', G', rfl, rfl, HK, HR2, HH, hmu2⟩

end Go.Proofs.Ytohmeobfiomfdaa
