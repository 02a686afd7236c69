/-
  An audit of cores: the walk, where nothing is wrong with what is asked.
-/
import Derived.Test.YtohmeobfiomfdaaPla4
import Derived.Test.YtohmeobfiomfdaaSccs
import Derived.WalkMore
namespace Go.Proofs.Ytohmeobfiomfdaa
open Go.RowKit Go.Shelf
set_option maxRecDepth 100000

/-- What stands in memory while cores are audited. -/
structure KorW (vb pb tb cb db sb so rb n cs cd cc b1 b2 eb eo : Nat) (a : Option Addr) (cap : Nat) (es : List Ed) (ss : List St) (w : World) (l : List Nat) (W : World) : Prop where
  d : isBlk W db 75 ((⟨n, feedFn b1 b2, .slice (some ⟨sb, so, none⟩) n cs⟩ : Dk).cells ⟨0, 0⟩)
  e : EnvK W pb tb cb db sb so rb n cs cd cc ss
  wd : Wds W rb l
  v : isBlk W vb 35 [.bool false, .int .u32 0, .int .i64 0]
  fe : Fed W b1 b2 eb eo a cap es 0
  c : Chg (fun j => j = rb) w W
  nd : w.heap.size ≤ db ∧ w.heap.size ≤ vb
  nv : vb ≠ db ∧ vb ≠ rb
  ap : Apart b1 b2 eb sb db rb
theorem KorW.go {vb pb tb cb db sb so rb n cs cd cc b1 b2 eb eo : Nat} {a : Option Addr} {cap : Nat} {es : List Ed} {ss : List St} {w : World} {l l' : List Nat} {W W' : World}
    (h : KorW vb pb tb cb db sb so rb n cs cd cc b1 b2 eb eo a cap es ss w l W) (hc : Chg (fun j => j = rb) W W') (hw : Wds W' rb l') :
    KorW vb pb tb cb db sb so rb n cs cd cc b1 b2 eb eo a cap es ss w l' W' where
  d := h.d.ch1 hc h.ap.x5
  e := h.e.chg (hc.mono (fun j h => Or.inr h))
  wd := hw
  v := h.v.ch1 hc h.nv.2
  fe := h.fe.keep (fun j hj hx => hc.block _ hj (by
    rcases hx with rfl | rfl | rfl
    · exact h.ap.x1.2
    · exact h.ap.x2.2
    · exact h.ap.x3.2)) hc.size
  c := h.c.trans hc
  nd := h.nd
  nv := h.nv
  ap := h.ap
/-- The room holds the core numbers so far. -/
structure Holds (n : Nat) (P l0 l : List Nat) : Prop where
  len : l.length = l0.length
  c : ∀ v, v < n → l.getD (n + v) 0 = P.getD v 0
theorem Holds.put {n : Nat} {P l0 l : List Nat} (h : Holds n P l0 l) (hl : n + n ≤ l0.length) (hP : P.length = n) {j : Nat} (hj : j < n) (x : Nat) : Holds n (P.set j x) l0 (l.set (n + j) x) := by
  have hlen := h.len
  refine ⟨by rw [List.length_set]; exact hlen, fun v hv => ?_⟩
  rw [getD_set, getD_set]
  by_cases e : j = v
  · subst e; rw [if_pos ⟨rfl, by omega⟩, if_pos ⟨rfl, by omega⟩]
  · rw [if_neg (fun x => e (by omega)), if_neg (fun x => e x.1)]; exact h.c v hv
theorem there_new (n : Nat) : there (List.replicate n 0) = n := by unfold there; rw [List.count_replicate_self]

set_option maxHeartbeats 8000000 in
theorem cores_any (n sb so rb cs b1 b2 eb eo : Nat) (a ea : Option Addr) (cap : Nat) (es : List Ed) (ss : List St) (l : List Nat) (w : World)
    (hn1 : 1 ≤ n) (hn5 : n ≤ 5000) (hs : IsSts w a sb so ss) (hss : ss.length = n) (hnl : n + n ≤ l.length) (hl5 : l.length ≤ 1000000) (hva : ∀ e, e ∈ es → Valid n e) (hlen : es.length ≤ 1048576)
    (hw : Wds w rb l) (hF : Fed w b1 b2 eb eo ea cap es 0) (hA : b1 ≠ rb ∧ b2 ≠ rb ∧ eb ≠ rb ∧ sb ≠ rb) :
    Calls Try.prog 27 #[.int .u32 n, .func (.func 41) #[] #[.pointer (some ⟨b1, 0, none⟩), .pointer (some ⟨b2, 0, none⟩)], .slice a n cs, .slice (some ⟨rb, 0, none⟩) l.length l.length] w fun e w' =>
      ∃ (x : Bool) (y z : Nat) (l' P : List Nat), e = .returned (.tuple #[.agg #[.bool x, .int .u32 y, .int .i64 z], .int .i64 0]) ∧ Peeled es n P ∧
        (∃ f, verdC 0 f = #[.bool x, .int .u32 y, .int .i64 z] ∧ Least f (Bword ss (fun v => P.getD v 0 - 1) n)) ∧ Wds w' rb l' ∧ l'.length = l.length ∧ Chg (fun j => j = rb) w w' := by
  have hn : n ≤ 4294967295 := by omega
  have HER := Lib.hid (sitErr0 (n := n) (room := (l.length : Int)) (need := 2 * (n : Int)) (by omega))
  have hw1 : IntKind.i64.wrap (n : Int) = (n : Int) := IntWalk.i64_in _ (by omega)
  have hw2 : IntKind.i64.wrap (2 * (n : Int)) = 2 * (n : Int) := IntWalk.i64_in _ (by omega)
  have had := hs.ad (by omega)
  subst had
  have hsbl := hs.lt (by omega)
  have HSS := Lib.hid hss
  clear hss
  have hrl := hw.lt
  have h1l := World.block_lt_of_cell? _ _ hF.c1
  have h2l := World.block_lt_of_cell? _ _ hF.c2
  have hel := hF.lt
  have hg1 : ¬ (n : Int) < 1 := by omega
  have hg2 : ¬ (2147483647 : Int) < n := by omega
  simp only [] at h1l h2l
  go_enter Try.func27, Try.ntmps27
  go_wp2
  go_step3
  go_upto_region 4 with fail
  have k2 := isBlk.new w 35 [.bool false, .int .u32 0, .int .i64 0]
  obtain ⟨W1, hW1⟩ : ∃ W1, w.alloc (.cells #[.bool false, .int .u32 0, .int .i64 0] 35) = W1 := ⟨_, rfl⟩
  have hB1 : Below w.heap.size w W1 := by rw [← hW1]; exact (Below.refl _ _).alloc (Nat.le_refl _) _
  have hz1 : W1.heap.size = w.heap.size + 1 := by rw [← hW1]; simp
  have hk2' : isBlk W1 w.heap.size 35 [.bool false, .int .u32 0, .int .i64 0] := by rw [← hW1]; exact k2
  rw [hW1]
  clear hW1 k2
  obtain ⟨vb, hvb⟩ : ∃ vb, vb = w.heap.size := ⟨_, rfl⟩
  rw [← hvb]
  have k2 : isBlk W1 vb 35 [.bool false, .int .u32 0, .int .i64 0] := by rw [hvb]; exact hk2'
  have hsv : w.heap.size ≤ vb ∧ vb < W1.heap.size := ⟨by omega, by omega⟩
  clear hvb hz1 hk2'
  have k2l := k2.lt
  go_cut [11, 12] (fun v11 v12 wx => ∃ xb db, v11 = .pointer (some ⟨xb, 0, none⟩) ∧ v12 = .int .i64 0 ∧ isBlk wx xb 58 [.pointer (some ⟨db, 0, none⟩)] ∧ isBlk wx db 75 [.int .u32 n, .int .i64 0, .func (.func 41) #[] #[.pointer (some ⟨b1, 0, none⟩), .pointer (some ⟨b2, 0, none⟩)], .slice (some ⟨sb, so, none⟩) n cs, .bool false, .int .u32 0, .int .i64 0] ∧ W1.heap.size ≤ xb ∧ W1.heap.size ≤ db ∧ xb ≠ db ∧ Below W1.heap.size W1 wx)
  case first =>
    go_wp2_with (first | (go_at_call 29; (with_reducible refine Calls.mono (sit_zero0 n cs _ _ _ _ _ _ _ hn HER.out) ?_); rintro e w4 ⟨rfl, rfl⟩))
    all_goals
      go_meet
      refine ⟨_, ?_, rfl, rfl, ?_, ?_, ?_, ?_, ?_, ?_⟩
      rotate_left
      · repeat (first | with_reducible refine isBlk.set1 (u := .pointer none) ?_ _ | ((with_reducible refine isBlk.new' ?_); focus (first | rfl | (simp; done))) | with_reducible refine isBlk.old ?_ _ | ((with_reducible refine isBlk.other ?_ ?_); rotate_left; focus (first | omega | (simp; done) | (simp; omega))) | with_reducible refine isBlk.drew ?_)
      · repeat (first | with_reducible refine isBlk.set1 (u := .pointer none) ?_ _ | ((with_reducible refine isBlk.new' ?_); focus (first | rfl | (simp; done))) | with_reducible refine isBlk.old ?_ _ | ((with_reducible refine isBlk.other ?_ ?_); rotate_left; focus (first | omega | (simp; done) | (simp; omega))) | with_reducible refine isBlk.drew ?_)
      · first | exact Nat.le_refl _ | omega
      · first | exact Nat.le_refl _ | omega
      · first | omega | (simp; done)
      · repeat (first | with_reducible exact Below.refl _ _ | with_reducible refine Below.drew ?_ | ((with_reducible refine Bset ?_ ?_); focus (first | exact Nat.le_refl _ | omega | (simp; done) | (simp; omega))) | ((with_reducible refine Ball ?_ ?_); focus (first | exact Nat.le_refl _ | omega | (simp; done) | (simp; omega))))
  case rest =>
      obtain ⟨xb, db, rfl, rfl, hx, hdk, hxz, hdz, hxd, hb⟩ := hcut
      have hk2 := k2.below hb k2l
      have hxl := hx.lt
      have hdl := hdk.lt
      have hz1 := hB1.size
      have hz2 := hb.size
      have i1 : (0 : Int) ≤ n := Int.natCast_nonneg _
      have i2 : (n : Int) ≤ l.length := by omega
      have i3 : (2 : Int) * n ≤ l.length := by omega
      have i4 : (n : Int) ≤ 2 * n := by omega
      have i5 : IntKind.u32.wrap (2 * (n : Int)) = 2 * (n : Int) := by rw [IntKind.wrap_u32]; omega
      have i6 : (2 * (n : Int)).toNat - n = n := by omega
      have i7 : ¬ l.length = n := by omega
      go_upto_region 7 with fail
      obtain ⟨wb, rfl⟩ : ∃ wb : World, wb = wc := ⟨_, rfl⟩
      go_cut [13, 14] (fun v13 v14 wx => ∃ tb cb, v13 = .pointer (some ⟨tb, 0, none⟩) ∧ v14 = .pointer (some ⟨cb, 0, none⟩) ∧ isBlk wx tb 32 [.slice (some ⟨rb, 0, none⟩) n l.length] ∧ isBlk wx cb 32 [.slice (some ⟨rb, n, none⟩) n (l.length - n)] ∧ wb.heap.size ≤ tb ∧ wb.heap.size ≤ cb ∧ tb ≠ cb ∧ Below wb.heap.size wb wx)
      case first =>
        go_region_held3 (fun _ => True) (trivial) (fail)
        all_goals
          go_wp2_with fail
          go_meet
          refine ⟨_, _, rfl, rfl, ?_, ?_, ?_, ?_, ?_, ?_⟩
          · repeat (first | with_reducible refine isBlk.set1 (u := .pointer none) ?_ _ | ((with_reducible refine isBlk.new' ?_); focus (first | rfl | (simp; done))) | with_reducible refine isBlk.old ?_ _ | ((with_reducible refine isBlk.other ?_ ?_); rotate_left; focus (first | omega | (simp; done) | (simp; omega))) | with_reducible refine isBlk.drew ?_)
          · repeat (first | with_reducible refine isBlk.set1 (u := .pointer none) ?_ _ | ((with_reducible refine isBlk.new' ?_); focus (first | rfl | (simp; done))) | with_reducible refine isBlk.old ?_ _ | ((with_reducible refine isBlk.other ?_ ?_); rotate_left; focus (first | omega | (simp; done) | (simp; omega))) | with_reducible refine isBlk.drew ?_)
          · first | exact Nat.le_refl _ | omega
          · first | exact Nat.le_refl _ | omega
          · first | omega | (simp; done)
          · repeat (first | with_reducible exact Below.refl _ _ | with_reducible refine Below.drew ?_ | ((with_reducible refine Ball ?_ ?_); focus (first | exact Nat.le_refl _ | omega | (simp; done) | (simp; omega))) | ((with_reducible refine Bset ?_ ?_); focus (first | exact Nat.le_refl _ | omega | (simp; done) | (simp; omega))))
      case rest =>
        obtain ⟨tb, cb, rfl, rfl, ht, hbk, htz, hbz, htb, hb2⟩ := hcut
        have hzc := hb2.size
        have HW : Hid (KorW vb xb tb cb db sb so rb n cs l.length (l.length - n) b1 b2 eb eo ea cap es ss w l wc) := Lib.hid (by
          have hB : Below w.heap.size w wc := (hB1.trans (hb.mono hz1)).trans (hb2.mono (Nat.le_trans hz1 hz2))
          have hvv := hsv.1
          have hvv2 := hsv.2
          refine ⟨hdk.below hb2 hdl, ⟨(hx.below hb2 hxl).cell 0, ht.cell 0, hbk.cell 0, hs.below hB (fun _ => hsbl), HSS.out, ⟨by omega, by omega⟩, ⟨by omega, by omega⟩, ⟨by omega, by omega⟩, ⟨by omega, hA.2.2.2⟩, by omega⟩, hw.keep (hB.block _ hrl) hB.size, hk2.below hb2 hk2.lt, hF.keep (fun j hj _ => hB.block _ hj) hB.size, Chg.of_below hB, ⟨by omega, by omega⟩, ⟨by omega, by omega⟩, ⟨⟨by omega, hA.1⟩, ⟨by omega, hA.2.1⟩, ⟨by omega, hA.2.2.1⟩, ⟨by omega, hA.2.2.2⟩, by omega⟩⟩)
        clear hx hdk hk2 ht hbk k2 hB1 hb hb2 hs hF hw hxz hdz htz hbz hz1 hz2 hzc hxl hdl hsbl htb hxd hrl h1l h2l hel k2l hsv
        have cb' := HW.out.e.c
        have hcl := clear_run wc rb n n (l.length - n) l HW.out.wd hn1 (by omega)
        have hcz := (Chg.refl (fun j => j = rb) wc).zapped rfl n (List.replicate n (.int .u64 0))
        have HW2 := Lib.hid (HW.out.go hcz (HW.out.wd.zapped n n (by omega)))
        have hbl := World.block_lt_of_cell? wc _ cb'
        go_upto_block 0 with fail
        obtain ⟨W2, hW2⟩ : ∃ W2, wc.setCells rb n (List.replicate n (.int .u64 0)) = W2 := ⟨_, rfl⟩
        rw [hW2] at HW2 ⊢
        clear hW2 hcl hcz cb' hbl HW
        have HH2 : Hid (Holds n (List.replicate n 0) l (zap l n n)) := Lib.hid ⟨zap_len _ _ _, fun v hv => by
          rw [zap_get, if_pos (by omega), List.getD_eq_getElem?_getD, List.getElem?_replicate]; split <;> rfl⟩
        go_wp2_with fail
        go_step3
        go_wp2_with fail
        go_loopg [15, 16, 17, 18, 19, 20] (mu es n (List.replicate n 0) 0 + 1) (fun gk v15 v16 _ _ _ _ wr => ∃ (j k : Nat) (P l' : List Nat), v15 = .int .u32 (there P) ∧ v16 = .int .u64 k ∧ Hid (KorW vb xb tb cb db sb so rb n cs l.length (l.length - n) b1 b2 eb eo ea cap es ss w l' wr) ∧ Hid (Run es n j P k) ∧ Hid (Holds n P l l') ∧ mu es n P k + 1 ≤ gk)
        case atStart => exact ⟨0, 0, _, _, by rw [there_new], rfl, HW2, Lib.hid (Run.init es n), HH2, Nat.le_refl _⟩
        case round =>
          clear HW2 HH2
          obtain ⟨j, k, P, l', rfl, rfl, HW, HR, HH, hmu⟩ := hrel
          obtain ⟨lf, hlf⟩ : ∃ lf, there P = lf := ⟨_, rfl⟩
          rw [hlf]
          have cp := HW.out.e.p
          have ct := HW.out.e.t
          have hll := HH.out.len
          have hPl := HR.out.len
          have hkb := HR.out.kb
          by_cases h0 : lf = 0
          · have h0' : ¬ (0 : Int) < (lf : Int) := by omega
            have hpe : Peeled es n P := ⟨j, k, HR.out, hlf.trans h0⟩
            have HPE := Lib.hid hpe
            have hcc : ∀ v, v < n → 1 ≤ l'.getD (n + v) 0 ∧ l'.getD (n + v) 0 < 18446744073709551615 := fun v hv => by
              rw [HH.out.c v hv]
              have h1 := hpe.pos v hv
              have h2 := hpe.top v hv
              omega
            clear h0 hlf HR hpe hkb
            go_wp2_with (first | (go_at_call 32; ((with_reducible refine (each63 xb tb cb db sb so rb n cs l.length (l.length - n) b1 b2 ss l' _ _ HW.out.d HW.out.e HW.out.wd (by omega) hcc hn).mono ?_); rintro e w7 ⟨⟨x, rfl⟩, hd7, hc7⟩; have cp7 : w7.cell? ⟨xb, 0, none⟩ = _ := (cell_heap (hc7.block _ (World.block_lt_of_cell? _ _ cp) HW.out.e.np.1)).trans cp; have hv7 : Hid (isBlk w7 vb 35 [.bool false, .int .u32 0, .int .i64 0]) := Lib.hid (HW.out.v.ch1 hc7 HW.out.nv.1); have HW7 := Lib.hid (HW.out.wd.keep (hc7.block _ HW.out.wd.lt (fun e => HW.out.e.nd e.symm)) hc7.size); have HC7 := Lib.hid (HW.out.c.then hc7 (fun j hj => Or.inr (by rw [hj]; exact HW.out.nd.1))))) | (go_at_call 37; ((with_reducible refine (verdict_0 db _ _ _ hd7).mono ?_); rintro e w2 ⟨x, y, z, hvx, rfl, hb2⟩; have hv2 := hv7.out.below hb2 hv7.out.lt; have hc20 : w2.cell? ⟨vb, 0, none⟩ = _ := hv2.cell 0; have hc21 : w2.cell? ⟨vb, 1, none⟩ = _ := hv2.cell 1; have hc22 : w2.cell? ⟨vb, 2, none⟩ = _ := hv2.cell 2; have hf20 := hv2.frozen 0; have hf21 := hv2.frozen 1; have hf22 := hv2.frozen 2)))
            obtain ⟨hk9, hg9⟩ := set3 hv2 (.bool x) (.int .u32 y) (.int .i64 z)
            have r0 := hk9.cell 0
            have r1 := hk9.cell 1
            have r2 := hk9.cell 2
            try rw [Exit.noGoto_ret]
            refine bodyPost_ret (v := .tuple #[.agg #[.bool x, .int .u32 y, .int .i64 z], .int .i64 0]) (by simp (maxDischargeDepth := 8) [results, Try.results27, go_sem, r0, r1, r2]) rfl ?_
            have hrl2 := HW7.out.lt
            refine ⟨x, y, z, l', P, rfl, HPE.out, ⟨_, hvx.out, (lV_least Least.none n).congr (fun v r => ?_)⟩, ?_, hll, ?_⟩
            · unfold Bword
              refine ⟨fun h => h.elim (fun h => h.elim) (fun h => ⟨h.1, h.2.1, fun e => h.2.2 (e.trans (by show P.getD v 0 - 1 = l'.getD (n + v) 0 - 1; rw [HH.out.c v h.1]))⟩), fun h => Or.inr ⟨h.1, h.2.1, fun e => h.2.2 (e.trans (by show l'.getD (n + v) 0 - 1 = P.getD v 0 - 1; rw [HH.out.c v h.1]))⟩⟩
            · exact (HW7.out.keep (w' := w2) (hb2.block _ hrl2) hb2.size).keep (hg9.block _ (Nat.lt_of_lt_of_le hrl2 hb2.size) HW.out.nv.2.symm) hg9.size
            · exact (HC7.out.trans (Chg.of_below hb2)).then hg9 (fun j hj => Or.inr (by rw [hj]; exact HW.out.nd.2))
          · have h0' : (0 : Int) < (lf : Int) := by omega
            obtain ⟨gq, rfl⟩ : ∃ gq : Nat, gq = gk := ⟨_, rfl⟩
            have hcl := clear_run wr rb 0 n l.length l' HW.out.wd hn1 (by omega)
            have hcz := (Chg.refl (fun j => j = rb) wr).zapped rfl 0 (List.replicate n (.int .u64 0))
            have HW3 := Lib.hid (HW.out.go hcz (HW.out.wd.zapped 0 n (by omega)))
            have hbl := World.block_lt_of_cell? wr _ ct
            go_upto_region 13 with fail
            obtain ⟨W3, hW3⟩ : ∃ W3, wr.setCells rb 0 (List.replicate n (.int .u64 0)) = W3 := ⟨_, rfl⟩
            rw [hW3] at HW3 ⊢
            clear hW3 hcl hcz cp ct HW hbl
            have cp := HW3.out.e.p
            have hz3 : ∀ v, v < n → (zap l' 0 n).getD v 0 = 0 := fun v hv => by rw [zap_get, if_pos (by omega)]
            have hP3 : ∀ v, v < n → (zap l' 0 n).getD (n + v) 0 = P.getD v 0 := fun v hv => by rw [zap_get, if_neg (by omega)]; exact HH.out.c v hv
            have HZ3 := Lib.hid (And.intro hz3 hP3)
            clear hz3 hP3
            go_upto_block 2 with (go_at_call 35; ((with_reducible refine (over62 xb tb cb db sb so rb n cs l.length (l.length - n) b1 b2 eb eo ea cap es ss ⟨0, 0⟩ P (zap l' 0 n) _ HW3.out.d HW3.out.e (by rw [zap_len]; omega) HZ3.out.1 HZ3.out.2 hva HW3.out.wd HW3.out.fe HW3.out.ap).mono ?_); rintro e w4 ⟨l4, rfl, hw4, hd4, hc4⟩; have HW4 := Lib.hid (HW3.out.go hc4 hw4); have HD4 := Lib.hid hd4; have ct4 := HW4.out.e.t; clear hw4 hd4 hc4 cp))
            have hl4 : l4.length = l.length := (HD4.out.len.trans (zap_len _ _ _)).trans hll
            have HH4 : Hid (Holds n P l l4) := Lib.hid ⟨hl4, fun v hv => (HD4.out.far _ (by omega)).trans (HZ3.out.2 v hv)⟩
            have HDD : Hid (∀ v, v < n → l4.getD v 0 = dg P es v) := Lib.hid (fun v hv => by rw [HD4.out.d v hv]; have := dg_le P es v; omega)
            clear HW3 HD4 HZ3 ct4 HH
            go_wp2_with fail
            go_loopg [15, 18, 19, 20, 69] n (fun gm v15 v18 v19 _ v69 wx => ∃ (i m : Nat) (ag : Bool) (P' l' : List Nat), i + gm = n ∧ v69 = .int .i64 i ∧ v15 = .int .u32 (there P') ∧ v18 = .int .u64 m ∧ v19 = .bool ag ∧ Hid (KorW vb xb tb cb db sb so rb n cs l.length (l.length - n) b1 b2 eb eo ea cap es ss w l' wx) ∧ Hid (Took n P (dg P es) k i P' ag m) ∧ Hid (Holds n P' l l') ∧ Hid (∀ v, v < n → l'.getD v 0 = dg P es v))
            case atStart => exact ⟨0, 18446744073709551615, false, P, l4, by omega, rfl, by rw [hlf], rfl, rfl, HW4, Lib.hid (Took.init hPl), HH4, HDD⟩
            case round =>
              clear HW4 HH4 HDD hl4
              obtain ⟨i, m, ag, P', l2, hi, rfl, rfl, rfl, rfl, HW, HT, HH, HD⟩ := hrel
              have hll2 := HH.out.len
              have hPl2 := HT.out.len
              by_cases hlt : i < n
              · have j1 : (i : Int) < n := by omega
                have j2 : (0 : Int) ≤ i := Int.natCast_nonneg _
                have hgk : 0 < gk := by omega
                have ct := HW.out.e.t
                have cc := HW.out.e.c
                have kc := HW.out.wd.at (n + i) (by omega)
                have kd := HW.out.wd.at i (by omega)
                have kf := HW.out.wd.f (n + i)
                have hrl := HW.out.wd.lt
                have hPi : P'.getD i 0 = P.getD i 0 := by rw [HT.out.get i hlt, if_neg (by omega)]
                rw [HH.out.c i hlt, hPi] at kc
                rw [HD.out i hlt] at kd
                have hskip := fun h => HT.out.skip h
                have hstay := fun h h2 => HT.out.stay h h2
                have htake := fun h h2 m' => HT.out.take hlt h h2 m'
                obtain ⟨c, hc⟩ : ∃ c, P.getD i 0 = c := ⟨_, rfl⟩
                obtain ⟨dd, hdd⟩ : ∃ dd, dg P es i = dd := ⟨_, rfl⟩
                rw [hc] at kc hskip hstay htake
                rw [hdd] at kd hstay htake
                have HSK := Lib.hid hskip
                have HST := Lib.hid hstay
                have HTK := Lib.hid htake
                clear hskip hstay htake hc hdd hPi HT
                by_cases hc0 : c = 0
                · have hc1 : ((c : Int) != 0) = false := by rw [bne_eq_false_iff_eq]; omega
                  by_cases hdk : dd ≤ k
                  · have hdk' : (dd : Int) ≤ k := by omega
                    obtain ⟨hp0, hcnt, _⟩ := HTK.out hc0 hdk 0
                    have hth : IntKind.u32.wrap ((there P' : Int) - 1) = (there (P'.set i (k + 1)) : Int) := by rw [IntWalk.u32_in _ (by have : there P' ≤ P'.length := List.count_le_length; omega)]; omega
                    have hkw : IntKind.u64.wrap ((k : Int) + 1) = ((k + 1 : Nat) : Int) := by rw [IntKind.wrap_u64]; omega
                    obtain ⟨k1, hk1⟩ : ∃ k1, k + 1 = k1 := ⟨_, rfl⟩
                    rw [hk1] at hth hkw hcnt
                    have HW5 := Lib.hid (HW.out.go ((Chg.refl (fun j => j = rb) wr).set (p := ⟨rb, n + i, none⟩) (Or.inl rfl) (.int .u64 k1)) (HW.out.wd.set (n + i) k1 (by omega)))
                    have HH5 := Lib.hid (HH.out.put hnl hPl2 hlt k1)
                    have HD5 : Hid (∀ v, v < n → (l2.set (n + i) k1).getD v 0 = dg P es v) := Lib.hid (fun v hv => by rw [getD_set, if_neg (by omega)]; exact HD.out v hv)
                    have HTK2 : Hid (∀ m', Took n P (dg P es) k (i + 1) (P'.set i k1) true m') := Lib.hid (fun m' => by rw [← hk1]; exact (HTK.out hc0 hdk m').2.2)
                    obtain ⟨tn, htn⟩ : ∃ tn, there (P'.set i k1) = tn := ⟨_, rfl⟩
                    rw [htn] at hth
                    have HTN := Lib.hid htn
                    clear htn
                    clear HSK HST HTK hc0 hdk hp0 hcnt hk1
                    by_cases hmd : dd < m
                    · have hmd' : (dd : Int) < m := by omega
                      have hmd2 : ¬ (m : Int) < dd := by omega
                      have hmd3 : ¬ (m : Int) ≤ dd := by omega
                      go_wp2
                      go_roundg (gk - 1)
                      case measure => omega
                      case rel => exact ⟨i + 1, dd, true, P'.set i k1, _, by omega, by go_num, by rw [HTN.out], rfl, rfl, HW5, Lib.hid (HTK2.out dd), HH5, HD5⟩
                    · have hmd' : ¬ (dd : Int) < m := by omega
                      have hmd2 : (m : Int) ≤ dd := by omega
                      go_wp2
                      go_roundg (gk - 1)
                      case measure => omega
                      case rel => exact ⟨i + 1, m, true, P'.set i k1, _, by omega, by go_num, by rw [HTN.out], rfl, rfl, HW5, Lib.hid (HTK2.out m), HH5, HD5⟩
                  · have hdk' : ¬ (dd : Int) ≤ k := by omega
                    have H1 := Lib.hid (HST.out hc0 hdk)
                    clear HSK HST HTK hc0 hdk
                    by_cases hmd : dd < m
                    · have hmd' : (dd : Int) < m := by omega
                      have hmd2 : ¬ (m : Int) < dd := by omega
                      have hmd3 : ¬ (m : Int) ≤ dd := by omega
                      rw [Nat.min_eq_right (by omega)] at H1
                      go_wp2
                      go_roundg (gk - 1)
                      case measure => omega
                      case rel => exact ⟨i + 1, dd, ag, P', l2, by omega, by go_num, rfl, rfl, rfl, HW, H1, HH, HD⟩
                    · have hmd' : ¬ (dd : Int) < m := by omega
                      have hmd2 : (m : Int) ≤ dd := by omega
                      rw [Nat.min_eq_left (by omega)] at H1
                      go_wp2
                      go_roundg (gk - 1)
                      case measure => omega
                      case rel => exact ⟨i + 1, m, ag, P', l2, by omega, by go_num, rfl, rfl, rfl, HW, H1, HH, HD⟩
                · have hc1 : ((c : Int) != 0) = true := by rw [bne_iff_ne]; omega
                  have H1 := Lib.hid (HSK.out hc0)
                  clear HSK HST HTK hc0
                  go_wp2
                  go_roundg (gk - 1)
                  case measure => omega
                  case rel => exact ⟨i + 1, m, ag, P', l2, by omega, by go_num, rfl, rfl, rfl, HW, H1, HH, HD⟩
              · obtain rfl : i = n := by omega
                obtain ⟨hr, hm2⟩ := HR.out.next hlen (by omega) HT.out
                have HR2 := Lib.hid hr
                have hmu2 : mu es i P' (if ag = true then k else m) + 1 ≤ gq - 1 := by omega
                clear hr hm2 HT
                cases ag
                · rw [if_neg (by simp)] at HR2 hmu2
                  go_wp2
                  go_roundg (gq - 1)
                  case measure => omega
                  case rel => exact ⟨j + 1, m, P', l2, rfl, rfl, HW, HR2, HH, hmu2⟩
                · rw [if_pos rfl] at HR2 hmu2
                  go_wp2
                  go_roundg (gq - 1)
                  case measure => omega
                  case rel => exact ⟨j + 1, k, P', l2, rfl, rfl, HW, HR2, HH, hmu2⟩

end Go.Proofs.Ytohmeobfiomfdaa
