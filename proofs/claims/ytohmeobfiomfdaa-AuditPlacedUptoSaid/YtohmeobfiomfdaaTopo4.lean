/-
  An audit of levels: the walk.
-/
import Derived.Test.YtohmeobfiomfdaaTopo3
import Derived.Test.YtohmeobfiomfdaaSccs
import Derived.Test.YtohmeobfiomfdaaSit3
import Derived.IntWalk
namespace Go.Proofs.Ytohmeobfiomfdaa
open Go.RowKit Go.Shelf
set_option maxRecDepth 100000

theorem sit_zero1 {n len room : Nat} (h : sitErr (sizeErr n) n len (room : Int) (n : Int) = 0) : 1 ≤ n ∧ len = n ∧ n ≤ room := by
  unfold sitErr sizeErr at h
  by_cases h1 : n < 1 ∨ 2147483647 < n
  · rw [if_pos h1] at h; simp at h
  · rw [if_neg h1, if_neg (by simp)] at h
    by_cases h2 : len = n
    · rw [if_neg (by simp [h2])] at h
      by_cases h3 : (room : Int) < (n : Int)
      · rw [if_pos h3] at h; cases h
      · exact ⟨by omega, h2, by omega⟩
    · rw [if_pos h2] at h; cases h

def topErr (n states room : Nat) (es : List Ed) (beh : Nat) : Nat := if sitErr (sizeErr n) n states room (n : Int) ≠ 0 then sitErr (sizeErr n) n states room (n : Int) else overErr n es beh
/-- What an audit of levels notes. -/
def topF (n : Nat) (ss : List St) (es : List Ed) (l : List Nat) : Fd := tpV n ss (tpL ss es (zap l 0 n)) (tpF ss es ⟨0, 0⟩) n

def TopEnd (n : Nat) (ss : List St) (es : List Ed) (beh : Nat) (l : List Nat) (rb : Nat) (w : World) (e : Ending) (w' : World) : Prop :=
  ∃ (x : Bool) (y z : Nat) (l' : List Nat), e = .returned (.tuple #[.agg #[.bool x, .int .u32 y, .int .i64 z], .int .i64 (topErr n ss.length l.length es beh)]) ∧
    (topErr n ss.length l.length es beh ≠ 0 → x = false ∧ y = 0 ∧ z = 0) ∧
    (topErr n ss.length l.length es beh = 0 → verdC 0 (topF n ss es l) = #[.bool x, .int .u32 y, .int .i64 z]) ∧
    Wds w' rb l' ∧ l'.length = l.length ∧ (∀ j, n ≤ j → l'.getD j 0 = l.getD j 0) ∧ Chg (fun j => j = rb) w w'

theorem TopEnd.mk {n : Nat} {ss : List St} {es : List Ed} {beh : Nat} {l l' : List Nat} {rb vb : Nat} {w w1 w2 w' : World} {e : Ending} (er : Nat) (x : Bool) (y z : Nat)
    (ho : topErr n ss.length l.length es beh = er) (he : e = .returned (.tuple #[.agg #[.bool x, .int .u32 y, .int .i64 z], .int .i64 er]))
    (h0 : er ≠ 0 → x = false ∧ y = 0 ∧ z = 0) (hL : er = 0 → verdC 0 (topF n ss es l) = #[.bool x, .int .u32 y, .int .i64 z]) (hw : Wds w1 rb l') (h1 : l'.length = l.length) (h2 : ∀ j, n ≤ j → l'.getD j 0 = l.getD j 0)
    (hc : Chg (fun j => j = rb) w w1) (hb : Below w1.heap.size w1 w2) (hvz : w.heap.size ≤ vb) (hvr : vb ≠ rb) (h3 : Chg (fun j => j = vb) w2 w') : TopEnd n ss es beh l rb w e w' := by
  subst ho
  have hrl := hw.lt
  refine ⟨x, y, z, l', he, h0, hL, ?_, h1, h2, ?_⟩
  · exact (hw.keep (w' := w2) (hb.block _ hrl) hb.size).keep (h3.block _ (Nat.lt_of_lt_of_le hrl hb.size) hvr.symm) h3.size
  · exact (hc.trans (Chg.of_below hb)).then h3 (fun j hj => Or.inr (by rw [hj]; exact hvz))
theorem tpL_far {ss : List St} {n : Nat} : ∀ {p : List Ed} {l : List Nat}, (∀ e, e ∈ p → Valid n e) → ∀ j, n ≤ j → (tpL ss p l).getD j 0 = l.getD j 0
  | [], _, _, _, _ => rfl
  | e :: p, l, hp, j, hj => by
    refine (tpL_far (p := p) (l := holdL ss e l) (fun e he => hp e (by simp [he])) j hj).trans ?_
    have hv := (hp e (by simp)).2
    unfold holdL
    split
    · rw [getD_set, if_neg (by omega)]
    · rfl

set_option maxHeartbeats 8000000 in
theorem topos_any (n sb so rb cs b1 b2 eb eo : Nat) (a ea : Option Addr) (cap : Nat) (es : List Ed) (beh : Nat) (ss : List St) (l : List Nat) (w : World)
    (hn : n ≤ 4294967295) (hs : IsSts w a sb so ss) (hl : l.length ≤ 5000)
    (hw : Wds w rb l) (hF : Fed w b1 b2 eb eo ea cap es beh) (hA : b1 ≠ rb ∧ b2 ≠ rb ∧ eb ≠ rb ∧ sb ≠ rb) :
    Calls Try.prog 17 #[.int .u32 n, feedFn b1 b2, .slice a ss.length cs, .slice (some ⟨rb, 0, none⟩) l.length l.length] w (TopEnd n ss es beh l rb w) := by
  unfold feedFn
  obtain ⟨er, her⟩ : ∃ er, sitErr (sizeErr n) n ss.length (l.length : Int) (n : Int) = er := ⟨_, rfl⟩
  have HER := Lib.hid her
  clear her
  have hw1 : IntKind.i64.wrap (n : Int) = (n : Int) := IntWalk.i64_in _ (by omega)
  by_cases he : er = 0
  · have HE := Lib.hid he
    clear he
    obtain ⟨hn1, hss, hnl⟩ := sit_zero1 (HER.out.trans HE.out)
    have had := hs.ad (by omega)
    subst had
    have hsbl := hs.lt (by omega)
    rw [hss] at HER ⊢
    have HSS := Lib.hid hss
    clear hss
    have hrl := hw.lt
    have h1l := World.block_lt_of_cell? _ _ hF.c1
    have h2l := World.block_lt_of_cell? _ _ hF.c2
    have hel := hF.lt
    simp only [] at h1l h2l
    go_enter Try.func17, Try.ntmps17
    go_upto_region 1 with fail
    obtain ⟨W1, hW1⟩ : ∃ W1, (((w.alloc (.cells #[.int .u32 n] 22)).alloc (.cells #[.slice (some ⟨sb, so, none⟩) n cs] 23)).alloc (.cells #[.bool false, .int .u32 0, .int .i64 0] 35)) = W1 := ⟨_, rfl⟩
    have hB1 : Below w.heap.size w W1 := by rw [← hW1]; exact (by repeat (first | with_reducible exact Below.refl _ _ | with_reducible assumption | with_reducible refine below_drewN ?_ _ | with_reducible refine Below.drew ?_ | ((with_reducible refine Bset ?_ ?_); focus (first | omega | (simp; done) | (simp; omega))) | ((with_reducible refine Ball ?_ ?_); focus (first | omega | (simp; done) | (simp; omega)))))
    have k0 : isBlk W1 w.heap.size 22 [.int .u32 n] := by rw [← hW1]; exact ((isBlk.new w 22 [.int .u32 n]).old _).old _
    have k1 : isBlk W1 (w.heap.size + 1) 23 [.slice (some ⟨sb, so, none⟩) n cs] := by rw [← hW1]; have := (isBlk.new (w.alloc (.cells #[.int .u32 n] 22)) 23 [.slice (some ⟨sb, so, none⟩) n cs]); rw [World.size_alloc] at this; exact this.old _
    have k2 : isBlk W1 (w.heap.size + 1 + 1) 35 [.bool false, .int .u32 0, .int .i64 0] := by rw [← hW1]; have := isBlk.new ((w.alloc (.cells #[.int .u32 n] 22)).alloc (.cells #[.slice (some ⟨sb, so, none⟩) n cs] 23)) 35 [.bool false, .int .u32 0, .int .i64 0]; rw [World.size_alloc, World.size_alloc] at this; exact this
    have hz1 : W1.heap.size = w.heap.size + 3 := by rw [← hW1]; simp
    rw [hW1]
    clear hW1
    obtain ⟨nx, hnx⟩ : ∃ nx, nx = w.heap.size := ⟨_, rfl⟩
    obtain ⟨sx, hsx⟩ : ∃ sx, sx = w.heap.size + 1 := ⟨_, rfl⟩
    obtain ⟨vb, hvb⟩ : ∃ vb, vb = w.heap.size + 1 + 1 := ⟨_, rfl⟩
    rw [← hvb] at k2 ⊢
    rw [← hsx] at k1 ⊢
    rw [← hnx] at k0 ⊢
    have hsv : w.heap.size ≤ sx ∧ w.heap.size ≤ vb ∧ sx < W1.heap.size ∧ vb < W1.heap.size ∧ sx ≠ vb ∧ w.heap.size ≤ nx ∧ nx < W1.heap.size ∧ nx ≠ sx ∧ nx ≠ vb := ⟨by omega, by omega, by omega, by omega, by omega, by omega, by omega, by omega, by omega⟩
    clear hsx hvb hz1 hnx
    have k0c : W1.cell? ⟨nx, 0, none⟩ = some (.int .u32 n) := k0.cell 0
    have k1c : W1.cell? ⟨sx, 0, none⟩ = some (.slice (some ⟨sb, so, none⟩) n cs) := k1.cell 0
    have k0l := k0.lt
    have k1l := k1.lt
    have k2l := k2.lt
    go_cut [10, 11] (fun v10 v11 wx => ∃ xb db, v10 = .pointer (some ⟨xb, 0, none⟩) ∧ v11 = .int .i64 0 ∧ isBlk wx xb 58 [.pointer (some ⟨db, 0, none⟩)] ∧ isBlk wx db 75 [.int .u32 n, .int .i64 0, .func (.func 41) #[] #[.pointer (some ⟨b1, 0, none⟩), .pointer (some ⟨b2, 0, none⟩)], .slice (some ⟨sb, so, none⟩) n cs, .bool false, .int .u32 0, .int .i64 0] ∧ W1.heap.size ≤ xb ∧ W1.heap.size ≤ db ∧ xb ≠ db ∧ Below W1.heap.size W1 wx)
    case first =>
      go_region_held3 (fun wz => W1.heap.size ≤ wz.heap.size ∧ (∀ b o, b < W1.heap.size → wz.cell? ⟨b, o, none⟩ = W1.cell? ⟨b, o, none⟩) ∧ Hid (Below W1.heap.size W1 wz))
        (first | exact kS_refl _ | exact kS_of (by repeat (first | with_reducible exact Below.refl _ _ | with_reducible refine Below.drew ?_ | ((with_reducible refine Bset ?_ ?_); focus (first | exact Nat.le_refl _ | exact hb2.size | omega | (simp; done) | (simp; omega))) | ((with_reducible refine Ball ?_ ?_); focus (first | exact Nat.le_refl _ | exact hb2.size | omega | (simp; done) | (simp; omega))) | ((with_reducible refine Below.trans ?_ (hb2.mono ?_)); rotate_left; focus (first | exact Nat.le_refl _ | (simp; done) | (simp; omega))))))
        (first | (go_at_call 48; (with_reducible refine Calls.mono (consT_any n _) ?_); rintro e w2 ⟨⟨p, rfl⟩, hb2⟩; obtain ⟨hc2, hf2⟩ := bcell hb2; have hz2 := hb2.size; (try simp only [World.size_alloc, dsz] at hz2); (try (have hx2 : W1.heap.size < w2.heap.size := by omega)); (try (have hx3 : ¬ W1.heap.size = w2.heap.size := by omega))) | (go_at_call 30; (with_reducible refine Calls.mono (made_any _ _ _) ?_); rintro e w3 ⟨rfl, rfl⟩) | (go_at_call 29; (with_reducible refine Calls.mono (sit_good n n cs _ _ _ _ _ _ _ hn (HER.out.trans HE.out)) ?_); rintro e w4 ⟨rfl, rfl⟩))
      all_goals
        go_wp2_with fail
        go_meet
        refine ⟨_, ?_, rfl, rfl, ?_, ?_, ?_, ?_, ?_, ?_⟩
        rotate_left
        · repeat (first | with_reducible refine isBlk.set1 (u := .pointer none) ?_ _ | ((with_reducible refine isBlk.new' ?_); focus (first | rfl | (simp; done))) | with_reducible refine isBlk.old ?_ _ | ((with_reducible refine isBlk.other ?_ ?_); rotate_left; focus (first | omega | (simp; done) | (simp; omega))) | with_reducible refine isBlk.drew ?_ | ((with_reducible refine isBlk.below ?_ hb2 ?_); rotate_left; focus (first | (simp; done) | omega)))
        · repeat (first | with_reducible refine isBlk.set1 (u := .pointer none) ?_ _ | ((with_reducible refine isBlk.new' ?_); focus (first | rfl | (simp; done))) | with_reducible refine isBlk.old ?_ _ | ((with_reducible refine isBlk.other ?_ ?_); rotate_left; focus (first | omega | (simp; done) | (simp; omega))) | with_reducible refine isBlk.drew ?_ | ((with_reducible refine isBlk.below ?_ hb2 ?_); rotate_left; focus (first | (simp; done) | omega)))
        · first | exact Nat.le_refl _ | omega
        · first | exact Nat.le_refl _ | omega
        · first | omega | (simp; done)
        · repeat (first | with_reducible exact Below.refl _ _ | with_reducible refine Below.drew ?_ | ((with_reducible refine Bset ?_ ?_); focus (first | exact Nat.le_refl _ | exact hb2.size | omega | (simp; done) | (simp; omega))) | ((with_reducible refine Ball ?_ ?_); focus (first | exact Nat.le_refl _ | exact hb2.size | omega | (simp; done) | (simp; omega))) | ((with_reducible refine Below.trans ?_ (hb2.mono ?_)); rotate_left; focus (first | exact Nat.le_refl _ | (simp; done) | (simp; omega))))
    case rest =>
      obtain ⟨xb, db, rfl, rfl, hx, hdk, hxz, hdz, hxd, hb⟩ := hcut
      have hk0 := k0.below hb k0l
      have hk1 := k1.below hb k1l
      have hk2 := k2.below hb k2l
      have hxl := hx.lt
      have hdl := hdk.lt
      have hz1 := hB1.size
      have hz2 := hb.size
      have c04 : wc.cell? ⟨nx, 0, none⟩ = some (.int .u32 n) := hk0.cell 0
      have i1 : (0 : Int) ≤ n := Int.natCast_nonneg _
      have i2 : (n : Int) ≤ l.length := by omega
      go_upto_region 4 with fail
      obtain ⟨wb, rfl⟩ : ∃ wb : World, wb = wc := ⟨_, rfl⟩
      go_upto_region 5 with fail
      have htk : isBlk (wb.alloc (.cells #[.slice (some ⟨rb, 0, none⟩) n l.length] 32)) wb.heap.size 32 [.slice (some ⟨rb, 0, none⟩) n l.length] := isBlk.new wb 32 [.slice (some ⟨rb, 0, none⟩) n l.length]
      obtain ⟨W4, hW4⟩ : ∃ W4, wb.alloc (.cells #[.slice (some ⟨rb, 0, none⟩) n l.length] 32) = W4 := ⟨_, rfl⟩
      have hb2 : Below wb.heap.size wb W4 := by rw [← hW4]; exact (Below.refl _ _).alloc (Nat.le_refl _) _
      have hz4 : W4.heap.size = wb.heap.size + 1 := by rw [← hW4]; simp
      rw [hW4] at htk ⊢
      clear hW4
      obtain ⟨tb, htb⟩ : ∃ tb, tb = wb.heap.size := ⟨_, rfl⟩
      rw [← htb] at htk ⊢
      have hB : Below w.heap.size w W4 := (hB1.trans (hb.mono hz1)).trans (hb2.mono (Nat.le_trans hz1 hz2))
      have hw4 : Wds W4 rb l := hw.keep (hB.block _ hrl) hB.size
      have HW4 : Hid (TopW vb xb sx tb nx db sb so rb n cs l.length b1 b2 eb eo ea cap es beh ss w ⟨0, 0⟩ l W4) := Lib.hid
        ⟨hdk.below hb2 hdl, ⟨(hx.below hb2 hxl).cell 0, (hk1.below hb2 hk1.lt).cell 0, htk.cell 0, (hk0.below hb2 hk0.lt).cell 0, hs.below hB (fun _ => hsbl), ⟨by omega, by omega⟩, ⟨by omega, by omega⟩, ⟨by omega, by omega⟩, ⟨by omega, by omega⟩, ⟨by omega, hA.2.2.2⟩, by omega⟩, hw4, hk2.below hb2 hk2.lt, hF.keep (fun j hj _ => hB.block _ hj) hB.size, Chg.of_below hB, ⟨by omega, by omega⟩, ⟨by omega, by omega⟩, ⟨⟨by omega, hA.1⟩, ⟨by omega, hA.2.1⟩, ⟨by omega, hA.2.2.1⟩, ⟨by omega, hA.2.2.2⟩, by omega⟩⟩
      have hcl := clear_run W4 rb 0 n l.length l hw4 hn1 (by omega)
      have HW5 : Hid (TopW vb xb sx tb nx db sb so rb n cs l.length b1 b2 eb eo ea cap es beh ss w ⟨0, 0⟩ (zap l 0 n) (W4.setCells rb 0 (List.replicate n (.int .u64 0)))) := Lib.hid (by
        have hcz := (Chg.refl (fun j => j = rb) W4).zapped rfl 0 (List.replicate n (.int .u64 0))
        exact HW4.out.go (hcz.mono (fun j h => Or.inr h)) ((hcz.block _ HW4.out.d.lt (fun e => HW4.out.e.nd e)).trans HW4.out.d) (hw4.zapped 0 n (by omega)))
      have c12 : W4.cell? ⟨tb, 0, none⟩ = some (.slice (some ⟨rb, 0, none⟩) n l.length) := htk.cell 0
      have hbl := World.block_lt_of_cell? W4 _ c12
      have hzl : n ≤ (zap l 0 n).length := by rw [zap_len]; exact hnl
      have hzl2 : (zap l 0 n).length ≤ 5000 := by rw [zap_len]; exact hl
      clear hx hdk hk0 hk1 hk2 k0 k1 k2 k0c k1c hB1 hb hb2 hB hs hF hw hw4 hxz hdz hz1 hz2 hz4 hxl hdl hsbl hxd hrl h1l h2l hel k0l k1l k2l htk htb c04 HW4 hsv
      go_upto_region 6 with fail
      obtain ⟨W5, hW5⟩ : ∃ W5, W4.setCells rb 0 (List.replicate n (.int .u64 0)) = W5 := ⟨_, rfl⟩
      rw [hW5] at HW5 ⊢
      clear hW5 hcl c12 hbl
      have c10 := HW5.out.e.p
      obtain ⟨eq, heq⟩ : ∃ er, overErr n es beh = er := ⟨_, rfl⟩
      have HEQ := Lib.hid heq
      have hsc : Hid (topErr n ss.length l.length es beh = eq) := Lib.hid (by unfold topErr; rw [HSS.out, if_neg (by rw [HER.out, HE.out]; simp)]; exact heq)
      clear heq
      go_wp2_with (first | (go_at_call 35; ((with_reducible refine (over49 xb sx tb nx db sb so rb n cs l.length b1 b2 eb eo ea cap es beh ss _ (zap l 0 n) _ HW5.out.d HW5.out.e HSS.out hzl HW5.out.wd HW5.out.fe HW5.out.ap).mono ?_); rintro e w6 ⟨p, rfl, hp, hd6, hw6, hpv, hc6⟩; rw [HEQ.out]; have HW6 := Lib.hid (HW5.out.go hc6 hd6 hw6); have HP := Lib.hid (And.intro hp hpv); have c11 := HW6.out.e.p; clear hp hd6 hw6 hpv hc6 c10)) | (go_at_call 32; ((with_reducible refine (each50 xb sx tb nx db sb so rb n cs l.length b1 b2 ss _ _ _ HW6.out.d HW6.out.e HW6.out.wd HSS.out (by rw [tpL_len]; exact hzl) (by rw [tpL_len]; exact hzl2)).mono ?_); rintro e w7 ⟨⟨x, rfl⟩, hd7, hc7⟩; have HW7 := Lib.hid (HW6.out.go (hc7.mono (fun j h => Or.inl h)) hd7 (HW6.out.wd.keep (hc7.block _ HW6.out.wd.lt (fun e => HW6.out.e.nd e.symm)) hc7.size)); have c13 := HW7.out.e.p; have HV : Hid (isBlk w7 vb 35 [.bool false, .int .u32 0, .int .i64 0]) := Lib.hid HW7.out.v; clear hd7 hc7 c11)) | (go_at_call 37; ((with_reducible refine (verdict_x db _ _ eq _ HW7.out.d).mono ?_); rintro e w2 ⟨x, y, z, hvx, rfl, hb2⟩; have hv2 := HV.out.below hb2 HV.out.lt; have hc20 : w2.cell? ⟨vb, 0, none⟩ = _ := hv2.cell 0; have hc21 : w2.cell? ⟨vb, 1, none⟩ = _ := hv2.cell 1; have hc22 : w2.cell? ⟨vb, 2, none⟩ = _ := hv2.cell 2; have hf20 := hv2.frozen 0; have hf21 := hv2.frozen 1; have hf22 := hv2.frozen 2)))
      obtain ⟨hk9, hg9⟩ := set3 hv2 (.bool x) (.int .u32 y) (.int .i64 z)
      have r0 := hk9.cell 0
      have r1 := hk9.cell 1
      have r2 := hk9.cell 2
      refine bodyPost_ret (v := .tuple #[.agg #[.bool x, .int .u32 y, .int .i64 z], .int .i64 eq]) (by simp (maxDischargeDepth := 8) [results, Try.results17, go_sem, r0, r1, r2]) rfl ?_
      have hxyz : eq ≠ 0 → x = false ∧ y = 0 ∧ z = 0 := fun hez => by
        have h1 := hvx.out
        unfold verdC at h1
        rw [if_pos hez] at h1
        simp only [Array.mk.injEq, List.cons.injEq, Value.bool.injEq, Value.int.injEq, true_and, and_true] at h1
        exact ⟨h1.1.symm, by omega, by omega⟩
      refine TopEnd.mk eq x y z hsc.out rfl hxyz (fun h0 => ?_) HW7.out.wd (by rw [tpL_len, zap_len]) (fun j hj => by rw [tpL_far HP.out.2 j hj, zap_get, if_neg (by omega)]) HW7.out.c hb2 HW7.out.nd.2 HW7.out.nv.2 hg9
      have hpe := HP.out.1 (overErr_ok (HEQ.out.trans h0)).1
      have hv := hvx.out
      rw [hpe, h0] at hv
      exact hv
  · have HE := Lib.hid he
    have he' : ((er : Int) != 0) = true := by rw [bne_iff_ne]; omega
    clear he
    go_enter Try.func17, Try.ntmps17
    go_upto_region 1 with fail
    obtain ⟨W1, hW1⟩ : ∃ W1, (((w.alloc (.cells #[.int .u32 n] 22)).alloc (.cells #[.slice a ss.length cs] 23)).alloc (.cells #[.bool false, .int .u32 0, .int .i64 0] 35)) = W1 := ⟨_, rfl⟩
    have hB1 : Below w.heap.size w W1 := by rw [← hW1]; exact (by repeat (first | with_reducible exact Below.refl _ _ | with_reducible assumption | with_reducible refine below_drewN ?_ _ | with_reducible refine Below.drew ?_ | ((with_reducible refine Bset ?_ ?_); focus (first | omega | (simp; done) | (simp; omega))) | ((with_reducible refine Ball ?_ ?_); focus (first | omega | (simp; done) | (simp; omega)))))
    have k0 : W1.cell? ⟨w.heap.size, 0, none⟩ = some (.int .u32 n) := by rw [← hW1]; exact (((isBlk.new w 22 [.int .u32 n]).old _).old _).cell 0
    have k1 : W1.cell? ⟨w.heap.size + 1, 0, none⟩ = some (.slice a ss.length cs) := by rw [← hW1]; have := (isBlk.new (w.alloc (.cells #[.int .u32 n] 22)) 23 [.slice a ss.length cs]); rw [World.size_alloc] at this; exact (this.old _).cell 0
    have k2 : isBlk W1 (w.heap.size + 1 + 1) 35 [.bool false, .int .u32 0, .int .i64 0] := by rw [← hW1]; have := isBlk.new ((w.alloc (.cells #[.int .u32 n] 22)).alloc (.cells #[.slice a ss.length cs] 23)) 35 [.bool false, .int .u32 0, .int .i64 0]; rw [World.size_alloc, World.size_alloc] at this; exact this
    have hz1 : W1.heap.size = w.heap.size + 3 := by rw [← hW1]; simp
    rw [hW1]
    clear hW1
    have k0l : w.heap.size < W1.heap.size := by omega
    have k1l : w.heap.size + 1 < W1.heap.size := by omega
    obtain ⟨nx, hnx⟩ : ∃ nx, nx = w.heap.size := ⟨_, rfl⟩
    obtain ⟨sx, hsx⟩ : ∃ sx, sx = w.heap.size + 1 := ⟨_, rfl⟩
    obtain ⟨vb, hvb⟩ : ∃ vb, vb = w.heap.size + 1 + 1 := ⟨_, rfl⟩
    rw [← hvb] at k2 ⊢
    rw [← hsx] at k1 k1l ⊢
    rw [← hnx] at k0 k0l ⊢
    have hvz0 : w.heap.size ≤ vb := by omega
    clear hsx hvb hnx
    have k2l := k2.lt
    clear hz1
    go_cut [10, 11] (fun _ v11 wx => v11 = .int .i64 er ∧ Below W1.heap.size W1 wx)
    case first =>
      go_region_held3 (fun wz => W1.heap.size ≤ wz.heap.size ∧ (∀ b o, b < W1.heap.size → wz.cell? ⟨b, o, none⟩ = W1.cell? ⟨b, o, none⟩) ∧ Hid (Below W1.heap.size W1 wz))
        (first | exact kS_refl _ | exact kS_of (by repeat (first | with_reducible exact Below.refl _ _ | with_reducible refine Below.drew ?_ | ((with_reducible refine Bset ?_ ?_); focus (first | exact Nat.le_refl _ | exact hb2.size | omega | (simp; done) | (simp; omega))) | ((with_reducible refine Ball ?_ ?_); focus (first | exact Nat.le_refl _ | exact hb2.size | omega | (simp; done) | (simp; omega))) | ((with_reducible refine Below.trans ?_ (hb2.mono ?_)); rotate_left; focus (first | exact Nat.le_refl _ | (simp; done) | (simp; omega))))))
        (first | (go_at_call 48; (with_reducible refine Calls.mono (consT_any n _) ?_); rintro e w2 ⟨⟨p, rfl⟩, hb2⟩; obtain ⟨hc2, hf2⟩ := bcell hb2; have hz2 := hb2.size; (try simp only [World.size_alloc, dsz] at hz2); (try (have hx2 : W1.heap.size < w2.heap.size := by omega)); (try (have hx3 : ¬ W1.heap.size = w2.heap.size := by omega))) | (go_at_call 30; (with_reducible refine Calls.mono (made_any _ _ _) ?_); rintro e w3 ⟨rfl, rfl⟩) | (go_at_call 29; (with_reducible refine Calls.mono (sit_bad n ss.length cs er _ _ _ _ _ _ _ hn HER.out HE.out) ?_); rintro e w4 ⟨rfl, rfl⟩))
      all_goals
        go_wp2_with fail
        go_meet
        refine ⟨rfl, ?_⟩
        repeat (first | with_reducible exact Below.refl _ _ | with_reducible refine Below.drew ?_ | ((with_reducible refine Bset ?_ ?_); focus (first | exact Nat.le_refl _ | exact hb2.size | omega | (simp; done) | (simp; omega))) | ((with_reducible refine Ball ?_ ?_); focus (first | exact Nat.le_refl _ | exact hb2.size | omega | (simp; done) | (simp; omega))) | ((with_reducible refine Below.trans ?_ (hb2.mono ?_)); rotate_left; focus (first | exact Nat.le_refl _ | (simp; done) | (simp; omega))))
    case rest =>
      obtain ⟨rfl, hb⟩ := hcut
      have hk2 := k2.below hb k2l
      have r0 : wc.cell? ⟨vb, 0, none⟩ = some (.bool false) := hk2.cell 0
      have r1 : wc.cell? ⟨vb, 1, none⟩ = some (.int .u32 0) := hk2.cell 1
      have r2 : wc.cell? ⟨vb, 2, none⟩ = some (.int .i64 0) := hk2.cell 2
      have f0 := hk2.frozen 0
      have f1 := hk2.frozen 1
      have f2 := hk2.frozen 2
      have hvz' : w.heap.size ≤ vb := hvz0
      have hB2 := hB1.trans (hb.mono hB1.size)
      clear k0 k0l k1 k1l hB1
      go_wp2
      obtain ⟨hk9, hg9⟩ := set3 hk2 (.bool false) (.int .u32 0) (.int .i64 0)
      have r0' := hk9.cell 0
      have r1' := hk9.cell 1
      have r2' := hk9.cell 2
      refine bodyPost_ret (v := .tuple #[.agg #[.bool false, .int .u32 0, .int .i64 0], .int .i64 er]) (by simp (maxDischargeDepth := 8) [results, Try.results17, go_sem, r0', r1', r2']) rfl ?_
      exact TopEnd.mk er false 0 0 (by unfold topErr; rw [HER.out, if_pos HE.out]) rfl (fun _ => ⟨rfl, rfl, rfl⟩) (fun h => absurd h HE.out) (hw.keep (hB2.block _ hw.lt) hB2.size) rfl (fun _ _ => rfl) (Chg.of_below hB2) (Below.refl _ _) hvz' (by have := hw.lt; omega) hg9

end Go.Proofs.Ytohmeobfiomfdaa
