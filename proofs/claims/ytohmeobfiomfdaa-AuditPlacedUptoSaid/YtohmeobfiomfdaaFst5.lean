/-
  An audit of two colours: the walk.
-/
import Derived.Test.YtohmeobfiomfdaaFst4
import Derived.Test.YtohmeobfiomfdaaSccs
import Derived.Test.YtohmeobfiomfdaaSit3
import Derived.IntWalk
namespace Go.Proofs.Ytohmeobfiomfdaa
open Go.RowKit Go.Shelf
set_option maxRecDepth 100000

def ColEnd (n : Nat) (ss : List St) (es : List Ed) (beh : Nat) (l : List Nat) (rb : Nat) (w : World) (e : Ending) (w' : World) : Prop :=
  ∃ (x : Bool) (y z : Nat) (l' : List Nat), e = .returned (.tuple #[.agg #[.bool x, .int .u32 y, .int .i64 z], .int .i64 (sccErr n ss.length l.length es beh)]) ∧
    (sccErr n ss.length l.length es beh ≠ 0 → x = false ∧ y = 0 ∧ z = 0) ∧
    (sccErr n ss.length l.length es beh = 0 → ∃ ρ, Roots (Dbl es n) ρ (2 * n) ∧ verdC 0 (cV n ss ρ ⟨0, 0⟩ n) = #[.bool x, .int .u32 y, .int .i64 z]) ∧
    Wds w' rb l' ∧ l'.length = l.length ∧ (∀ j, n + n ≤ j → l'.getD j 0 = l.getD j 0) ∧ Chg (fun j => j = rb) w w'

theorem ColEnd.mk {n : Nat} {ss : List St} {es : List Ed} {beh : Nat} {l l' : List Nat} {rb vb : Nat} {w w1 w2 w' : World} {e : Ending} (er : Nat) (x : Bool) (y z : Nat)
    (ho : sccErr n ss.length l.length es beh = er) (he : e = .returned (.tuple #[.agg #[.bool x, .int .u32 y, .int .i64 z], .int .i64 er]))
    (h0 : er ≠ 0 → x = false ∧ y = 0 ∧ z = 0) (hL : er = 0 → ∃ ρ, Roots (Dbl es n) ρ (2 * n) ∧ verdC 0 (cV n ss ρ ⟨0, 0⟩ n) = #[.bool x, .int .u32 y, .int .i64 z]) (hw : Wds w1 rb l') (h1 : l'.length = l.length) (h2 : ∀ j, n + n ≤ j → l'.getD j 0 = l.getD j 0)
    (hc : Chg (fun j => j = rb) w w1) (hb : Below w1.heap.size w1 w2) (hvz : w.heap.size ≤ vb) (hvr : vb ≠ rb) (h3 : Chg (fun j => j = vb) w2 w') : ColEnd n ss es beh l rb w e w' := by
  subst ho
  have hrl := hw.lt
  refine ⟨x, y, z, l', he, h0, hL, ?_, h1, h2, ?_⟩
  · exact (hw.keep (w' := w2) (hb.block _ hrl) hb.size).keep (h3.block _ (Nat.lt_of_lt_of_le hrl hb.size) hvr.symm) h3.size
  · exact (hc.trans (Chg.of_below hb)).then h3 (fun j hj => Or.inr (by rw [hj]; exact hvz))

set_option maxHeartbeats 8000000 in
theorem twoc_any (n sb so rb cs b1 b2 eb eo : Nat) (a ea : Option Addr) (cap : Nat) (es : List Ed) (beh : Nat) (ss : List St) (l : List Nat) (w : World)
    (hn : n ≤ 4294967295) (hs : IsSts w a sb so ss) (hl : l.length ≤ 5000)
    (hw : Wds w rb l) (hF : Fed w b1 b2 eb eo ea cap es beh) (hA : b1 ≠ rb ∧ b2 ≠ rb ∧ eb ≠ rb ∧ sb ≠ rb) :
    Calls Try.prog 19 #[.int .u32 n, feedFn b1 b2, .slice a ss.length cs, .slice (some ⟨rb, 0, none⟩) l.length l.length] w (ColEnd n ss es beh l rb w) := by
  unfold feedFn
  obtain ⟨er, her⟩ : ∃ er, sitErr (sizeErr n) n ss.length (l.length : Int) (2 * (n : Int)) = er := ⟨_, rfl⟩
  have HER := Lib.hid her
  clear her
  have hw1 : IntKind.i64.wrap (n : Int) = (n : Int) := IntWalk.i64_in _ (by omega)
  have hw2 : IntKind.i64.wrap (2 * (n : Int)) = 2 * (n : Int) := IntWalk.i64_in _ (by omega)
  by_cases he : er = 0
  · have HE := Lib.hid he
    clear he
    obtain ⟨hn1, hss, hnl⟩ := sit_zero (HER.out.trans HE.out)
    have had := hs.ad (by omega)
    subst had
    have hsbl := hs.lt (by omega)
    rw [hss] at HER ⊢
    have HSS := Lib.hid hss
    clear hss
    have hrl := hw.lt
    have h1l := World.block_lt_of_cell? _ _ hF.c1
    have h2l := World.block_lt_of_cell? _ _ hF.c2
    have hel := hF.lt
    simp only [] at h1l h2l
    go_enter Try.func19, Try.ntmps19
    go_upto_region 1 with fail
    have k2 := isBlk.new w 35 [.bool false, .int .u32 0, .int .i64 0]
    obtain ⟨W1, hW1⟩ : ∃ W1, w.alloc (.cells #[.bool false, .int .u32 0, .int .i64 0] 35) = W1 := ⟨_, rfl⟩
    have hB1 : Below w.heap.size w W1 := by rw [← hW1]; exact (Below.refl _ _).alloc (Nat.le_refl _) _
    have hz1 : W1.heap.size = w.heap.size + 1 := by rw [← hW1]; simp
    have hk2' : isBlk W1 w.heap.size 35 [.bool false, .int .u32 0, .int .i64 0] := by rw [← hW1]; exact k2
    rw [hW1]
    clear hW1 k2
    obtain ⟨vb, hvb⟩ : ∃ vb, vb = w.heap.size := ⟨_, rfl⟩
    rw [← hvb]
    have k2 : isBlk W1 vb 35 [.bool false, .int .u32 0, .int .i64 0] := by rw [hvb]; exact hk2'
    have hsv : w.heap.size ≤ vb ∧ vb < W1.heap.size := ⟨by omega, by omega⟩
    clear hvb hz1 hk2'
    have k2l := k2.lt
    go_cut [10, 11] (fun v10 v11 wx => ∃ xb db, v10 = .pointer (some ⟨xb, 0, none⟩) ∧ v11 = .int .i64 0 ∧ isBlk wx xb 58 [.pointer (some ⟨db, 0, none⟩)] ∧ isBlk wx db 75 [.int .u32 n, .int .i64 0, .func (.func 41) #[] #[.pointer (some ⟨b1, 0, none⟩), .pointer (some ⟨b2, 0, none⟩)], .slice (some ⟨sb, so, none⟩) n cs, .bool false, .int .u32 0, .int .i64 0] ∧ W1.heap.size ≤ xb ∧ W1.heap.size ≤ db ∧ xb ≠ db ∧ Below W1.heap.size W1 wx)
    case first =>
      go_wp2_with (first | (go_at_call 51; (with_reducible refine (cons2_any n _).mono ?_); rintro e w2 ⟨⟨p, rfl⟩, hb2⟩; obtain ⟨hc2, hf2⟩ := bcell hb2; have hz2 := hb2.size; (try simp only [World.size_alloc, dsz] at hz2); (try (have hx2 : W1.heap.size < w2.heap.size := by omega)); (try (have hx3 : ¬ W1.heap.size = w2.heap.size := by omega))) | (go_at_call 30; (with_reducible refine Calls.mono (made_any _ _ _) ?_); rintro e w3 ⟨rfl, rfl⟩) | (go_at_call 29; (with_reducible refine Calls.mono (sit_good n n cs _ _ _ _ _ _ _ hn (HER.out.trans HE.out)) ?_); rintro e w4 ⟨rfl, rfl⟩))
      all_goals
        go_meet
        refine ⟨_, ?_, rfl, rfl, ?_, ?_, ?_, ?_, ?_, ?_⟩
        rotate_left
        · repeat (first | with_reducible refine isBlk.set1 (u := .pointer none) ?_ _ | ((with_reducible refine isBlk.new' ?_); focus (first | rfl | (simp; done))) | with_reducible refine isBlk.old ?_ _ | ((with_reducible refine isBlk.other ?_ ?_); rotate_left; focus (first | omega | (simp; done) | (simp; omega))) | with_reducible refine isBlk.drew ?_ | ((with_reducible refine isBlk.below ?_ hb2 ?_); rotate_left; focus (first | (simp; done) | omega)))
        · repeat (first | with_reducible refine isBlk.set1 (u := .pointer none) ?_ _ | ((with_reducible refine isBlk.new' ?_); focus (first | rfl | (simp; done))) | with_reducible refine isBlk.old ?_ _ | ((with_reducible refine isBlk.other ?_ ?_); rotate_left; focus (first | omega | (simp; done) | (simp; omega))) | with_reducible refine isBlk.drew ?_ | ((with_reducible refine isBlk.below ?_ hb2 ?_); rotate_left; focus (first | (simp; done) | omega)))
        · first | exact Nat.le_refl _ | omega
        · first | exact Nat.le_refl _ | omega
        · first | omega | (simp; done)
        · repeat (first | with_reducible exact Below.refl _ _ | with_reducible refine Below.drew ?_ | ((with_reducible refine Bset ?_ ?_); focus (first | exact Nat.le_refl _ | exact hb2.size | omega | (simp; done) | (simp; omega))) | ((with_reducible refine Ball ?_ ?_); focus (first | exact Nat.le_refl _ | exact hb2.size | omega | (simp; done) | (simp; omega))) | ((with_reducible refine Below.trans ?_ (hb2.mono ?_)); rotate_left; focus (first | exact Nat.le_refl _ | (simp; done) | (simp; omega))))
    case rest =>
      obtain ⟨xb, db, rfl, rfl, hx, hdk, hxz, hdz, hxd, hb⟩ := hcut
      have hk2 := k2.below hb k2l
      have hxl := hx.lt
      have hdl := hdk.lt
      have hz1 := hB1.size
      have hz2 := hb.size
      obtain ⟨M, hM⟩ : ∃ M, M = 2 * n := ⟨_, rfl⟩
      have hM1 : M ≤ l.length := by omega
      have hMk : M ≤ 1000000 := by omega
      have i1 : (0 : Int) ≤ M := Int.natCast_nonneg _
      have i2 : (M : Int) ≤ l.length := by omega
      have hwu : IntKind.u32.wrap (2 * (n : Int)) = (M : Int) := by rw [IntWalk.u32_in _ (by omega)]; omega
      have hwv : IntKind.u64.wrap (n : Int) = (n : Int) := by rw [IntKind.wrap_u64]; omega
      have HM := Lib.hid hM
      clear hM
      go_upto_region 4 with fail
      obtain ⟨wb, rfl⟩ : ∃ wb : World, wb = wc := ⟨_, rfl⟩
      have hwB := hw.keep ((hB1.trans (hb.mono hz1)).block _ hrl) (Nat.le_trans hz1 hz2)
      have HWB := Lib.hid hwB
      clear hwB
      go_upto_region 5 with (go_at_call 52; ((with_reducible refine (newForest_any rb M l.length l _ HWB.out hM1 hMk).mono ?_); rintro e w5 ⟨rfl, hw5, hc5⟩))
      have hwz5 := hc5.size
      have hb65 : Below w5.heap.size w5 ((w5.alloc (.cells #[.slice (some ⟨rb, 0, none⟩) M l.length] 89)).alloc (.cells #[.int .u64 n] 28)) := ((Below.refl _ _).alloc (Nat.le_refl _) _).alloc (by simp) _
      have kf := (isBlk.new w5 89 [.slice (some ⟨rb, 0, none⟩) M l.length]).old (.cells #[.int .u64 n] 28)
      have ka := isBlk.new (w5.alloc (.cells #[.slice (some ⟨rb, 0, none⟩) M l.length] 89)) 28 [.int .u64 n]
      rw [World.size_alloc] at ka
      obtain ⟨W6, hW6⟩ : ∃ W6, (w5.alloc (.cells #[.slice (some ⟨rb, 0, none⟩) M l.length] 89)).alloc (.cells #[.int .u64 n] 28) = W6 := ⟨_, rfl⟩
      have kf' : isBlk W6 w5.heap.size 89 [.slice (some ⟨rb, 0, none⟩) M l.length] := by rw [← hW6]; exact kf
      have ka' : isBlk W6 (w5.heap.size + 1) 28 [.int .u64 n] := by rw [← hW6]; exact ka
      have hw6 : Wds W6 rb (alone l M) := by rw [← hW6]; exact (hw5.all _).all _
      rw [hW6] at hb65 ⊢
      clear hW6 kf ka
      obtain ⟨fb, hfb⟩ : ∃ fb, fb = w5.heap.size := ⟨_, rfl⟩
      obtain ⟨ab, hab⟩ : ∃ ab, ab = w5.heap.size + 1 := ⟨_, rfl⟩
      rw [← hab] at ka' ⊢
      rw [← hfb] at kf' ⊢
      have hdr : db ≠ rb := by omega
      have hxr : xb ≠ rb := by omega
      have hvr : vb ≠ rb := by have := hw.lt; have := k2.lt; have := hsv.1; omega
      have HW6 : Hid (ColW vb xb fb ab db sb so rb n M cs l.length b1 b2 eb eo ea cap es beh ss w ⟨0, 0⟩ (alone l M) W6) := Lib.hid (by
        have hBb : Below w.heap.size w wb := hB1.trans (hb.mono hz1)
        have hc : Chg (fun j => j = rb) w W6 := ((Chg.of_below hBb).trans hc5).trans (Chg.of_below hb65)
        have hc2 : Chg (fun j => j = rb) wb W6 := hc5.trans (Chg.of_below hb65)
        have hdl5 : db < wb.heap.size := hdl
        have d6 : isBlk W6 db 75 _ := (hc2.block _ hdl hdr).trans hdk
        have x6 : isBlk W6 xb 58 _ := (hc2.block _ hxl hxr).trans hx
        have v6 : isBlk W6 vb 35 _ := (hc2.block _ hk2.lt hvr).trans hk2
        refine ⟨d6, ⟨x6.cell 0, kf'.cell 0, ka'.cell 0, hs.keep (fun _ => hc.block _ hsbl (fun e => hA.2.2.2 e)) hc.size, ⟨HSS.out, HM.out⟩, ⟨hxd, hxr⟩, ⟨by omega, by omega⟩, ⟨by omega, by omega⟩, ⟨by omega, hA.2.2.2⟩, hdr⟩, hw6, v6, hF.keep (fun j hj h => hc.block _ hj (by rcases h with rfl | rfl | rfl; exact hA.1; exact hA.2.1; exact hA.2.2.1)) hc.size, hc, ⟨by omega, hsv.1⟩, ⟨by omega, hvr⟩, ⟨⟨by omega, hA.1⟩, ⟨by omega, hA.2.1⟩, ⟨by omega, hA.2.2.1⟩, ⟨by omega, hA.2.2.2⟩, hdr⟩⟩)
      have c10 := HW6.out.e.p
      obtain ⟨eq, heq⟩ : ∃ er, overErr n es beh = er := ⟨_, rfl⟩
      have HEQ := Lib.hid heq
      have hsc : Hid (sccErr n ss.length l.length es beh = eq) := Lib.hid (by unfold sccErr; rw [HSS.out, if_neg (by rw [HER.out, HE.out]; simp)]; exact heq)
      clear heq hw5 hc5 hwz5 hb65 kf' ka' hw6 hfb hab hx hdk hk2 hxl hdl hxz hdz hxd hz1 hz2 hb hB1 HWB hs hF hw hrl hsbl h1l h2l hel k2 k2l
      go_wp2_with (first | (go_at_call 35; ((with_reducible refine (over53 xb fb ab db sb so rb n M cs l.length b1 b2 eb eo ea cap es beh ss _ l _ HW6.out.d HW6.out.e hM1 hMk HW6.out.wd HW6.out.fe HW6.out.ap).mono ?_); rintro e w6 ⟨p, L, rfl, hp, hw6, hg6, hc6⟩; rw [HEQ.out]; have HW7 := Lib.hid (HW6.out.go (hc6.mono (fun j h => Or.inr h)) ((hc6.block _ HW6.out.d.lt HW6.out.e.nd).trans HW6.out.d) hw6); have HP := Lib.hid (And.intro hp hg6); have c11 := HW7.out.e.p; clear hp hw6 hg6 hc6 c10)) | (go_at_call 32; ((with_reducible refine (each55 xb fb ab db sb so rb n M cs l.length b1 b2 ss L _ _ HW7.out.d HW7.out.e HW7.out.wd HP.out.2.f hMk).mono ?_); rintro e w7 ⟨⟨x, rfl⟩, ⟨L', hw7, hs7⟩, hd7, hc7⟩; have HW8 := Lib.hid (HW7.out.go hc7 hd7 hw7); have c13 := HW8.out.e.p; have HS7 := Lib.hid hs7; have HV : Hid (isBlk w7 vb 35 [.bool false, .int .u32 0, .int .i64 0]) := Lib.hid HW8.out.v; clear hd7 hc7 hw7 hs7 c11)) | (go_at_call 37; ((with_reducible refine (verdict_x db _ _ eq _ HW8.out.d).mono ?_); rintro e w2 ⟨x, y, z, hvx, rfl, hb2⟩; have hv2 := HV.out.below hb2 HV.out.lt; have hc20 : w2.cell? ⟨vb, 0, none⟩ = _ := hv2.cell 0; have hc21 : w2.cell? ⟨vb, 1, none⟩ = _ := hv2.cell 1; have hc22 : w2.cell? ⟨vb, 2, none⟩ = _ := hv2.cell 2; have hf20 := hv2.frozen 0; have hf21 := hv2.frozen 1; have hf22 := hv2.frozen 2)))
      obtain ⟨hk9, hg9⟩ := set3 hv2 (.bool x) (.int .u32 y) (.int .i64 z)
      have r0 := hk9.cell 0
      have r1 := hk9.cell 1
      have r2 := hk9.cell 2
      refine bodyPost_ret (v := .tuple #[.agg #[.bool x, .int .u32 y, .int .i64 z], .int .i64 eq]) (by simp (maxDischargeDepth := 8) [results, Try.results19, go_sem, r0, r1, r2]) rfl ?_
      have hxyz : eq ≠ 0 → x = false ∧ y = 0 ∧ z = 0 := fun hez => by
        have h1 := hvx.out
        unfold verdC at h1
        rw [if_pos hez] at h1
        simp only [Array.mk.injEq, List.cons.injEq, Value.bool.injEq, Value.int.injEq, true_and, and_true] at h1
        exact ⟨h1.1.symm, by omega, by omega⟩
      refine ColEnd.mk eq x y z hsc.out rfl hxyz (fun h0 => ?_) HW8.out.wd (HS7.out.len.trans HP.out.2.len) (fun j hj => (HS7.out.far j (by have := HM.out; omega)).trans (HP.out.2.far j (by have := HM.out; omega))) HW8.out.c hb2 HW8.out.nd.2 HW8.out.nv.2 hg9
      have hpe := HP.out.1 (overErr_ok (HEQ.out.trans h0)).1
      have hv := hvx.out
      have hr := HP.out.2.r
      rw [hpe, HM.out] at hr
      rw [h0] at hv
      exact ⟨_, hr, hv⟩
  · have HE := Lib.hid he
    have he' : ((er : Int) != 0) = true := by rw [bne_iff_ne]; omega
    clear he
    go_enter Try.func19, Try.ntmps19
    go_upto_region 1 with fail
    have k2 := isBlk.new w 35 [.bool false, .int .u32 0, .int .i64 0]
    obtain ⟨W1, hW1⟩ : ∃ W1, w.alloc (.cells #[.bool false, .int .u32 0, .int .i64 0] 35) = W1 := ⟨_, rfl⟩
    have hB1 : Below w.heap.size w W1 := by rw [← hW1]; exact (Below.refl _ _).alloc (Nat.le_refl _) _
    have hz1 : W1.heap.size = w.heap.size + 1 := by rw [← hW1]; simp
    have hk2' : isBlk W1 w.heap.size 35 [.bool false, .int .u32 0, .int .i64 0] := by rw [← hW1]; exact k2
    rw [hW1]
    clear hW1 k2
    obtain ⟨vb, hvb⟩ : ∃ vb, vb = w.heap.size := ⟨_, rfl⟩
    rw [← hvb]
    have k2 : isBlk W1 vb 35 [.bool false, .int .u32 0, .int .i64 0] := by rw [hvb]; exact hk2'
    have hvz0 : w.heap.size ≤ vb := by omega
    clear hvb hz1 hk2'
    have k2l := k2.lt
    go_cut [10, 11] (fun _ v11 wx => v11 = .int .i64 er ∧ Below W1.heap.size W1 wx)
    case first =>
      go_wp2_with (first | (go_at_call 51; (with_reducible refine (cons2_any n _).mono ?_); rintro e w2 ⟨⟨p, rfl⟩, hb2⟩; obtain ⟨hc2, hf2⟩ := bcell hb2; have hz2 := hb2.size; (try simp only [World.size_alloc, dsz] at hz2); (try (have hx2 : W1.heap.size < w2.heap.size := by omega)); (try (have hx3 : ¬ W1.heap.size = w2.heap.size := by omega))) | (go_at_call 30; (with_reducible refine Calls.mono (made_any _ _ _) ?_); rintro e w3 ⟨rfl, rfl⟩) | (go_at_call 29; (with_reducible refine Calls.mono (sit_bad n ss.length cs er _ _ _ _ _ _ _ hn HER.out HE.out) ?_); rintro e w4 ⟨rfl, rfl⟩))
      all_goals
        go_meet
        refine ⟨rfl, ?_⟩
        repeat (first | with_reducible exact Below.refl _ _ | with_reducible refine Below.drew ?_ | ((with_reducible refine Bset ?_ ?_); focus (first | exact Nat.le_refl _ | exact hb2.size | omega | (simp; done) | (simp; omega))) | ((with_reducible refine Ball ?_ ?_); focus (first | exact Nat.le_refl _ | exact hb2.size | omega | (simp; done) | (simp; omega))) | ((with_reducible refine Below.trans ?_ (hb2.mono ?_)); rotate_left; focus (first | exact Nat.le_refl _ | (simp; done) | (simp; omega))))
    case rest =>
      obtain ⟨rfl, hb⟩ := hcut
      have hk2 := k2.below hb k2l
      have r0 : wc.cell? ⟨vb, 0, none⟩ = some (.bool false) := hk2.cell 0
      have r1 : wc.cell? ⟨vb, 1, none⟩ = some (.int .u32 0) := hk2.cell 1
      have r2 : wc.cell? ⟨vb, 2, none⟩ = some (.int .i64 0) := hk2.cell 2
      have f0 := hk2.frozen 0
      have f1 := hk2.frozen 1
      have f2 := hk2.frozen 2
      have hvz' : w.heap.size ≤ vb := hvz0
      have hB2 := hB1.trans (hb.mono hB1.size)
      clear hB1
      go_wp2
      obtain ⟨hk9, hg9⟩ := set3 hk2 (.bool false) (.int .u32 0) (.int .i64 0)
      have r0' := hk9.cell 0
      have r1' := hk9.cell 1
      have r2' := hk9.cell 2
      refine bodyPost_ret (v := .tuple #[.agg #[.bool false, .int .u32 0, .int .i64 0], .int .i64 er]) (by simp (maxDischargeDepth := 8) [results, Try.results19, go_sem, r0', r1', r2']) rfl ?_
      exact ColEnd.mk er false 0 0 (by unfold sccErr; rw [HER.out, if_pos HE.out]) rfl (fun _ => ⟨rfl, rfl, rfl⟩) (fun h => absurd h HE.out) (hw.keep (hB2.block _ hw.lt) hB2.size) rfl (fun _ _ => rfl) (Chg.of_below hB2) (Below.refl _ _) hvz' (by have := hw.lt; omega) hg9

end Go.Proofs.Ytohmeobfiomfdaa
