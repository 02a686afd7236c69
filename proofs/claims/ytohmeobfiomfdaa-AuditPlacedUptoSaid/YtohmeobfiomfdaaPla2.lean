/-
  An audit of labels: the walk, where nothing is wrong with what is asked.
-/
import Derived.Test.YtohmeobfiomfdaaPla1
import Derived.Test.YtohmeobfiomfdaaFst5
import Derived.Test.YtohmeobfiomfdaaFst7
namespace Go.Proofs.Ytohmeobfiomfdaa
open Go.RowKit Go.Shelf
set_option maxRecDepth 100000

theorem sizeErr0 {n : Nat} (h1 : 1 ≤ n) (h2 : n ≤ 5000) : sizeErr n = 0 := by unfold sizeErr; rw [if_neg (by omega)]
theorem overErr0 {n : Nat} {es : List Ed} (h : ∀ e, e ∈ es → Valid n e) : overErr n es 0 = 0 := by
  unfold overErr
  split <;> first | rfl | skip
  rename_i hx
  exact absurd (List.all_eq_true.2 (fun e he => decide_eq_true (h e he))) hx
theorem sitErr0 {n : Nat} {room need : Int} (h : need ≤ room) : sitErr 0 n n room need = 0 := by
  unfold sitErr; rw [if_neg (by simp), if_neg (by simp), if_neg (by omega)]
theorem sit_zero0 (n cap : Nat) (room need : Int) (f : Fn) (fx fy : Array Value) (a : Option Addr) (w : World) (hn : n ≤ 4294967295) (h : sitErr 0 n n room need = 0) :
    Calls Try.prog 29 #[.int .u32 n, .int .i64 0, .func f fx fy, .slice a n cap, .int .i64 room, .int .i64 need, .int .i64 0] w fun e w' =>
      e = .returned (.tuple #[.pointer (some ⟨w.heap.size, 0, none⟩), .int .i64 0]) ∧ w' = w.alloc (.cells #[.int .u32 n, .int .i64 0, .func f fx fy, .slice a n cap, .bool false, .int .u32 0, .int .i64 0] 75) := by
  refine (sit_any n 0 n cap 0 room need f fx fy a w hn).mono ?_
  rintro e w' (⟨h1, _⟩ | ⟨_, h2⟩)
  · exact absurd h h1
  · exact h2
theorem verdict_0 (db : Nat) (d : Dk) (f : Fd) (w : World) (h : isBlk w db 75 (d.cells f)) :
    Calls Try.prog 37 #[.pointer (some ⟨db, 0, none⟩), .int .i64 0] w fun e w' => ∃ (x : Bool) (y z : Nat), Hid (verdC 0 f = #[.bool x, .int .u32 y, .int .i64 z]) ∧ e = .returned (.tuple #[.agg #[.bool x, .int .u32 y, .int .i64 z], .int .i64 0]) ∧ Below w.heap.size w w' := verdict_x db d f 0 w h
theorem madeW_any (p : Option Addr) (x : Int) (w : World) : Calls Try.prog 58 #[.pointer p, .int .i64 x] w fun e w' => e = .returned (.int .i64 x) ∧ w = w' := by
  go_enter Try.func58, Try.ntmps58
  go_wp2
  go_ret
  exact ⟨rfl, rfl⟩
theorem sizedW_any (n : Nat) (w : World) (hn1 : 1 ≤ n) (hn : n ≤ 5000) : Calls Try.prog 70 #[.int .u32 n] w fun e w' => e = .returned (.bool true) ∧ w = w' := by
  have h1 : (1 : Int) ≤ n := by omega
  have h2 : (n : Int) ≤ 2147483647 := by omega
  go_enter Try.func70, Try.ntmps70
  go_wp2
  go_ret
  exact ⟨rfl, rfl⟩
theorem consW_any (n : Nat) (w : World) (hn1 : 1 ≤ n) (hn : n ≤ 5000) : Calls Try.prog 59 #[.int .u32 n] w fun e w' => (∃ p : Option Addr, e = .returned (.tuple #[.pointer p, .int .i64 0])) ∧ Below w.heap.size w w' := by
  go_enter Try.func59, Try.ntmps59
  go_wp2_with (go_at_call 70; ((with_reducible refine (sizedW_any n _ hn1 hn).mono ?_); rintro e w1 ⟨rfl, rfl⟩))
  go_ret2
  exact ⟨⟨_, rfl⟩, (by repeat (first | with_reducible exact Below.refl _ _ | with_reducible assumption | with_reducible refine below_drewN ?_ _ | with_reducible refine Below.drew ?_ | ((with_reducible refine Bset ?_ ?_); focus (first | omega | (simp; done) | (simp; omega))) | ((with_reducible refine Ball ?_ ?_); focus (first | omega | (simp; done) | (simp; omega)))))⟩

set_option maxHeartbeats 8000000 in
theorem labels_any (n sb so rb cs b1 b2 eb eo : Nat) (a ea : Option Addr) (cap : Nat) (es : List Ed) (ss : List St) (l : List Nat) (w : World)
    (hn1 : 1 ≤ n) (hn5 : n ≤ 5000) (hs : IsSts w a sb so ss) (hss : ss.length = n) (hnl : n ≤ l.length) (hva : ∀ e, e ∈ es → Valid n e)
    (hw : Wds w rb l) (hF : Fed w b1 b2 eb eo ea cap es 0) (hA : b1 ≠ rb ∧ b2 ≠ rb ∧ eb ≠ rb ∧ sb ≠ rb) :
    Calls Try.prog 26 #[.int .u32 n, .func (.func 41) #[] #[.pointer (some ⟨b1, 0, none⟩), .pointer (some ⟨b2, 0, none⟩)], .slice a n cs, .slice (some ⟨rb, 0, none⟩) l.length l.length] w fun e w' =>
      ∃ (x : Bool) (y z : Nat) (l' : List Nat) (ρ : Nat → Nat), e = .returned (.tuple #[.agg #[.bool x, .int .u32 y, .int .i64 z], .int .i64 0]) ∧ Roots (Sgl es) ρ n ∧
        (∃ f, verdC 0 f = #[.bool x, .int .u32 y, .int .i64 z] ∧ Least f (Bword ss ρ n)) ∧ Wds w' rb l' ∧ l'.length = l.length ∧ Chg (fun j => j = rb) w w' := by
  have hn : n ≤ 4294967295 := by omega
  have HER := Lib.hid (sitErr0 (n := n) (room := (l.length : Int)) (need := (n : Int)) (by omega))
  have hw1 : IntKind.i64.wrap (n : Int) = (n : Int) := IntWalk.i64_in _ (by omega)
  have had := hs.ad (by omega)
  subst had
  have hsbl := hs.lt (by omega)
  have HSS := Lib.hid hss
  clear hss
  have hrl := hw.lt
  have h1l := World.block_lt_of_cell? _ _ hF.c1
  have h2l := World.block_lt_of_cell? _ _ hF.c2
  have hel := hF.lt
  simp only [] at h1l h2l
  go_enter Try.func26, Try.ntmps26
  go_upto_region 1 with fail
  have k2 := isBlk.new w 35 [.bool false, .int .u32 0, .int .i64 0]
  obtain ⟨W1, hW1⟩ : ∃ W1, w.alloc (.cells #[.bool false, .int .u32 0, .int .i64 0] 35) = W1 := ⟨_, rfl⟩
  have hB1 : Below w.heap.size w W1 := by rw [← hW1]; exact (Below.refl _ _).alloc (Nat.le_refl _) _
  have hz1 : W1.heap.size = w.heap.size + 1 := by rw [← hW1]; simp
  have hk2' : isBlk W1 w.heap.size 35 [.bool false, .int .u32 0, .int .i64 0] := by rw [← hW1]; exact k2
  rw [hW1]
  clear hW1 k2
  obtain ⟨vb, hvb⟩ : ∃ vb, vb = w.heap.size := ⟨_, rfl⟩
  rw [← hvb]
  have k2 : isBlk W1 vb 35 [.bool false, .int .u32 0, .int .i64 0] := by rw [hvb]; exact hk2'
  have hsv : w.heap.size ≤ vb ∧ vb < W1.heap.size := ⟨by omega, by omega⟩
  clear hvb hz1 hk2'
  have k2l := k2.lt
  go_cut [10, 11] (fun v10 v11 wx => ∃ xb db, v10 = .pointer (some ⟨xb, 0, none⟩) ∧ v11 = .int .i64 0 ∧ isBlk wx xb 58 [.pointer (some ⟨db, 0, none⟩)] ∧ isBlk wx db 75 [.int .u32 n, .int .i64 0, .func (.func 41) #[] #[.pointer (some ⟨b1, 0, none⟩), .pointer (some ⟨b2, 0, none⟩)], .slice (some ⟨sb, so, none⟩) n cs, .bool false, .int .u32 0, .int .i64 0] ∧ W1.heap.size ≤ xb ∧ W1.heap.size ≤ db ∧ xb ≠ db ∧ Below W1.heap.size W1 wx)
  case first =>
    go_wp2_with (first | (go_at_call 59; (with_reducible refine (consW_any n _ hn1 hn5).mono ?_); rintro e w2 ⟨⟨p, rfl⟩, hb2⟩; obtain ⟨hc2, hf2⟩ := bcell hb2; have hz2 := hb2.size; (try simp only [World.size_alloc, dsz] at hz2); (try (have hx2 : W1.heap.size < w2.heap.size := by omega)); (try (have hx3 : ¬ W1.heap.size = w2.heap.size := by omega))) | (go_at_call 58; (with_reducible refine (madeW_any _ _ _).mono ?_); rintro e w3 ⟨rfl, rfl⟩) | (go_at_call 29; (with_reducible refine Calls.mono (sit_zero0 n cs _ _ _ _ _ _ _ hn HER.out) ?_); rintro e w4 ⟨rfl, rfl⟩))
    all_goals
      go_meet
      refine ⟨_, ?_, rfl, rfl, ?_, ?_, ?_, ?_, ?_, ?_⟩
      rotate_left
      · repeat (first | with_reducible refine isBlk.set1 (u := .pointer none) ?_ _ | ((with_reducible refine isBlk.new' ?_); focus (first | rfl | (simp; done))) | with_reducible refine isBlk.old ?_ _ | ((with_reducible refine isBlk.other ?_ ?_); rotate_left; focus (first | omega | (simp; done) | (simp; omega))) | with_reducible refine isBlk.drew ?_ | ((with_reducible refine isBlk.below ?_ hb2 ?_); rotate_left; focus (first | (simp; done) | omega)))
      · repeat (first | with_reducible refine isBlk.set1 (u := .pointer none) ?_ _ | ((with_reducible refine isBlk.new' ?_); focus (first | rfl | (simp; done))) | with_reducible refine isBlk.old ?_ _ | ((with_reducible refine isBlk.other ?_ ?_); rotate_left; focus (first | omega | (simp; done) | (simp; omega))) | with_reducible refine isBlk.drew ?_ | ((with_reducible refine isBlk.below ?_ hb2 ?_); rotate_left; focus (first | (simp; done) | omega)))
      · first | exact Nat.le_refl _ | omega
      · first | exact Nat.le_refl _ | omega
      · first | omega | (simp; done)
      · repeat (first | with_reducible exact Below.refl _ _ | with_reducible refine Below.drew ?_ | ((with_reducible refine Bset ?_ ?_); focus (first | exact Nat.le_refl _ | exact hb2.size | omega | (simp; done) | (simp; omega))) | ((with_reducible refine Ball ?_ ?_); focus (first | exact Nat.le_refl _ | exact hb2.size | omega | (simp; done) | (simp; omega))) | ((with_reducible refine Below.trans ?_ (hb2.mono ?_)); rotate_left; focus (first | exact Nat.le_refl _ | (simp; done) | (simp; omega))))
  case rest =>
      obtain ⟨xb, db, rfl, rfl, hx, hdk, hxz, hdz, hxd, hb⟩ := hcut
      have hk2 := k2.below hb k2l
      have hxl := hx.lt
      have hdl := hdk.lt
      have hz1 := hB1.size
      have hz2 := hb.size
      have i1 : (0 : Int) ≤ n := Int.natCast_nonneg _
      have i2 : (n : Int) ≤ l.length := by omega
      go_upto_region 4 with fail
      obtain ⟨wb, rfl⟩ : ∃ wb : World, wb = wc := ⟨_, rfl⟩
      have hwB := hw.keep ((hB1.trans (hb.mono hz1)).block _ hrl) (Nat.le_trans hz1 hz2)
      have HWB := Lib.hid hwB
      clear hwB
      go_upto_region 5 with (go_at_call 52; ((with_reducible refine (newForest_any rb n l.length l _ HWB.out hnl (by omega)).mono ?_); rintro e w5 ⟨rfl, hw5, hc5⟩))
      have hwz5 := hc5.size
      have hb65 : Below w5.heap.size w5 (w5.alloc (.cells #[.slice (some ⟨rb, 0, none⟩) n l.length] 89)) := (Below.refl _ _).alloc (Nat.le_refl _) _
      have kf := isBlk.new w5 89 [.slice (some ⟨rb, 0, none⟩) n l.length]
      obtain ⟨W6, hW6⟩ : ∃ W6, w5.alloc (.cells #[.slice (some ⟨rb, 0, none⟩) n l.length] 89) = W6 := ⟨_, rfl⟩
      have kf' : isBlk W6 w5.heap.size 89 [.slice (some ⟨rb, 0, none⟩) n l.length] := by rw [← hW6]; exact kf
      have hw6 : Wds W6 rb (alone l n) := by rw [← hW6]; exact hw5.all _
      rw [hW6] at hb65 ⊢
      clear hW6 kf
      obtain ⟨fb, hfb⟩ : ∃ fb, fb = w5.heap.size := ⟨_, rfl⟩
      rw [← hfb] at kf' ⊢
      have hdr : db ≠ rb := by omega
      have hxr : xb ≠ rb := by omega
      have hvr : vb ≠ rb := by have := hw.lt; have := k2.lt; have := hsv.1; omega
      have HW6 : Hid (LabW vb xb fb db sb so rb n cs l.length b1 b2 eb eo ea cap es 0 ss w ⟨0, 0⟩ (alone l n) W6) := Lib.hid (by
        have hBb : Below w.heap.size w wb := hB1.trans (hb.mono hz1)
        have hc : Chg (fun j => j = rb) w W6 := ((Chg.of_below hBb).trans hc5).trans (Chg.of_below hb65)
        have hc2 : Chg (fun j => j = rb) wb W6 := hc5.trans (Chg.of_below hb65)
        have d6 : isBlk W6 db 75 _ := (hc2.block _ hdl hdr).trans hdk
        have x6 : isBlk W6 xb 58 _ := (hc2.block _ hxl hxr).trans hx
        have v6 : isBlk W6 vb 35 _ := (hc2.block _ hk2.lt hvr).trans hk2
        refine ⟨d6, ⟨x6.cell 0, kf'.cell 0, hs.keep (fun _ => hc.block _ hsbl (fun e => hA.2.2.2 e)) hc.size, HSS.out, ⟨hxd, hxr⟩, ⟨by omega, by omega⟩, ⟨by omega, hA.2.2.2⟩, hdr⟩, hw6, v6, hF.keep (fun j hj h => hc.block _ hj (by rcases h with rfl | rfl | rfl; exact hA.1; exact hA.2.1; exact hA.2.2.1)) hc.size, hc, ⟨by omega, hsv.1⟩, ⟨by omega, hvr⟩, ⟨⟨by omega, hA.1⟩, ⟨by omega, hA.2.1⟩, ⟨by omega, hA.2.2.1⟩, ⟨by omega, hA.2.2.2⟩, hdr⟩⟩)
      have c10 := HW6.out.e.p
      have HEQ := Lib.hid (overErr0 hva)
      have HAV := Lib.hid (overErr_ok HEQ.out).1
      clear hw5 hc5 hwz5 hb65 kf' hw6 hfb hx hdk hk2 hxl hdl hxz hdz hxd hz1 hz2 hb hB1 HWB hs hF hw hrl hsbl h1l h2l hel k2 k2l
      go_wp2_with (first | (go_at_call 35; ((with_reducible refine (over60 xb fb db sb so rb n cs l.length b1 b2 eb eo ea cap es 0 ss _ l _ HW6.out.d HW6.out.e hnl hn HW6.out.wd HW6.out.fe HW6.out.ap).mono ?_); rintro e w6 ⟨p, L, rfl, hp, hw6, hg6, hc6⟩; rw [HEQ.out]; have HW7 := Lib.hid (HW6.out.go (hc6.mono (fun j h => Or.inr h)) ((hc6.block _ HW6.out.d.lt HW6.out.e.nd).trans HW6.out.d) hw6); have HP := Lib.hid (And.intro hp hg6); have c11 := HW7.out.e.p; clear hp hw6 hg6 hc6 c10)) | (go_at_call 32; ((with_reducible refine (each61 xb fb db sb so rb n cs l.length b1 b2 ss L _ _ HW7.out.d HW7.out.e HW7.out.wd HP.out.2.f hn).mono ?_); rintro e w7 ⟨⟨x, rfl⟩, ⟨L', hw7, hs7⟩, hd7, hc7⟩; have HW8 := Lib.hid (HW7.out.go hc7 hd7 hw7); have c13 := HW8.out.e.p; have HS7 := Lib.hid hs7; have HV : Hid (isBlk w7 vb 35 [.bool false, .int .u32 0, .int .i64 0]) := Lib.hid HW8.out.v; clear hd7 hc7 hw7 hs7 c11)) | (go_at_call 37; ((with_reducible refine (verdict_0 db _ _ _ HW8.out.d).mono ?_); rintro e w2 ⟨x, y, z, hvx, rfl, hb2⟩; have hv2 := HV.out.below hb2 HV.out.lt; have hc20 : w2.cell? ⟨vb, 0, none⟩ = _ := hv2.cell 0; have hc21 : w2.cell? ⟨vb, 1, none⟩ = _ := hv2.cell 1; have hc22 : w2.cell? ⟨vb, 2, none⟩ = _ := hv2.cell 2; have hf20 := hv2.frozen 0; have hf21 := hv2.frozen 1; have hf22 := hv2.frozen 2)))
      obtain ⟨hk9, hg9⟩ := set3 hv2 (.bool x) (.int .u32 y) (.int .i64 z)
      have r0 := hk9.cell 0
      have r1 := hk9.cell 1
      have r2 := hk9.cell 2
      refine bodyPost_ret (v := .tuple #[.agg #[.bool x, .int .u32 y, .int .i64 z], .int .i64 0]) (by simp (maxDischargeDepth := 8) [results, Try.results26, go_sem, r0, r1, r2]) rfl ?_
      have hpe := HP.out.1 HAV.out
      have hr := HP.out.2.r
      rw [hpe] at hr
      have hrl2 := HW8.out.wd.lt
      refine ⟨x, y, z, L', rt L, rfl, hr, ⟨_, hvx.out, (lV_least Least.none n).congr (fun v r => ⟨fun h => h.elim (fun h => h.elim) id, Or.inr⟩)⟩, ?_, HS7.out.len.trans HP.out.2.len, ?_⟩
      · exact (HW8.out.wd.keep (w' := w2) (hb2.block _ hrl2) hb2.size).keep (hg9.block _ (Nat.lt_of_lt_of_le hrl2 hb2.size) HW8.out.nv.2.symm) hg9.size
      · exact (HW8.out.c.trans (Chg.of_below hb2)).then hg9 (fun j hj => Or.inr (by rw [hj]; exact HW8.out.nd.2))

end Go.Proofs.Ytohmeobfiomfdaa
