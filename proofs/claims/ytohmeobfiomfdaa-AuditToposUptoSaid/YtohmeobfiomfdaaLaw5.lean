/-
  The statement AuditTopos: the walk.
-/
import Derived.Test.YtohmeobfiomfdaaLaw4
namespace Go.Proofs.Ytohmeobfiomfdaa
open Go.RowKit Go.Shelf
set_option maxRecDepth 100000

set_option maxHeartbeats 8000000 in
theorem auditTopos_any (n sc eb eo sb so ec : Nat) (sa ea : Option Addr) (beh room : Int) (x5 x6 x7 x8 x9 x10 x11 x12 x13 : Value) (ss : List St) (es : List Ed) (w : World) (hn : n ≤ 4294967295) (hs : IsSts w sa sb so ss) (hE : IsEds w ea eb eo es) (hsl : ss.length ≤ 1048576) (hel : es.length ≤ 1048576) :
    Calls Try.prog 4 #[.agg #[.int .u32 n, .slice sa ss.length sc, .slice ea es.length ec, .int .i64 beh, .int .i64 room, x5, x6, x7, x8, x9, x10, x11, x12, x13]] w fun e w' => e = .returned (.bool true) ∧ Below w.heap.size w w' := by
  obtain ⟨r, hr⟩ : ∃ r, clip room 5000 = r := ⟨_, rfl⟩
  have hr5 : r ≤ 5000 := by rw [← hr]; unfold clip; omega
  have HR := Lib.hid hr
  clear hr
  have hB0 : Below w.heap.size w (w.alloc (.cells #[.int .u32 n, .slice sa ss.length sc, .slice ea es.length ec, .int .i64 beh, .int .i64 room, x5, x6, x7, x8, x9, x10, x11, x12, x13] 30)) := (by repeat (first | with_reducible exact Below.refl _ _ | with_reducible assumption | with_reducible refine below_drewN ?_ _ | with_reducible refine Below.drew ?_ | ((with_reducible refine Bset ?_ ?_); focus (first | omega | (simp; done) | (simp; omega))) | ((with_reducible refine Ball ?_ ?_); focus (first | omega | (simp; done) | (simp; omega)))))
  have hs0 := hs.below hB0 hs.lt
  have hE0 := hE.below hB0 hE.lt
  have hp0 := isBlk.new w 30 [.int .u32 n, .slice sa ss.length sc, .slice ea es.length ec, .int .i64 beh, .int .i64 room, x5, x6, x7, x8, x9, x10, x11, x12, x13]
  clear hB0
  go_enter Try.func4, Try.ntmps4
  go_upto_region 3 with (first | (go_at_call 6; ((with_reducible refine (states_any sa sb so sc ss ss.length _ hs0 hsl hsl).mono ?_); rintro e w1 ⟨g, gc, rfl, hgc, hm1, hgz, hb1⟩; rw [padS_all] at hm1; have hp1 := hp0.below hb1 hp0.lt; have hE1 := hE0.below hb1 hE0.lt; have hs1 := hs0.below hb1 hs0.lt; have hpl := hp1.lt; have c0 : w1.cell? ⟨w.heap.size, 0, none⟩ = some (.int .u32 n) := hp1.cell 0; have c1 : w1.cell? ⟨w.heap.size, 1, none⟩ = some (.slice sa ss.length sc) := hp1.cell 1; have c2 : w1.cell? ⟨w.heap.size, 2, none⟩ = some (.slice ea es.length ec) := hp1.cell 2; have c3 : w1.cell? ⟨w.heap.size, 3, none⟩ = some (.int .i64 beh) := hp1.cell 3; have c4 : w1.cell? ⟨w.heap.size, 4, none⟩ = some (.int .i64 room) := hp1.cell 4; have c5 : w1.cell? ⟨w.heap.size, 5, none⟩ = some (x5) := hp1.cell 5; have c6 : w1.cell? ⟨w.heap.size, 6, none⟩ = some (x6) := hp1.cell 6; have c7 : w1.cell? ⟨w.heap.size, 7, none⟩ = some (x7) := hp1.cell 7; have c8 : w1.cell? ⟨w.heap.size, 8, none⟩ = some (x8) := hp1.cell 8; have c9 : w1.cell? ⟨w.heap.size, 9, none⟩ = some (x9) := hp1.cell 9; have c10 : w1.cell? ⟨w.heap.size, 10, none⟩ = some (x10) := hp1.cell 10; have c11 : w1.cell? ⟨w.heap.size, 11, none⟩ = some (x11) := hp1.cell 11; have c12 : w1.cell? ⟨w.heap.size, 12, none⟩ = some (x12) := hp1.cell 12; have c13 : w1.cell? ⟨w.heap.size, 13, none⟩ = some (x13) := hp1.cell 13)) | (go_at_call 7; ((with_reducible refine (words_any _ _ _ _ _ _ _ _ _ _ _ _ _ _ _ _ _ _ _).mono ?_); rintro e w2 ⟨rb, rfl, hw2, hrz, hb2⟩; rw [HR.out] at hw2; rw [HR.out])))
  have HW : Hid (LawW w w.heap.size g rb [.int .u32 n, .slice sa ss.length sc, .slice ea es.length ec, .int .i64 beh, .int .i64 room, x5, x6, x7, x8, x9, x10, x11, x12, x13] ss (List.replicate r 99) w2) := Lib.hid ⟨hp1.below hb2 hp1.lt, hm1.below hb2 hm1.lt, hw2, Below.trans (Below.trans (Ball (Nat.le_refl _) (Below.refl _ _)) (hb1.mono (by simp))) (hb2.mono (by have := hb1.size; simp only [World.size_alloc] at this; omega)), ⟨Nat.le_refl _, by simp only [World.size_alloc] at hgz; omega, by have := hb1.size; simp only [World.size_alloc] at this; omega⟩, ⟨by omega, by have := hm1.lt (by simp); omega, by have := hm1.lt (by simp); have := hb2.size; omega⟩⟩
  have hE2 := hE1.below hb2 hE1.lt
  have hs2 := hs1.below hb2 hs1.lt
  have HE2 := Lib.hid (And.intro hE2 hs2)
  clear hE2 hs2 hp1 hm1 hgz hrz hb1 hw2 hp0 hs0 hE0 hE1 hs1 hpl c0 c1 c2 c3 c4 c5 c6 c7 c8 c9 c10 c11 c12 c13
  obtain ⟨pb, hpb⟩ : ∃ pb, w.heap.size = pb := ⟨_, rfl⟩
  rw [hpb] at HW ⊢
  have hpz : w.heap.size ≤ pb := by omega
  clear hpb hb2
  have hp2 := HW.out.p
  have c0 : w2.cell? ⟨pb, 0, none⟩ = some (.int .u32 n) := hp2.cell 0
  have c1 : w2.cell? ⟨pb, 1, none⟩ = some (.slice sa ss.length sc) := hp2.cell 1
  have c2 : w2.cell? ⟨pb, 2, none⟩ = some (.slice ea es.length ec) := hp2.cell 2
  have c3 : w2.cell? ⟨pb, 3, none⟩ = some (.int .i64 beh) := hp2.cell 3
  have c4 : w2.cell? ⟨pb, 4, none⟩ = some (.int .i64 room) := hp2.cell 4
  have c5 : w2.cell? ⟨pb, 5, none⟩ = some (x5) := hp2.cell 5
  have c6 : w2.cell? ⟨pb, 6, none⟩ = some (x6) := hp2.cell 6
  have c7 : w2.cell? ⟨pb, 7, none⟩ = some (x7) := hp2.cell 7
  have c8 : w2.cell? ⟨pb, 8, none⟩ = some (x8) := hp2.cell 8
  have c9 : w2.cell? ⟨pb, 9, none⟩ = some (x9) := hp2.cell 9
  have c10 : w2.cell? ⟨pb, 10, none⟩ = some (x10) := hp2.cell 10
  have c11 : w2.cell? ⟨pb, 11, none⟩ = some (x11) := hp2.cell 11
  have c12 : w2.cell? ⟨pb, 12, none⟩ = some (x12) := hp2.cell 12
  have c13 : w2.cell? ⟨pb, 13, none⟩ = some (x13) := hp2.cell 13
  have hpl := hp2.lt
  have hprb := HW.out.n.1
  go_cut [5, 6] (fun v5 v6 wx => ∃ (vb : Nat) (x : Bool) (y z : Nat) (l' : List Nat), v5 = .pointer (some ⟨vb, 0, none⟩) ∧ v6 = .int .i64 (topErr n ss.length r es (clip beh 200)) ∧ isBlk wx vb 35 [.bool x, .int .u32 y, .int .i64 z] ∧
    Hid ((topErr n ss.length r es (clip beh 200) ≠ 0 → x = false ∧ y = 0 ∧ z = 0) ∧ (topErr n ss.length r es (clip beh 200) = 0 → ∃ f, verdC 0 f = #[.bool x, .int .u32 y, .int .i64 z] ∧ Least f (Btop ss es n))) ∧
    Hid (LawW w pb g rb [.int .u32 n, .slice sa ss.length sc, .slice ea es.length ec, .int .i64 beh, .int .i64 room, x5, x6, x7, x8, x9, x10, x11, x12, x13] ss l' wx ∧ l'.length = r ∧ (∀ j, n ≤ j → j < r → l'.getD j 0 = 99)) ∧ Hid (vb ≠ rb ∧ vb ≠ pb ∧ vb ≠ g ∧ w.heap.size ≤ vb))
  case first =>
    go_region_held3 (fun wz => w2.heap.size ≤ wz.heap.size ∧ (∀ b o, b ≠ rb → b < w2.heap.size → wz.cell? ⟨b, o, none⟩ = w2.cell? ⟨b, o, none⟩) ∧ Hid (Chg (fun j => j = rb) w2 wz))
      (first | exact kC_of (by repeat (first | ((with_reducible refine Chg.setNew ?_ ?_ _); (rotate_left; focus (first | exact Nat.le_refl _ | assumption | omega | (simp only []; omega) | (simp; done) | (simp; omega)))) | with_reducible exact Chg.refl _ _ | with_reducible refine Chg.dr ?_ | with_reducible refine Chg.all ?_ _ | with_reducible refine Chg.trans ?_ (Chg.of_below hba) | with_reducible refine Chg.trans ?_ (Chg.of_below hbb) | with_reducible refine Chg.trans ?_ HC.out)))
      (first | (go_at_call 10; (with_reducible refine Calls.mono (behind_any _ _ _ _ _ _ _ _ _ _ _ _ _ _ _ _ _ _ _) ?_); rintro e wa ⟨rfl, hba⟩; obtain ⟨hca, hfa⟩ := bcell hba; have hza := hba.size; (try simp only [dsz] at hza); (try simp only [World.size_alloc] at hza); (try (have hxa : w2.heap.size < wa.heap.size := by omega)); (try (have hya : ¬ w2.heap.size = wa.heap.size := by omega))) | (go_at_call 9; (with_reducible refine Calls.mono (feedF_any ea ec eb eo es (clip beh 200) _ ?_ hel) ?_); (focus (exact HE2.out.1.ch0 (by repeat (first | ((with_reducible refine Chg.setNew ?_ ?_ _); (rotate_left; focus (first | exact Nat.le_refl _ | assumption | omega | (simp only []; omega) | (simp; done) | (simp; omega)))) | with_reducible exact Chg.refl _ _ | with_reducible refine Chg.dr ?_ | with_reducible refine Chg.all ?_ _ | with_reducible refine Chg.trans ?_ (Chg.of_below hba) | with_reducible refine Chg.trans ?_ (Chg.of_below hbb))))); rintro e wb ⟨b1, b2, a2, cap2, fg, rfl, hF, z1, z2, z3, hbb⟩; have HF := Lib.hid hF; obtain ⟨hcb, hfb⟩ := bcell hbb; have hzb := hbb.size; (try simp only [dsz] at hzb z1 z2 z3); (try simp only [World.size_alloc] at hzb z1 z2 z3); (try (have hxb : w2.heap.size < wb.heap.size := by omega)); (try (have hyb : wa.heap.size < wb.heap.size := by omega)); clear hF) | (go_at_call 17; (with_reducible refine Calls.mono (topos_r n g 0 rb gc b1 b2 fg 0 r _ a2 cap2 es (clip beh 200) ss _ hn ?_ hr5 ?_ ?_ ?_) ?_); (focus (exact (HW.out.ch0 (by repeat (first | ((with_reducible refine Chg.setNew ?_ ?_ _); (rotate_left; focus (first | exact Nat.le_refl _ | assumption | omega | (simp only []; omega) | (simp; done) | (simp; omega)))) | with_reducible exact Chg.refl _ _ | with_reducible refine Chg.dr ?_ | with_reducible refine Chg.all ?_ _ | with_reducible refine Chg.trans ?_ (Chg.of_below hba) | with_reducible refine Chg.trans ?_ (Chg.of_below hbb)))).m.left)); (focus (exact (HW.out.ch0 (by repeat (first | ((with_reducible refine Chg.setNew ?_ ?_ _); (rotate_left; focus (first | exact Nat.le_refl _ | assumption | omega | (simp only []; omega) | (simp; done) | (simp; omega)))) | with_reducible exact Chg.refl _ _ | with_reducible refine Chg.dr ?_ | with_reducible refine Chg.all ?_ _ | with_reducible refine Chg.trans ?_ (Chg.of_below hba) | with_reducible refine Chg.trans ?_ (Chg.of_below hbb)))).r)); (focus (exact HF.out.ch0 (by repeat (first | ((with_reducible refine Chg.setNew ?_ ?_ _); (rotate_left; focus (first | exact Nat.le_refl _ | assumption | omega | (simp only []; omega) | (simp; done) | (simp; omega)))) | with_reducible exact Chg.refl _ _ | with_reducible refine Chg.dr ?_ | with_reducible refine Chg.all ?_ _ | with_reducible refine Chg.trans ?_ (Chg.of_below hba) | with_reducible refine Chg.trans ?_ (Chg.of_below hbb))))); (focus (exact ⟨by have := HW.out.r.lt; omega, by have := HW.out.r.lt; omega, by have := HW.out.r.lt; omega, HW.out.n.2.1⟩)); rintro e wc ⟨x, y, z, l', rfl, HX, HL, hcc⟩; obtain ⟨hcw, hfw⟩ := chg_cell hcc; have hq1 := HW.out.r.lt; (try (have hq2 : ¬ w2.heap.size = rb := by omega)); (try (have hq3 : ¬ wa.heap.size = rb := by omega)); (try (have hq4 : ¬ wb.heap.size = rb := by omega)); have HC := Lib.hid hcc; clear hcc))
    all_goals
      go_wp2_with fail
      go_meet
      refine ⟨_, x, y, z, l', rfl, rfl, ?_, HX, ?_, ?_⟩
      · repeat (first | with_reducible refine isBlk.set3 ?_ _ _ _ | ((with_reducible refine isBlk.new' ?_); (focus (first | rfl | (simp; done)))) | with_reducible refine isBlk.old ?_ _ | with_reducible refine isBlk.drew ?_ | ((with_reducible refine isBlk.cc ?_ HC.out ?_); (rotate_left; focus (first | exact Nat.le_refl _ | assumption | omega | (simp only []; omega) | (simp; done) | (simp; omega)))) | ((with_reducible refine isBlk.below ?_ hba ?_); (rotate_left; focus (first | exact Nat.le_refl _ | assumption | omega | (simp only []; omega) | (simp; done) | (simp; omega)))) | ((with_reducible refine isBlk.below ?_ hbb ?_); (rotate_left; focus (first | exact Nat.le_refl _ | assumption | omega | (simp only []; omega) | (simp; done) | (simp; omega)))))
      · exact Lib.hid ⟨HW.out.fin (by repeat (first | ((with_reducible refine Chg.setNew ?_ ?_ _); (rotate_left; focus (first | exact Nat.le_refl _ | assumption | omega | (simp only []; omega) | (simp; done) | (simp; omega)))) | with_reducible exact Chg.refl _ _ | with_reducible refine Chg.dr ?_ | with_reducible refine Chg.all ?_ _ | with_reducible refine Chg.trans ?_ (Chg.of_below hba) | with_reducible refine Chg.trans ?_ (Chg.of_below hbb) | with_reducible refine Chg.trans ?_ HC.out)) (by repeat (first | exact HL.out.1 | ((with_reducible refine Wds.other ?_ ?_); (rotate_left; focus (first | exact Nat.le_refl _ | assumption | omega | (simp only []; omega) | (simp; done) | (simp; omega)))) | with_reducible refine Wds.all ?_ _ | with_reducible refine Wds.drew ?_)), HL.out.2⟩
      · exact Lib.hid (by have := HC.out.size; have := HW.out.r.lt; have := HW.out.p.lt; have := HW.out.n.2.2; have := HW.out.b.size; omega)
  case rest =>
    obtain ⟨vb, x, y, z, l', rfl, rfl, hvb, HX, HL, HVB⟩ := hcut
    obtain ⟨w3, rfl⟩ : ∃ w3 : World, w3 = wc := ⟨_, rfl⟩
    have hvg : vb ≠ rb ∧ vb ≠ pb ∧ vb ≠ g ∧ w.heap.size ≤ vb := HVB.out
    clear c0 c1 c2 c3 c4 c5 c6 c7 c8 c9 c10 c11 c12 c13 hpl hprb hp2 HW HE2 HVB
    have hp3 := HL.out.1.p
    have c0 : w3.cell? ⟨pb, 0, none⟩ = some (.int .u32 n) := hp3.cell 0
    have c1 : w3.cell? ⟨pb, 1, none⟩ = some (.slice sa ss.length sc) := hp3.cell 1
    have c2 : w3.cell? ⟨pb, 2, none⟩ = some (.slice ea es.length ec) := hp3.cell 2
    have c3 : w3.cell? ⟨pb, 3, none⟩ = some (.int .i64 beh) := hp3.cell 3
    have c4 : w3.cell? ⟨pb, 4, none⟩ = some (.int .i64 room) := hp3.cell 4
    have c5 : w3.cell? ⟨pb, 5, none⟩ = some (x5) := hp3.cell 5
    have c6 : w3.cell? ⟨pb, 6, none⟩ = some (x6) := hp3.cell 6
    have c7 : w3.cell? ⟨pb, 7, none⟩ = some (x7) := hp3.cell 7
    have c8 : w3.cell? ⟨pb, 8, none⟩ = some (x8) := hp3.cell 8
    have c9 : w3.cell? ⟨pb, 9, none⟩ = some (x9) := hp3.cell 9
    have c10 : w3.cell? ⟨pb, 10, none⟩ = some (x10) := hp3.cell 10
    have c11 : w3.cell? ⟨pb, 11, none⟩ = some (x11) := hp3.cell 11
    have c12 : w3.cell? ⟨pb, 12, none⟩ = some (x12) := hp3.cell 12
    have c13 : w3.cell? ⟨pb, 13, none⟩ = some (x13) := hp3.cell 13
    have hpl := hp3.lt
    have hvl := hvb.lt
    have hE3 := hE.below HL.out.1.b hE.lt
    have hE3d : IsEds w3.drew ea eb eo es := ⟨hE3.ad, hE3.lt, hE3.c0, hE3.c1, hE3.c2⟩
    obtain ⟨E, hEE⟩ : ∃ E, topErr n ss.length r es (clip beh 200) = E := ⟨_, rfl⟩
    rw [hEE] at HX ⊢
    have HEE := Lib.hid hEE
    have hask : askErr (sizeErr n) n ss.length (clip room 5000 : Nat) (n : Int) es (clip beh 200) = E := by rw [HR.out, ← hEE]; rfl
    have HAS := Lib.hid hask
    have hw1 : IntKind.i64.wrap (n : Int) = (n : Int) := IntWalk.i64_in _ (by omega)
    have hw2 : IntKind.i64.wrap (2 * (n : Int)) = 2 * (n : Int) := IntWalk.i64_in _ (by omega)
    clear hEE hask hp3
    go_upto_region 4 with fail
    go_cut [7] (fun v7 wx => v7 = .int .i64 E ∧ Below w3.heap.size w3 wx)
    case first =>
      go_region_held3 (fun wz => ∀ b o, b < w3.heap.size → wz.cell? ⟨b, o, none⟩ = w3.cell? ⟨b, o, none⟩)
        (first | (intro b o hb; rfl) | (intro b o hb; rw [hb4.cell (p := ⟨b, o, none⟩) hb]; rfl))
        (first | (go_at_call 12; (with_reducible refine Calls.mono (sized_s n _) ?_); rintro e wa ⟨rfl, rfl⟩) | (go_at_call 11; (with_reducible refine Calls.mono (asked_any n _ _ ec eb eo _ ea beh room _ _ _ _ _ _ _ _ _ _ _ es _ hE3d hel hn) ?_); rintro e w4 ⟨rfl, hb4⟩; rw [HAS.out]))
      all_goals
        go_wp2_with fail
        go_meet
        exact ⟨rfl, (Below.drew (Below.refl _ _)).trans hb4⟩
    case rest =>
      obtain ⟨rfl, hb4⟩ := hcut
      obtain ⟨w4, rfl⟩ : ∃ w4 : World, w4 = wc := ⟨_, rfl⟩
      have hL4 := HL.out.1.below hb4
      have hvb4 := hvb.below hb4 hvl
      have HL4 := Lib.hid hL4
      have hb5 : Below w4.heap.size w4 (w4.alloc (.cells #[.bool false, .int .u32 0, .int .i64 0] 35)) := (by repeat (first | with_reducible exact Below.refl _ _ | with_reducible assumption | with_reducible refine below_drewN ?_ _ | with_reducible refine Below.drew ?_ | ((with_reducible refine Bset ?_ ?_); focus (first | omega | (simp; done) | (simp; omega))) | ((with_reducible refine Ball ?_ ?_); focus (first | omega | (simp; done) | (simp; omega)))))
      have hvl4 := hvb4.lt
      have hvb5 := hvb4.below hb5 hvb4.lt
      have HL5 := Lib.hid (hL4.below hb5)
      have hk5 := isBlk.new w4 35 [.bool false, .int .u32 0, .int .i64 0]
      clear c0 c1 c2 c3 c4 c5 c6 c7 c8 c9 c10 c11 c12 c13 hE3 hE3d hpl hvl hvb hb4 hL4 hvb4 hb5 HAS
      go_upto_region 6 with fail
      obtain ⟨w5, hw5⟩ : ∃ w5, w4.alloc (.cells #[.bool false, .int .u32 0, .int .i64 0] 35) = w5 := ⟨_, rfl⟩
      obtain ⟨wb, hwb⟩ : ∃ wb, wb = w4.heap.size := ⟨_, rfl⟩
      rw [← hwb] at hk5
      rw [hw5] at hvb5 HL5 hk5
      rw [hw5, ← hwb]
      have hwz : w.heap.size ≤ wb := by rw [hwb]; exact HL4.out.b.size
      have hwg : wb ≠ g := by have := HL4.out.n.2.2; omega
      have hwv : wb ≠ rb ∧ wb ≠ pb ∧ wb ≠ vb := by
        have := HL4.out.r.lt
        have := HL4.out.p.lt
        omega
      clear hw5 hwb HL4 hvl4
      have HK5 := Lib.hid hk5
      have HV5 := Lib.hid hvb5
      have HFAR := Lib.hid HL.out.2
      clear hk5 hvb5 HL
      have hvz : w.heap.size ≤ vb := hvg.2.2.2
      obtain ⟨bE, hbE⟩ : ∃ bE, ((E : Int) == 0) = bE := ⟨_, rfl⟩
      go_upto_if 44 with fail
      go_cut [45] (fun _ wx => ∃ (x' : Bool) (y' z' : Nat), Hid (isBlk wx wb 35 [.bool x', .int .u32 y', .int .i64 z']) ∧ Hid (isBlk wx vb 35 [.bool x, .int .u32 y, .int .i64 z]) ∧ Hid (E = 0 → x = x' ∧ y = y' ∧ z = z') ∧ Hid (LawW w pb g rb [.int .u32 n, .slice sa ss.length sc, .slice ea es.length ec, .int .i64 beh, .int .i64 room, x5, x6, x7, x8, x9, x10, x11, x12, x13] ss l' wx))
      case first =>
        cases bE
        rotate_left
        · have hE0 : E = 0 := by rw [beq_iff_eq] at hbE; omega
          have H0 := Lib.hid hE0
          clear hE0 hbE
          obtain ⟨hn1, hsn, hnr, hva⟩ := topErr_ok (HEE.out.trans H0.out)
          have HVA := Lib.hid hva
          have HSN := Lib.hid hsn
          clear hva hsn
          have hp5 := HL5.out.p
          have hpl := hp5.lt
          have hE5 := hE.below HL5.out.b hE.lt
          have hs5 := hs.below HL5.out.b hs.lt
          have c0 : w5.cell? ⟨pb, 0, none⟩ = some (.int .u32 n) := hp5.cell 0
          have c1 : w5.cell? ⟨pb, 1, none⟩ = some (.slice sa ss.length sc) := hp5.cell 1
          have c2 : w5.cell? ⟨pb, 2, none⟩ = some (.slice ea es.length ec) := hp5.cell 2
          have c3 : w5.cell? ⟨pb, 3, none⟩ = some (.int .i64 beh) := hp5.cell 3
          have c4 : w5.cell? ⟨pb, 4, none⟩ = some (.int .i64 room) := hp5.cell 4
          have c5 : w5.cell? ⟨pb, 5, none⟩ = some (x5) := hp5.cell 5
          have c6 : w5.cell? ⟨pb, 6, none⟩ = some (x6) := hp5.cell 6
          have c7 : w5.cell? ⟨pb, 7, none⟩ = some (x7) := hp5.cell 7
          have c8 : w5.cell? ⟨pb, 8, none⟩ = some (x8) := hp5.cell 8
          have c9 : w5.cell? ⟨pb, 9, none⟩ = some (x9) := hp5.cell 9
          have c10 : w5.cell? ⟨pb, 10, none⟩ = some (x10) := hp5.cell 10
          have c11 : w5.cell? ⟨pb, 11, none⟩ = some (x11) := hp5.cell 11
          have c12 : w5.cell? ⟨pb, 12, none⟩ = some (x12) := hp5.cell 12
          have c13 : w5.cell? ⟨pb, 13, none⟩ = some (x13) := hp5.cell 13
          go_wp2_with (go_at_call 18; ((with_reducible refine (refTopos_x n sb so sc ec eb eo sa ea es ss _ hs5 hE5 HSN.out (by omega) hn1 hel HVA.out).mono ?_); rintro e w6 ⟨x', y', z', rfl, HF, hb6⟩; have hk6 := HK5.out.below hb6 HK5.out.lt; have hvb6 := HV5.out.below hb6 HV5.out.lt; have HL6 := Lib.hid (HL5.out.below hb6); have hwl := hk6.lt; have g0 : w6.cell? ⟨wb, 0, none⟩ = some (.bool false) := hk6.cell 0; have g1 : w6.cell? ⟨wb, 1, none⟩ = some (.int .u32 0) := hk6.cell 1; have g2 : w6.cell? ⟨wb, 2, none⟩ = some (.int .i64 0) := hk6.cell 2; have f0 := hk6.frozen 0; have f1 := hk6.frozen 1; have f2 := hk6.frozen 2))
          go_meet
          exact ⟨x', y', z', Lib.hid (hk6.put3 _ _ _), Lib.hid (hvb6.off3 hwv.2.2.symm _ _ _), Lib.hid (fun h0 => verd_eq (HX.out.2 h0) HF.out), Lib.hid (HL6.out.set3 hwz ⟨hwv.2.1, hwg, hwv.1⟩ _ _ _)⟩
        · have hE0 : ¬ E = 0 := by rw [beq_eq_false_iff_ne] at hbE; omega
          have H0 := Lib.hid hE0
          clear hE0 hbE
          go_wp2
          go_meet
          exact ⟨_, _, _, HK5, HV5, Lib.hid (fun h0 => absurd h0 H0.out), HL5⟩
      case rest =>
        clear hbE
        obtain ⟨x', y', z', HK6, HV6, HEQ6, HL6⟩ := hcut
        obtain ⟨w6, rfl⟩ : ∃ w6 : World, w6 = wc := ⟨_, rfl⟩
        clear HK5 HV5 HL5
        have hp6 := HL6.out.p
        have c0 : w6.cell? ⟨pb, 0, none⟩ = some (.int .u32 n) := hp6.cell 0
        have c1 : w6.cell? ⟨pb, 1, none⟩ = some (.slice sa ss.length sc) := hp6.cell 1
        have c2 : w6.cell? ⟨pb, 2, none⟩ = some (.slice ea es.length ec) := hp6.cell 2
        have c3 : w6.cell? ⟨pb, 3, none⟩ = some (.int .i64 beh) := hp6.cell 3
        have c4 : w6.cell? ⟨pb, 4, none⟩ = some (.int .i64 room) := hp6.cell 4
        have c5 : w6.cell? ⟨pb, 5, none⟩ = some (x5) := hp6.cell 5
        have c6 : w6.cell? ⟨pb, 6, none⟩ = some (x6) := hp6.cell 6
        have c7 : w6.cell? ⟨pb, 7, none⟩ = some (x7) := hp6.cell 7
        have c8 : w6.cell? ⟨pb, 8, none⟩ = some (x8) := hp6.cell 8
        have c9 : w6.cell? ⟨pb, 9, none⟩ = some (x9) := hp6.cell 9
        have c10 : w6.cell? ⟨pb, 10, none⟩ = some (x10) := hp6.cell 10
        have c11 : w6.cell? ⟨pb, 11, none⟩ = some (x11) := hp6.cell 11
        have c12 : w6.cell? ⟨pb, 12, none⟩ = some (x12) := hp6.cell 12
        have c13 : w6.cell? ⟨pb, 13, none⟩ = some (x13) := hp6.cell 13
        have hpl := hp6.lt
        have hwl := HK6.out.lt
        have hvl := HV6.out.lt
        have g0 : w6.cell? ⟨wb, 0, none⟩ = some (.bool x') := HK6.out.cell 0
        have g1 : w6.cell? ⟨wb, 1, none⟩ = some (.int .u32 y') := HK6.out.cell 1
        have g2 : w6.cell? ⟨wb, 2, none⟩ = some (.int .i64 z') := HK6.out.cell 2
        have v0 : w6.cell? ⟨vb, 0, none⟩ = some (.bool x) := HV6.out.cell 0
        have v1 : w6.cell? ⟨vb, 1, none⟩ = some (.int .u32 y) := HV6.out.cell 1
        have v2 : w6.cell? ⟨vb, 2, none⟩ = some (.int .i64 z) := HV6.out.cell 2
        go_upto_region 12 with (first | (go_at_call 14; ((with_reducible refine (agree_all x x' y y' z z' E _ HEQ6.out HX.out.1).mono ?_); rintro e w7 ⟨rfl, hb7⟩; have HL7 := Lib.hid (HL6.out.below hb7); have HK7 := Lib.hid (HK6.out.below hb7 HK6.out.lt); have HV7 := Lib.hid (HV6.out.below hb7 HV6.out.lt); have d0 : w7.cell? ⟨pb, 0, none⟩ = some (.int .u32 n) := HL7.out.p.cell 0)) | (go_at_call 16; ((with_reducible refine (spare_n rb n r l' _ HL7.out.r HFAR.out.1 hr5 hn HFAR.out.2).mono ?_); rintro e w8 ⟨rfl, rfl⟩)))
        clear c0 c1 c2 c3 c4 c5 c6 c7 c8 c9 c10 c11 c12 c13 hp6 hpl hwl hvl g0 g1 g2 v0 v1 v2 d0 HK6 HV6 HEQ6 HL6 hb7 HX HEE
        obtain ⟨wS, rfl⟩ : ∃ wS : World, wS = w7 := ⟨_, rfl⟩
        have hp7 := HL7.out.p
        have c0 : wS.cell? ⟨pb, 0, none⟩ = some (.int .u32 n) := hp7.cell 0
        have c1 : wS.cell? ⟨pb, 1, none⟩ = some (.slice sa ss.length sc) := hp7.cell 1
        have c2 : wS.cell? ⟨pb, 2, none⟩ = some (.slice ea es.length ec) := hp7.cell 2
        have c3 : wS.cell? ⟨pb, 3, none⟩ = some (.int .i64 beh) := hp7.cell 3
        have c4 : wS.cell? ⟨pb, 4, none⟩ = some (.int .i64 room) := hp7.cell 4
        have c5 : wS.cell? ⟨pb, 5, none⟩ = some (x5) := hp7.cell 5
        have c6 : wS.cell? ⟨pb, 6, none⟩ = some (x6) := hp7.cell 6
        have c7 : wS.cell? ⟨pb, 7, none⟩ = some (x7) := hp7.cell 7
        have c8 : wS.cell? ⟨pb, 8, none⟩ = some (x8) := hp7.cell 8
        have c9 : wS.cell? ⟨pb, 9, none⟩ = some (x9) := hp7.cell 9
        have c10 : wS.cell? ⟨pb, 10, none⟩ = some (x10) := hp7.cell 10
        have c11 : wS.cell? ⟨pb, 11, none⟩ = some (x11) := hp7.cell 11
        have c12 : wS.cell? ⟨pb, 12, none⟩ = some (x12) := hp7.cell 12
        have c13 : wS.cell? ⟨pb, 13, none⟩ = some (x13) := hp7.cell 13
        have hpl := hp7.lt
        have hvl := HV7.out.lt
        have hwl := HK7.out.lt
        have hprb := HL7.out.n.1
        have hE7 := hE.below HL7.out.b hE.lt
        have HE7 := Lib.hid hE7
        have vf0 := HV7.out.frozen 0
        have vf1 := HV7.out.frozen 1
        have vf2 := HV7.out.frozen 2
        have v0 : wS.cell? ⟨vb, 0, none⟩ = some (.bool x) := HV7.out.cell 0
        have v1 : wS.cell? ⟨vb, 1, none⟩ = some (.int .u32 y) := HV7.out.cell 1
        have v2 : wS.cell? ⟨vb, 2, none⟩ = some (.int .i64 z) := HV7.out.cell 2
        have hvr := hvg.1
        have hvp := hvg.2.1
        have hpv : pb ≠ vb := fun e => hvp e.symm
        have hwrb := hwv.1
        have hwvb := hwv.2.2
        clear hE7 hp7
        go_cut [6] (fun v6 wx => ∃ (x : Bool) (y z : Nat) (l2 : List Nat), v6 = .int .i64 (sccErr n ss.length r es (clip beh 200)) ∧ Hid (isBlk wx vb 35 [.bool x, .int .u32 y, .int .i64 z]) ∧
          Hid ((sccErr n ss.length r es (clip beh 200) ≠ 0 → x = false ∧ y = 0 ∧ z = 0) ∧ (sccErr n ss.length r es (clip beh 200) = 0 → ∃ ρ, Roots (Dbl es n) ρ (2 * n) ∧ ∃ f, verdC 0 f = #[.bool x, .int .u32 y, .int .i64 z] ∧ Least f (Bword ss (asks ρ n) n))) ∧
          Hid (LawW w pb g rb [.int .u32 n, .slice sa ss.length sc, .slice ea es.length ec, .int .i64 beh, .int .i64 room, x5, x6, x7, x8, x9, x10, x11, x12, x13] ss l2 wx ∧ l2.length = r ∧ (∀ j, n + n ≤ j → j < r → l2.getD j 0 = 99)) ∧ Hid (isBlk wx wb 35 [.bool x', .int .u32 y', .int .i64 z']))
        case first =>
          go_region_held3 (fun wz => wS.heap.size ≤ wz.heap.size ∧ (∀ b o, b ≠ vb → b ≠ rb → b < wS.heap.size → wz.cell? ⟨b, o, none⟩ = wS.cell? ⟨b, o, none⟩) ∧ Hid (Chg (Two vb rb) wS wz))
            (first | exact kD_of (by repeat (first | with_reducible exact Chg.refl _ _ | with_reducible refine Chg.dr ?_ | with_reducible refine Chg.vset ?_ _ | with_reducible refine Chg.tail ?_ HC.out | with_reducible refine Chg.trans ?_ (Chg.of_below hba) | with_reducible refine Chg.trans ?_ (Chg.of_below hbb))))
            (first | (go_at_call 10; (with_reducible refine Calls.mono (behind_any _ _ _ _ _ _ _ _ _ _ _ _ _ _ _ _ _ _ _) ?_); rintro e wa ⟨rfl, hba⟩; obtain ⟨hca, hfa⟩ := bcell hba; have hza := hba.size; (try simp only [dsz] at hza)) | (go_at_call 9; (with_reducible refine Calls.mono (feedF_any ea ec eb eo es (clip beh 200) _ ?_ hel) ?_); (focus (exact HE7.out.ch0 (by repeat (first | ((with_reducible refine Chg.setNew ?_ ?_ _); (rotate_left; focus (first | exact Nat.le_refl _ | assumption | omega | (simp only []; omega) | (simp; done) | (simp; omega)))) | with_reducible exact Chg.refl _ _ | with_reducible refine Chg.dr ?_ | with_reducible refine Chg.all ?_ _ | with_reducible refine Chg.trans ?_ (Chg.of_below hba) | with_reducible refine Chg.trans ?_ (Chg.of_below hbb))))); rintro e wd ⟨b1, b2, a2, cap2, fg, rfl, hF, z1, z2, z3, hbb⟩; have HF := Lib.hid hF; obtain ⟨hcb, hfb⟩ := bcell hbb; have hzb := hbb.size; (try simp only [dsz] at hzb z1 z2 z3); clear hF) | (go_at_call 19; (with_reducible refine Calls.mono (twoc_r n g 0 rb gc b1 b2 fg 0 r _ a2 cap2 es (clip beh 200) ss l' _ hn ?_ hr5 HFAR.out.1 HFAR.out.2 ?_ ?_ ?_) ?_); (focus (exact (HL7.out.ch0 (by repeat (first | ((with_reducible refine Chg.setNew ?_ ?_ _); (rotate_left; focus (first | exact Nat.le_refl _ | assumption | omega | (simp only []; omega) | (simp; done) | (simp; omega)))) | with_reducible exact Chg.refl _ _ | with_reducible refine Chg.dr ?_ | with_reducible refine Chg.all ?_ _ | with_reducible refine Chg.trans ?_ (Chg.of_below hba) | with_reducible refine Chg.trans ?_ (Chg.of_below hbb)))).m.left)); (focus (exact (HL7.out.ch0 (by repeat (first | ((with_reducible refine Chg.setNew ?_ ?_ _); (rotate_left; focus (first | exact Nat.le_refl _ | assumption | omega | (simp only []; omega) | (simp; done) | (simp; omega)))) | with_reducible exact Chg.refl _ _ | with_reducible refine Chg.dr ?_ | with_reducible refine Chg.all ?_ _ | with_reducible refine Chg.trans ?_ (Chg.of_below hba) | with_reducible refine Chg.trans ?_ (Chg.of_below hbb)))).r)); (focus (exact HF.out.ch0 (by repeat (first | ((with_reducible refine Chg.setNew ?_ ?_ _); (rotate_left; focus (first | exact Nat.le_refl _ | assumption | omega | (simp only []; omega) | (simp; done) | (simp; omega)))) | with_reducible exact Chg.refl _ _ | with_reducible refine Chg.dr ?_ | with_reducible refine Chg.all ?_ _ | with_reducible refine Chg.trans ?_ (Chg.of_below hba) | with_reducible refine Chg.trans ?_ (Chg.of_below hbb))))); (focus (exact ⟨by have := HL7.out.r.lt; omega, by have := HL7.out.r.lt; omega, by have := HL7.out.r.lt; omega, HL7.out.n.2.1⟩)); rintro e we ⟨x2, y2, z2, l2, rfl, HX2, HL2, hcc⟩; obtain ⟨hcw, hfw⟩ := chg_cell hcc; have hzc := hcc.size; have HC := Lib.hid hcc; clear hcc; have hBe : Chg (fun j => j = rb) wS we := (by repeat (first | ((with_reducible refine Chg.setNew ?_ ?_ _); (rotate_left; focus (first | exact Nat.le_refl _ | assumption | omega | (simp only []; omega) | (simp; done) | (simp; omega)))) | with_reducible exact Chg.refl _ _ | with_reducible refine Chg.dr ?_ | with_reducible refine Chg.all ?_ _ | with_reducible refine Chg.trans ?_ (Chg.of_below hba) | with_reducible refine Chg.trans ?_ (Chg.of_below hbb) | with_reducible refine Chg.trans ?_ HC.out)); have hVe := HV7.out.cc hBe hvr; have hvle := hVe.lt; have e0 : we.cell? ⟨vb, 0, none⟩ = some (.bool x) := hVe.cell 0; have e1 : we.cell? ⟨vb, 1, none⟩ = some (.int .u32 y) := hVe.cell 1; have e2 : we.cell? ⟨vb, 2, none⟩ = some (.int .i64 z) := hVe.cell 2; have ef0 := hVe.frozen 0; have ef1 := hVe.frozen 1; have ef2 := hVe.frozen 2; clear hVe))
          all_goals
            go_wp2_with fail
            go_meet
            refine ⟨x2, y2, z2, l2, rfl, ?_, HX2, ?_, ?_⟩
            · exact Lib.hid (by repeat (first | with_reducible refine isBlk.put3 (x0 := .bool x) (x1 := .int .u32 y) (x2 := .int .i64 z) ?_ _ _ _ | with_reducible exact HV7.out | with_reducible refine isBlk.drew ?_ | ((with_reducible refine isBlk.cc ?_ HC.out ?_); (rotate_left; focus (first | exact Nat.le_refl _ | assumption | omega | (simp only []; omega) | (simp; done) | (simp; omega)))) | ((with_reducible refine isBlk.below ?_ hba ?_); (rotate_left; focus (first | exact Nat.le_refl _ | assumption | omega | (simp only []; omega) | (simp; done) | (simp; omega)))) | ((with_reducible refine isBlk.below ?_ hbb ?_); (rotate_left; focus (first | exact Nat.le_refl _ | assumption | omega | (simp only []; omega) | (simp; done) | (simp; omega))))))
            · exact Lib.hid ⟨(HL7.out.fin (W' := we) (by repeat (first | ((with_reducible refine Chg.setNew ?_ ?_ _); (rotate_left; focus (first | exact Nat.le_refl _ | assumption | omega | (simp only []; omega) | (simp; done) | (simp; omega)))) | with_reducible exact Chg.refl _ _ | with_reducible refine Chg.dr ?_ | with_reducible refine Chg.all ?_ _ | with_reducible refine Chg.trans ?_ (Chg.of_below hba) | with_reducible refine Chg.trans ?_ (Chg.of_below hbb) | with_reducible refine Chg.trans ?_ HC.out)) HL2.out.1).set3 hvz ⟨hvp, hvg.2.2.1, hvr⟩ _ _ _, HL2.out.2⟩
            · exact Lib.hid (by repeat (first | with_reducible exact HK7.out | ((with_reducible refine isBlk.off3 ?_ ?_ _ _ _); (rotate_left; focus (first | exact Nat.le_refl _ | assumption | omega | (simp only []; omega) | (simp; done) | (simp; omega)))) | with_reducible refine isBlk.drew ?_ | ((with_reducible refine isBlk.cc ?_ HC.out ?_); (rotate_left; focus (first | exact Nat.le_refl _ | assumption | omega | (simp only []; omega) | (simp; done) | (simp; omega)))) | ((with_reducible refine isBlk.below ?_ hba ?_); (rotate_left; focus (first | exact Nat.le_refl _ | assumption | omega | (simp only []; omega) | (simp; done) | (simp; omega)))) | ((with_reducible refine isBlk.below ?_ hbb ?_); (rotate_left; focus (first | exact Nat.le_refl _ | assumption | omega | (simp only []; omega) | (simp; done) | (simp; omega))))))
        case rest =>
          obtain ⟨x2, y2, z2, l2, rfl, HV8, HX2, HL8, HK8⟩ := hcut
          obtain ⟨w8, rfl⟩ : ∃ w8 : World, w8 = wc := ⟨_, rfl⟩
          clear c0 c1 c2 c3 c4 c5 c6 c7 c8 c9 c10 c11 c12 c13 hpl hvl hwl hprb HE7 vf0 vf1 vf2 v0 v1 v2 HL7 HV7 HK7 HFAR
          have hp8 := HL8.out.1.p
          have c0 : w8.cell? ⟨pb, 0, none⟩ = some (.int .u32 n) := hp8.cell 0
          have c1 : w8.cell? ⟨pb, 1, none⟩ = some (.slice sa ss.length sc) := hp8.cell 1
          have c2 : w8.cell? ⟨pb, 2, none⟩ = some (.slice ea es.length ec) := hp8.cell 2
          have c3 : w8.cell? ⟨pb, 3, none⟩ = some (.int .i64 beh) := hp8.cell 3
          have c4 : w8.cell? ⟨pb, 4, none⟩ = some (.int .i64 room) := hp8.cell 4
          have c5 : w8.cell? ⟨pb, 5, none⟩ = some (x5) := hp8.cell 5
          have c6 : w8.cell? ⟨pb, 6, none⟩ = some (x6) := hp8.cell 6
          have c7 : w8.cell? ⟨pb, 7, none⟩ = some (x7) := hp8.cell 7
          have c8 : w8.cell? ⟨pb, 8, none⟩ = some (x8) := hp8.cell 8
          have c9 : w8.cell? ⟨pb, 9, none⟩ = some (x9) := hp8.cell 9
          have c10 : w8.cell? ⟨pb, 10, none⟩ = some (x10) := hp8.cell 10
          have c11 : w8.cell? ⟨pb, 11, none⟩ = some (x11) := hp8.cell 11
          have c12 : w8.cell? ⟨pb, 12, none⟩ = some (x12) := hp8.cell 12
          have c13 : w8.cell? ⟨pb, 13, none⟩ = some (x13) := hp8.cell 13
          have hpl := hp8.lt
          have hE8 := hE.below HL8.out.1.b hE.lt
          have hE8d : IsEds w8.drew ea eb eo es := ⟨hE8.ad, hE8.lt, hE8.c0, hE8.c1, hE8.c2⟩
          obtain ⟨E2, hEE⟩ : ∃ E2, sccErr n ss.length r es (clip beh 200) = E2 := ⟨_, rfl⟩
          rw [hEE] at HX2 ⊢
          have HEE2 := Lib.hid hEE
          have hask : askErr (sizeErr n) n ss.length (clip room 5000 : Nat) (2 * (n : Int)) es (clip beh 200) = E2 := by rw [HR.out, ← hEE]; rfl
          have HAS := Lib.hid hask
          clear hEE hask hp8
          go_upto_region 13 with fail
          go_cut [7] (fun v7 wx => v7 = .int .i64 E2 ∧ Below w8.heap.size w8 wx)
          case first =>
            go_region_held3 (fun wz => ∀ b o, b < w8.heap.size → wz.cell? ⟨b, o, none⟩ = w8.cell? ⟨b, o, none⟩)
              (first | (intro b o hb; rfl) | (intro b o hb; rw [hb4.cell (p := ⟨b, o, none⟩) hb]; rfl))
              (first | (go_at_call 12; (with_reducible refine Calls.mono (sized_s n _) ?_); rintro e wa ⟨rfl, rfl⟩) | (go_at_call 11; (with_reducible refine Calls.mono (asked_any n _ _ ec eb eo _ ea beh room _ _ _ _ _ _ _ _ _ _ _ es _ hE8d hel hn) ?_); rintro e w4 ⟨rfl, hb4⟩; rw [HAS.out]))
            all_goals
              go_wp2_with fail
              go_meet
              exact ⟨rfl, (Below.drew (Below.refl _ _)).trans hb4⟩
          case rest =>
            obtain ⟨rfl, hb9⟩ := hcut
            obtain ⟨w9, rfl⟩ : ∃ w9 : World, w9 = wc := ⟨_, rfl⟩
            have HL9 := Lib.hid (HL8.out.1.below hb9)
            have HV9 := Lib.hid (HV8.out.below hb9 HV8.out.lt)
            have HK9 := Lib.hid (HK8.out.below hb9 HK8.out.lt)
            have HFAR := Lib.hid HL8.out.2
            clear c0 c1 c2 c3 c4 c5 c6 c7 c8 c9 c10 c11 c12 c13 hpl hE8 hE8d HAS hb9 HL8 HV8 HK8
            go_upto_region 14 with fail
            obtain ⟨bE, hbE⟩ : ∃ bE, ((E2 : Int) == 0) = bE := ⟨_, rfl⟩
            go_upto_if 93 with fail
            go_cut [94] (fun _ wx => ∃ (x' : Bool) (y' z' : Nat), Hid (isBlk wx wb 35 [.bool x', .int .u32 y', .int .i64 z']) ∧ Hid (isBlk wx vb 35 [.bool x2, .int .u32 y2, .int .i64 z2]) ∧ Hid (E2 = 0 → x2 = x' ∧ y2 = y' ∧ z2 = z') ∧ Hid (LawW w pb g rb [.int .u32 n, .slice sa ss.length sc, .slice ea es.length ec, .int .i64 beh, .int .i64 room, x5, x6, x7, x8, x9, x10, x11, x12, x13] ss l2 wx))
            case first =>
              cases bE
              rotate_left
              · have hE0 : E2 = 0 := by rw [beq_iff_eq] at hbE; omega
                have H0 := Lib.hid hE0
                clear hE0 hbE
                obtain ⟨hn1, hsn, hnr, hva⟩ := sccErr_ok (HEE2.out.trans H0.out)
                obtain ⟨ρ, hρ, hvf⟩ := HX2.out.2 H0.out
                have HVA := Lib.hid hva
                have HSN := Lib.hid hsn
                have HRO := Lib.hid hρ
                have HVF := Lib.hid hvf
                clear hva hsn hρ hvf
                have hp9 := HL9.out.p
                have hpl := hp9.lt
                have hwl := HK9.out.lt
                have hE9 := hE.below HL9.out.b hE.lt
                have hE9d : IsEds w9.drew ea eb eo es := ⟨hE9.ad, hE9.lt, hE9.c0, hE9.c1, hE9.c2⟩
                have hs9 := hs.below HL9.out.b hs.lt
                have hs9d := hs9.below (Below.drew (Below.refl _ w9)) hs9.lt
                have g0 : w9.cell? ⟨wb, 0, none⟩ = some (.bool x') := HK9.out.cell 0
                have g1 : w9.cell? ⟨wb, 1, none⟩ = some (.int .u32 y') := HK9.out.cell 1
                have g2 : w9.cell? ⟨wb, 2, none⟩ = some (.int .i64 z') := HK9.out.cell 2
                have f0 := HK9.out.frozen 0
                have f1 := HK9.out.frozen 1
                have f2 := HK9.out.frozen 2
                have hpw : pb ≠ wb := fun e => hwv.2.1 e.symm
                have c0 : w9.cell? ⟨pb, 0, none⟩ = some (.int .u32 n) := hp9.cell 0
                have c1 : w9.cell? ⟨pb, 1, none⟩ = some (.slice sa ss.length sc) := hp9.cell 1
                have c2 : w9.cell? ⟨pb, 2, none⟩ = some (.slice ea es.length ec) := hp9.cell 2
                have c3 : w9.cell? ⟨pb, 3, none⟩ = some (.int .i64 beh) := hp9.cell 3
                have c4 : w9.cell? ⟨pb, 4, none⟩ = some (.int .i64 room) := hp9.cell 4
                have c5 : w9.cell? ⟨pb, 5, none⟩ = some (x5) := hp9.cell 5
                have c6 : w9.cell? ⟨pb, 6, none⟩ = some (x6) := hp9.cell 6
                have c7 : w9.cell? ⟨pb, 7, none⟩ = some (x7) := hp9.cell 7
                have c8 : w9.cell? ⟨pb, 8, none⟩ = some (x8) := hp9.cell 8
                have c9 : w9.cell? ⟨pb, 9, none⟩ = some (x9) := hp9.cell 9
                have c10 : w9.cell? ⟨pb, 10, none⟩ = some (x10) := hp9.cell 10
                have c11 : w9.cell? ⟨pb, 11, none⟩ = some (x11) := hp9.cell 11
                have c12 : w9.cell? ⟨pb, 12, none⟩ = some (x12) := hp9.cell 12
                have c13 : w9.cell? ⟨pb, 13, none⟩ = some (x13) := hp9.cell 13
                go_upto_region 15 with fail
                go_region_held3 (fun wz => w9.heap.size ≤ wz.heap.size ∧ (∀ b o, b ≠ wb → b < w9.heap.size → wz.cell? ⟨b, o, none⟩ = w9.cell? ⟨b, o, none⟩) ∧ Hid (Chg (fun j => j = wb) w9 wz))
                  (first | exact kC_of (by repeat (first | with_reducible exact Chg.refl _ _ | with_reducible refine Chg.dr ?_ | with_reducible refine Chg.oset ?_ _ | with_reducible refine Chg.trans ?_ (Chg.of_below hb7) | with_reducible refine Chg.trans ?_ (Chg.of_below hb6))))
                  (first | (go_at_call 21; (with_reducible refine Calls.mono (refColours_x n ec eb eo ea es ρ _ hE9d (by omega) hn1 hel HVA.out HRO.out) ?_); rintro e w6 ⟨tb, T, rfl, htb, HT, hTl, HTF, hb6⟩; have hs6 := hs9d.below hb6 hs9d.lt; obtain ⟨hc6, hf6⟩ := bcell hb6; have hz6 := hb6.size; (try simp only [dsz] at hz6 htb); (try (have hx6 : wb < w6.heap.size := by omega))) | (go_at_call 20; (with_reducible refine Calls.mono (refWords_x n sb so sc tb n sa ss T (asks ρ n) _ hs6 HSN.out (by omega) hn1 HT.out hTl HTF.out) ?_); rintro e w7 ⟨x3, y3, z3, rfl, HF, hb7⟩; have hB9 : Below w9.heap.size w9 w7 := (Below.drew (Below.refl _ w9)).trans (hb6.trans (hb7.mono hb6.size)); have hVe := HK9.out.below hB9 HK9.out.lt; have hvle := hVe.lt; have e0 : w7.cell? ⟨wb, 0, none⟩ = some (.bool x') := hVe.cell 0; have e1 : w7.cell? ⟨wb, 1, none⟩ = some (.int .u32 y') := hVe.cell 1; have e2 : w7.cell? ⟨wb, 2, none⟩ = some (.int .i64 z') := hVe.cell 2; have ef0 := hVe.frozen 0; have ef1 := hVe.frozen 1; have ef2 := hVe.frozen 2; clear hVe))
                all_goals
                  go_wp2_with fail
                  go_meet
                  exact ⟨x3, y3, z3, Lib.hid ((HK9.out.below hB9 HK9.out.lt).put3 _ _ _), Lib.hid ((HV9.out.below hB9 HV9.out.lt).off3 hwv.2.2.symm _ _ _), Lib.hid (fun _ => verd_eq HVF.out HF.out), Lib.hid ((HL9.out.below hB9).set3 hwz ⟨hwv.2.1, hwg, hwv.1⟩ _ _ _)⟩
              · have hE0 : ¬ E2 = 0 := by rw [beq_eq_false_iff_ne] at hbE; omega
                have H0 := Lib.hid hE0
                clear hE0 hbE
                go_wp2
                go_meet
                exact ⟨_, _, _, HK9, HV9, Lib.hid (fun h0 => absurd h0 H0.out), HL9⟩
            case rest =>
              clear hbE
              obtain ⟨x3, y3, z3, HK10, HV10, HEQ10, HL10⟩ := hcut
              obtain ⟨w10, rfl⟩ : ∃ w10 : World, w10 = wc := ⟨_, rfl⟩
              clear HK9 HV9 HL9
              have hp10 := HL10.out.p
              have c0 : w10.cell? ⟨pb, 0, none⟩ = some (.int .u32 n) := hp10.cell 0
              have c1 : w10.cell? ⟨pb, 1, none⟩ = some (.slice sa ss.length sc) := hp10.cell 1
              have c2 : w10.cell? ⟨pb, 2, none⟩ = some (.slice ea es.length ec) := hp10.cell 2
              have c3 : w10.cell? ⟨pb, 3, none⟩ = some (.int .i64 beh) := hp10.cell 3
              have c4 : w10.cell? ⟨pb, 4, none⟩ = some (.int .i64 room) := hp10.cell 4
              have c5 : w10.cell? ⟨pb, 5, none⟩ = some (x5) := hp10.cell 5
              have c6 : w10.cell? ⟨pb, 6, none⟩ = some (x6) := hp10.cell 6
              have c7 : w10.cell? ⟨pb, 7, none⟩ = some (x7) := hp10.cell 7
              have c8 : w10.cell? ⟨pb, 8, none⟩ = some (x8) := hp10.cell 8
              have c9 : w10.cell? ⟨pb, 9, none⟩ = some (x9) := hp10.cell 9
              have c10 : w10.cell? ⟨pb, 10, none⟩ = some (x10) := hp10.cell 10
              have c11 : w10.cell? ⟨pb, 11, none⟩ = some (x11) := hp10.cell 11
              have c12 : w10.cell? ⟨pb, 12, none⟩ = some (x12) := hp10.cell 12
              have c13 : w10.cell? ⟨pb, 13, none⟩ = some (x13) := hp10.cell 13
              have hpl := hp10.lt
              have hwl := HK10.out.lt
              have hvl := HV10.out.lt
              have g0 : w10.cell? ⟨wb, 0, none⟩ = some (.bool x3) := HK10.out.cell 0
              have g1 : w10.cell? ⟨wb, 1, none⟩ = some (.int .u32 y3) := HK10.out.cell 1
              have g2 : w10.cell? ⟨wb, 2, none⟩ = some (.int .i64 z3) := HK10.out.cell 2
              have v0 : w10.cell? ⟨vb, 0, none⟩ = some (.bool x2) := HV10.out.cell 0
              have v1 : w10.cell? ⟨vb, 1, none⟩ = some (.int .u32 y2) := HV10.out.cell 1
              have v2 : w10.cell? ⟨vb, 2, none⟩ = some (.int .i64 z2) := HV10.out.cell 2
              go_wp2_with (first | (go_at_call 14; ((with_reducible refine (agree_all x2 x3 y2 y3 z2 z3 E2 _ HEQ10.out HX2.out.1).mono ?_); rintro e w7 ⟨rfl, hb7⟩; have HL7 := Lib.hid (HL10.out.below hb7); have hs7 := hs.below HL7.out.b hs.lt; have d0 : w7.cell? ⟨pb, 0, none⟩ = some (.int .u32 n) := HL7.out.p.cell 0; have d1 : w7.cell? ⟨pb, 1, none⟩ = some (.slice sa ss.length sc) := HL7.out.p.cell 1)) | (go_at_call 15; ((with_reducible refine (kept_any g sb so sc gc sa ss _ HL7.out.m hs7 hsl hgc).mono ?_); rintro e w8 ⟨rfl, hb8⟩; have HL8 := Lib.hid (HL7.out.below hb8); have q0 : w8.cell? ⟨pb, 0, none⟩ = some (.int .u32 n) := HL8.out.p.cell 0)) | (go_at_call 16; ((with_reducible refine (spare_r rb n r l2 _ HL8.out.r HFAR.out.1 hr5 hn HFAR.out.2).mono ?_); rintro e w9 ⟨rfl, rfl⟩)))
              go_ret
              exact ⟨rfl, HL8.out.b⟩

end Go.Proofs.Ytohmeobfiomfdaa
