/-
  The statement's helpers: asked, agree, spare, kept.
-/
import Derived.Test.YtohmeobfiomfdaaStates
namespace Go.Proofs.Ytohmeobfiomfdaa
open Go.RowKit Go.Shelf
set_option maxRecDepth 100000

def askErr (mk n len : Nat) (room need : Int) (es : List Ed) (beh : Nat) : Nat := if sitErr mk n len room need ≠ 0 then sitErr mk n len room need else overErr n es beh

theorem allValid_take {n : Nat} {es : List Ed} {k : Nat} (h : k < es.length) : allValid n (es.take (k + 1)) = (allValid n (es.take k) && decide (Valid n es[k])) := by
  unfold allValid
  rw [List.take_succ_eq_append_getElem h, List.all_append]
  simp
theorem allValid_bad {n : Nat} {es : List Ed} {k : Nat} (h : k < es.length) (hb : ¬ Valid n es[k]) : allValid n es = false := by
  unfold allValid
  rw [List.all_eq_false]
  exact ⟨_, List.getElem_mem h, by simpa using hb⟩

set_option maxHeartbeats 2000000 in
theorem ask_any (mk n len beh : Nat) (room need : Int) (a : Option Addr) (ec eb eo : Nat) (es : List Ed) (w : World) (hE : IsEds w a eb eo es) (hlen : es.length ≤ 1048576) (hn : n ≤ 4294967295) :
    Calls Try.prog 42 #[.int .i64 mk, .int .u32 n, .int .i64 len, .int .i64 room, .int .i64 need, .int .i64 0, .slice a es.length ec, .int .i64 beh] w fun e w' => e = .returned (.int .i64 (askErr mk n len room need es beh)) ∧ w = w' := by
  by_cases h1 : mk = 0
  · subst h1
    by_cases h2 : len = n
    · subst h2
      have h2' : ((len : Int) != (len : Int)) = false := by simp
      have hw : wrap64 (len : Int) = len := by unfold wrap64; omega
      by_cases h3 : room < need
      · have hs : askErr 0 len len room need es beh = 94 := by
          unfold askErr
          have : sitErr 0 len len room need = 94 := by unfold sitErr; rw [if_neg (by simp), if_neg (by simp), if_pos h3]
          rw [this]; rfl
        rw [hs]
        clear hs
        go_enter Try.func42, Try.ntmps42
        go_wp2
        go_ret
        exact ⟨rfl, rfl⟩
      · have hs : askErr 0 len len room need es beh = overErr len es beh := by
          unfold askErr
          have : sitErr 0 len len room need = 0 := by unfold sitErr; rw [if_neg (by simp), if_neg (by simp), if_neg h3]
          rw [this]; rfl
        rw [hs]
        clear hs
        obtain ⟨n, hn'⟩ : ∃ n, n = len := ⟨_, rfl⟩
        rw [← hn'] at hn h2' hw ⊢
        clear hn'
        go_enter Try.func42, Try.ntmps42
        go_wp2
        go_loopg [17, 18] es.length (fun gk i _ wr => ∃ k : Nat, k + gk = es.length ∧ i = .int .i64 k ∧ allValid n (es.take k) = true ∧ w = wr)
        case atStart => exact ⟨0, by omega, rfl, rfl, rfl⟩
        case round =>
          obtain ⟨k, hk, rfl, hall, rfl⟩ := hrel
          have HA := Lib.hid hall
          clear hall
          by_cases hlt : k < es.length
          · have i1 : (k : Int) < es.length := by omega
            have i2 : (0 : Int) ≤ k := Int.natCast_nonneg _
            have hgk : 0 < gk := by omega
            obtain rfl := hE.ad (by omega)
            have c0 := hE.c0 k hlt
            have c1 := hE.c1 k hlt
            have c2 := hE.c2 k hlt
            have hbad := fun hb => allValid_bad (n := n) hlt hb
            have hnext := allValid_take (n := n) hlt
            rw [HA.out, Bool.true_and] at hnext
            unfold Valid at hbad hnext
            generalize es[k] = x at *
            obtain ⟨src, dst, x3⟩ := x
            simp only [] at c0 c1 c2 hbad hnext
            have HB := Lib.hid hbad
            have HN := Lib.hid hnext
            clear hbad hnext
            by_cases h4 : src < n
            · have h4' : ¬ (n : Int) ≤ src := by omega
              by_cases h5 : dst < n
              · have h5' : ¬ (n : Int) ≤ dst := by omega
                have HV := Lib.hid (HN.out.trans (decide_eq_true ⟨h4, h5⟩))
                clear HB HN
                go_wp2
                go_roundg (gk - 1)
                case measure => omega
                case rel => exact ⟨k + 1, by omega, by go_num, HV.out, rfl⟩
              · have h5' : (n : Int) ≤ dst := by omega
                have HV := Lib.hid (HB.out (fun h => h5 h.2))
                clear HB HN h5
                go_wp2
                go_ret
                exact ⟨ret_int (by unfold overErr; rw [HV.out]; rfl), rfl⟩
            · have h4' : (n : Int) ≤ src := by omega
              have HV := Lib.hid (HB.out (fun h => h4 h.1))
              clear HB HN h4
              go_wp2
              go_ret
              exact ⟨ret_int (by unfold overErr; rw [HV.out]; rfl), rfl⟩
          · obtain rfl : k = es.length := by omega
            go_wp2
            go_ret
            exact ⟨ret_int (by have := HA.out; rw [List.take_length] at this; unfold overErr; rw [if_pos this]), rfl⟩
    · have h2' : ((len : Int) != (n : Int)) = true := by rw [bne_iff_ne]; omega
      have hw : wrap64 (n : Int) = n := by unfold wrap64; omega
      have hs : askErr 0 n len room need es beh = 180 := by
        unfold askErr
        have : sitErr 0 n len room need = 180 := by unfold sitErr; rw [if_neg (by simp), if_pos h2]
        rw [this]; rfl
      rw [hs]
      clear hs h2
      go_enter Try.func42, Try.ntmps42
      go_wp2
      go_ret
      exact ⟨rfl, rfl⟩
  · have h1' : ((mk : Int) != 0) = true := by rw [bne_iff_ne]; omega
    have hs : askErr mk n len room need es beh = mk := by
      unfold askErr
      have : sitErr mk n len room need = mk := by unfold sitErr; rw [if_pos h1]
      rw [this, if_pos h1]
    rw [hs]
    clear hs h1
    go_enter Try.func42, Try.ntmps42
    go_wp2
    go_ret
    exact ⟨rfl, rfl⟩

set_option maxHeartbeats 1000000 in
theorem asked_any (n sl sc ec eb eo : Nat) (sa ea : Option Addr) (beh room need : Int) (x5 x6 x7 x8 x9 x10 x11 x12 x13 : Value) (mk : Nat) (es : List Ed) (w : World) (hE : IsEds w ea eb eo es) (hlen : es.length ≤ 1048576) (hn : n ≤ 4294967295) :
    Calls Try.prog 11 #[.agg #[.int .u32 n, .slice sa sl sc, .slice ea es.length ec, .int .i64 beh, .int .i64 room, x5, x6, x7, x8, x9, x10, x11, x12, x13], .int .i64 mk, .int .u32 n, .int .i64 need, .int .i64 0] w fun e w' => e = .returned (.int .i64 (askErr mk n sl (clip room 5000 : Nat) need es (clip beh 200))) ∧ Below w.heap.size w w' := by
  have hE1 := hE.below (B := w.heap.size) (Ball (o := .cells #[.int .u32 n, .slice sa sl sc, .slice ea es.length ec, .int .i64 beh, .int .i64 room, x5, x6, x7, x8, x9, x10, x11, x12, x13] 30) (Nat.le_refl _) (Below.refl _ w)) hE.lt
  have hcases : room < 0 ∨ (0 ≤ room ∧ room ≤ 5000) ∨ 5000 < room := by omega
  rcases hcases with h1 | ⟨h1, h2⟩ | h1
  · have HR : Hid (((clip room 5000 : Nat) : Int) = 0) := Lib.hid (by unfold clip; omega)
    rw [HR.out]
    go_enter Try.func11, Try.ntmps11
    go_upto_region 1 with fail
    obtain ⟨W1, hW1⟩ : ∃ W1, w.alloc (.cells #[.int .u32 n, .slice sa sl sc, .slice ea es.length ec, .int .i64 beh, .int .i64 room, x5, x6, x7, x8, x9, x10, x11, x12, x13] 30) = W1 := ⟨_, rfl⟩
    have hB1 : Below w.heap.size w W1 := by rw [← hW1]; exact (by repeat (first | with_reducible exact Below.refl _ _ | with_reducible assumption | with_reducible refine below_drewN ?_ _ | with_reducible refine Below.drew ?_ | ((with_reducible refine Bset ?_ ?_); focus (first | omega | (simp; done) | (simp; omega))) | ((with_reducible refine Ball ?_ ?_); focus (first | omega | (simp; done) | (simp; omega)))))
    have k1 : isBlk W1 w.heap.size 30 [.int .u32 n, .slice sa sl sc, .slice ea es.length ec, .int .i64 beh, .int .i64 room, x5, x6, x7, x8, x9, x10, x11, x12, x13] := by rw [← hW1]; exact isBlk.new w 30 [.int .u32 n, .slice sa sl sc, .slice ea es.length ec, .int .i64 beh, .int .i64 room, x5, x6, x7, x8, x9, x10, x11, x12, x13]
    rw [hW1] at hE1 ⊢
    clear hW1
    obtain ⟨pb, hpb⟩ : ∃ pb, pb = w.heap.size := ⟨_, rfl⟩
    rw [← hpb] at k1 ⊢
    clear hpb
    have hpl := k1.lt
    have c0 : W1.cell? ⟨pb, 0, none⟩ = some (.int .u32 n) := k1.cell 0
    have c1 : W1.cell? ⟨pb, 1, none⟩ = some (.slice sa sl sc) := k1.cell 1
    have c2 : W1.cell? ⟨pb, 2, none⟩ = some (.slice ea es.length ec) := k1.cell 2
    have c3 : W1.cell? ⟨pb, 3, none⟩ = some (.int .i64 beh) := k1.cell 3
    have c4 : W1.cell? ⟨pb, 4, none⟩ = some (.int .i64 room) := k1.cell 4
    have c5 : W1.cell? ⟨pb, 5, none⟩ = some (x5) := k1.cell 5
    have c6 : W1.cell? ⟨pb, 6, none⟩ = some (x6) := k1.cell 6
    have c7 : W1.cell? ⟨pb, 7, none⟩ = some (x7) := k1.cell 7
    have c8 : W1.cell? ⟨pb, 8, none⟩ = some (x8) := k1.cell 8
    have c9 : W1.cell? ⟨pb, 9, none⟩ = some (x9) := k1.cell 9
    have c10 : W1.cell? ⟨pb, 10, none⟩ = some (x10) := k1.cell 10
    have c11 : W1.cell? ⟨pb, 11, none⟩ = some (x11) := k1.cell 11
    have c12 : W1.cell? ⟨pb, 12, none⟩ = some (x12) := k1.cell 12
    have c13 : W1.cell? ⟨pb, 13, none⟩ = some (x13) := k1.cell 13
    have hE1d : IsEds W1.drew ea eb eo es := ⟨hE1.ad, hE1.lt, hE1.c0, hE1.c1, hE1.c2⟩
    go_region_held3 (fun wz => ∀ b o, b < W1.heap.size → wz.cell? ⟨b, o, none⟩ = W1.cell? ⟨b, o, none⟩)
      (first | (intro b o hb; rfl) | (intro b o hb; rw [hb2.cell (p := ⟨b, o, none⟩) hb]; rfl))
      (first | (go_at_call 10; (with_reducible refine Calls.mono (behind_any _ _ _ _ _ _ _ _ _ _ _ _ _ _ _ _ _ _ _) ?_); rintro e w2 ⟨rfl, hb2⟩; have hE2 := hE1d.below hb2 hE1d.lt) | (go_at_call 28; (with_reducible refine Calls.mono (num_any _ _) ?_); rintro e w3 ⟨rfl, rfl⟩) | (go_at_call 42; (with_reducible refine Calls.mono (ask_any mk n sl _ _ _ ea ec eb eo es _ hE2 hlen hn) ?_); rintro e w4 ⟨rfl, rfl⟩))
    all_goals (go_wp2; go_ret; exact ⟨rfl, hB1.trans (Below.trans (Below.drew (Below.refl _ _)) hb2 |>.mono hB1.size)⟩)
  · have HR : Hid (((clip room 5000 : Nat) : Int) = room) := Lib.hid (by unfold clip; omega)
    rw [HR.out]
    have h3 : ¬ room < 0 := by omega
    have h4 : ¬ 5000 < room := by omega
    go_enter Try.func11, Try.ntmps11
    go_upto_region 1 with fail
    obtain ⟨W1, hW1⟩ : ∃ W1, w.alloc (.cells #[.int .u32 n, .slice sa sl sc, .slice ea es.length ec, .int .i64 beh, .int .i64 room, x5, x6, x7, x8, x9, x10, x11, x12, x13] 30) = W1 := ⟨_, rfl⟩
    have hB1 : Below w.heap.size w W1 := by rw [← hW1]; exact (by repeat (first | with_reducible exact Below.refl _ _ | with_reducible assumption | with_reducible refine below_drewN ?_ _ | with_reducible refine Below.drew ?_ | ((with_reducible refine Bset ?_ ?_); focus (first | omega | (simp; done) | (simp; omega))) | ((with_reducible refine Ball ?_ ?_); focus (first | omega | (simp; done) | (simp; omega)))))
    have k1 : isBlk W1 w.heap.size 30 [.int .u32 n, .slice sa sl sc, .slice ea es.length ec, .int .i64 beh, .int .i64 room, x5, x6, x7, x8, x9, x10, x11, x12, x13] := by rw [← hW1]; exact isBlk.new w 30 [.int .u32 n, .slice sa sl sc, .slice ea es.length ec, .int .i64 beh, .int .i64 room, x5, x6, x7, x8, x9, x10, x11, x12, x13]
    rw [hW1] at hE1 ⊢
    clear hW1
    obtain ⟨pb, hpb⟩ : ∃ pb, pb = w.heap.size := ⟨_, rfl⟩
    rw [← hpb] at k1 ⊢
    clear hpb
    have hpl := k1.lt
    have c0 : W1.cell? ⟨pb, 0, none⟩ = some (.int .u32 n) := k1.cell 0
    have c1 : W1.cell? ⟨pb, 1, none⟩ = some (.slice sa sl sc) := k1.cell 1
    have c2 : W1.cell? ⟨pb, 2, none⟩ = some (.slice ea es.length ec) := k1.cell 2
    have c3 : W1.cell? ⟨pb, 3, none⟩ = some (.int .i64 beh) := k1.cell 3
    have c4 : W1.cell? ⟨pb, 4, none⟩ = some (.int .i64 room) := k1.cell 4
    have c5 : W1.cell? ⟨pb, 5, none⟩ = some (x5) := k1.cell 5
    have c6 : W1.cell? ⟨pb, 6, none⟩ = some (x6) := k1.cell 6
    have c7 : W1.cell? ⟨pb, 7, none⟩ = some (x7) := k1.cell 7
    have c8 : W1.cell? ⟨pb, 8, none⟩ = some (x8) := k1.cell 8
    have c9 : W1.cell? ⟨pb, 9, none⟩ = some (x9) := k1.cell 9
    have c10 : W1.cell? ⟨pb, 10, none⟩ = some (x10) := k1.cell 10
    have c11 : W1.cell? ⟨pb, 11, none⟩ = some (x11) := k1.cell 11
    have c12 : W1.cell? ⟨pb, 12, none⟩ = some (x12) := k1.cell 12
    have c13 : W1.cell? ⟨pb, 13, none⟩ = some (x13) := k1.cell 13
    have hE1d : IsEds W1.drew ea eb eo es := ⟨hE1.ad, hE1.lt, hE1.c0, hE1.c1, hE1.c2⟩
    go_region_held3 (fun wz => ∀ b o, b < W1.heap.size → wz.cell? ⟨b, o, none⟩ = W1.cell? ⟨b, o, none⟩)
      (first | (intro b o hb; rfl) | (intro b o hb; rw [hb2.cell (p := ⟨b, o, none⟩) hb]; rfl))
      (first | (go_at_call 10; (with_reducible refine Calls.mono (behind_any _ _ _ _ _ _ _ _ _ _ _ _ _ _ _ _ _ _ _) ?_); rintro e w2 ⟨rfl, hb2⟩; have hE2 := hE1d.below hb2 hE1d.lt) | (go_at_call 28; (with_reducible refine Calls.mono (num_any _ _) ?_); rintro e w3 ⟨rfl, rfl⟩) | (go_at_call 42; (with_reducible refine Calls.mono (ask_any mk n sl _ _ _ ea ec eb eo es _ hE2 hlen hn) ?_); rintro e w4 ⟨rfl, rfl⟩))
    all_goals (go_wp2; go_ret; exact ⟨rfl, hB1.trans (Below.trans (Below.drew (Below.refl _ _)) hb2 |>.mono hB1.size)⟩)
  · have HR : Hid (((clip room 5000 : Nat) : Int) = 5000) := Lib.hid (by unfold clip; omega)
    rw [HR.out]
    have h3 : ¬ room < 0 := by omega
    go_enter Try.func11, Try.ntmps11
    go_upto_region 1 with fail
    obtain ⟨W1, hW1⟩ : ∃ W1, w.alloc (.cells #[.int .u32 n, .slice sa sl sc, .slice ea es.length ec, .int .i64 beh, .int .i64 room, x5, x6, x7, x8, x9, x10, x11, x12, x13] 30) = W1 := ⟨_, rfl⟩
    have hB1 : Below w.heap.size w W1 := by rw [← hW1]; exact (by repeat (first | with_reducible exact Below.refl _ _ | with_reducible assumption | with_reducible refine below_drewN ?_ _ | with_reducible refine Below.drew ?_ | ((with_reducible refine Bset ?_ ?_); focus (first | omega | (simp; done) | (simp; omega))) | ((with_reducible refine Ball ?_ ?_); focus (first | omega | (simp; done) | (simp; omega)))))
    have k1 : isBlk W1 w.heap.size 30 [.int .u32 n, .slice sa sl sc, .slice ea es.length ec, .int .i64 beh, .int .i64 room, x5, x6, x7, x8, x9, x10, x11, x12, x13] := by rw [← hW1]; exact isBlk.new w 30 [.int .u32 n, .slice sa sl sc, .slice ea es.length ec, .int .i64 beh, .int .i64 room, x5, x6, x7, x8, x9, x10, x11, x12, x13]
    rw [hW1] at hE1 ⊢
    clear hW1
    obtain ⟨pb, hpb⟩ : ∃ pb, pb = w.heap.size := ⟨_, rfl⟩
    rw [← hpb] at k1 ⊢
    clear hpb
    have hpl := k1.lt
    have c0 : W1.cell? ⟨pb, 0, none⟩ = some (.int .u32 n) := k1.cell 0
    have c1 : W1.cell? ⟨pb, 1, none⟩ = some (.slice sa sl sc) := k1.cell 1
    have c2 : W1.cell? ⟨pb, 2, none⟩ = some (.slice ea es.length ec) := k1.cell 2
    have c3 : W1.cell? ⟨pb, 3, none⟩ = some (.int .i64 beh) := k1.cell 3
    have c4 : W1.cell? ⟨pb, 4, none⟩ = some (.int .i64 room) := k1.cell 4
    have c5 : W1.cell? ⟨pb, 5, none⟩ = some (x5) := k1.cell 5
    have c6 : W1.cell? ⟨pb, 6, none⟩ = some (x6) := k1.cell 6
    have c7 : W1.cell? ⟨pb, 7, none⟩ = some (x7) := k1.cell 7
    have c8 : W1.cell? ⟨pb, 8, none⟩ = some (x8) := k1.cell 8
    have c9 : W1.cell? ⟨pb, 9, none⟩ = some (x9) := k1.cell 9
    have c10 : W1.cell? ⟨pb, 10, none⟩ = some (x10) := k1.cell 10
    have c11 : W1.cell? ⟨pb, 11, none⟩ = some (x11) := k1.cell 11
    have c12 : W1.cell? ⟨pb, 12, none⟩ = some (x12) := k1.cell 12
    have c13 : W1.cell? ⟨pb, 13, none⟩ = some (x13) := k1.cell 13
    have hE1d : IsEds W1.drew ea eb eo es := ⟨hE1.ad, hE1.lt, hE1.c0, hE1.c1, hE1.c2⟩
    go_region_held3 (fun wz => ∀ b o, b < W1.heap.size → wz.cell? ⟨b, o, none⟩ = W1.cell? ⟨b, o, none⟩)
      (first | (intro b o hb; rfl) | (intro b o hb; rw [hb2.cell (p := ⟨b, o, none⟩) hb]; rfl))
      (first | (go_at_call 10; (with_reducible refine Calls.mono (behind_any _ _ _ _ _ _ _ _ _ _ _ _ _ _ _ _ _ _ _) ?_); rintro e w2 ⟨rfl, hb2⟩; have hE2 := hE1d.below hb2 hE1d.lt) | (go_at_call 28; (with_reducible refine Calls.mono (num_any _ _) ?_); rintro e w3 ⟨rfl, rfl⟩) | (go_at_call 42; (with_reducible refine Calls.mono (ask_any mk n sl _ _ _ ea ec eb eo es _ hE2 hlen hn) ?_); rintro e w4 ⟨rfl, rfl⟩))
    all_goals (go_wp2; go_ret; exact ⟨rfl, hB1.trans (Below.trans (Below.drew (Below.refl _ _)) hb2 |>.mono hB1.size)⟩)

end Go.Proofs.Ytohmeobfiomfdaa
