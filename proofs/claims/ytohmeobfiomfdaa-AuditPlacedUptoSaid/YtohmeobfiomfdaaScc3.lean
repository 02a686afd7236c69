/-
  The closures of an audit of strong components: what is noted, and the ring's.
-/
import Derived.Test.YtohmeobfiomfdaaScc2
namespace Go.Proofs.Ytohmeobfiomfdaa
open Go.RowKit
set_option maxRecDepth 100000
set_option linter.unusedSimpArgs false

/-- Is a vertex not come to there and back? -/
def short (l : List Nat) (n k : Nat) : Bool := decide (l.getD k 0 + l.getD (n + k) 0 < 2)


set_option maxHeartbeats 1000000 in
theorem f38_any (pb qb tb bb db sb so rb n cs ct cb : Nat) (ss : List St) (d : Dk) (f : Fd) (l : List Nat) (k : Nat) (s : St) (w : World)
    (hE : Env w pb qb tb bb db sb so rb n cs ct cb ss) (hnl : n + n ≤ l.length) (hk : k < n) (hle : ∀ j, j < n + n → l.getD j 0 ≤ 1)
    (hd : isBlk w db 75 (d.cells f)) (hw : Wds w rb l) :
    Calls Try.prog 38 #[.int .u32 k, s.val, .pointer (some ⟨pb, 0, none⟩), .pointer (some ⟨tb, 0, none⟩), .pointer (some ⟨bb, 0, none⟩)] w fun e w' =>
      (∃ x, e = .returned x) ∧ isBlk w' db 75 (d.cells (noted f k 2 (short l n k))) ∧ Chg (fun j => j = db) w w' := by
  obtain ⟨l0, s1, s2, s3, s4, s5, s6, s7⟩ := s
  unfold St.val
  simp only []
  have hE1 := hE.keep (w' := w.alloc (.cells #[.int .u64 l0, .int .u64 s1, .int .u64 s2, .int .u64 s3, .int .u64 s4, .int .u64 s5, .int .u64 s6, .int .u64 s7] 56)) (fun j hj _ _ => Below.heap_alloc _ _ _ hj) (by simp)
  have hd1 := hd.old (.cells #[.int .u64 l0, .int .u64 s1, .int .u64 s2, .int .u64 s3, .int .u64 s4, .int .u64 s5, .int .u64 s6, .int .u64 s7] 56)
  have hw1 := hw.all (.cells #[.int .u64 l0, .int .u64 s1, .int .u64 s2, .int .u64 s3, .int .u64 s4, .int .u64 s5, .int .u64 s6, .int .u64 s7] 56)
  have hc1 := (Chg.refl (fun j => j = db) w).all (.cells #[.int .u64 l0, .int .u64 s1, .int .u64 s2, .int .u64 s3, .int .u64 s4, .int .u64 s5, .int .u64 s6, .int .u64 s7] 56)
  obtain ⟨bv, hbv⟩ : ∃ bv, short l n k = bv := ⟨_, rfl⟩
  rw [hbv]
  go_enter Try.func38, Try.ntmps38
  go_wp2
  obtain ⟨W1, hW1⟩ : ∃ W1, w.alloc (.cells #[.int .u64 l0, .int .u64 s1, .int .u64 s2, .int .u64 s3, .int .u64 s4, .int .u64 s5, .int .u64 s6, .int .u64 s7] 56) = W1 := ⟨_, rfl⟩
  rw [hW1] at hE1 hd1 hw1 hc1 ⊢
  clear hW1 hE hd hw
  have cp := hE1.p
  have ct' := hE1.t
  have cb' := hE1.b
  have bp := World.block_lt_of_cell? W1 _ cp
  have bt := World.block_lt_of_cell? W1 _ ct'
  have bb' := World.block_lt_of_cell? W1 _ cb'
  simp only [] at bp bt bb'
  have hnp := hE1.np.1
  have hnt := hE1.nt.1
  have hnb := hE1.nb.1
  have hnr : rb ≠ db := fun e => hE1.nd e.symm
  have r1 := hw1.c k (by omega)
  have r2 := hw1.c (n + k) (by omega)
  rw [getD_get (by omega)] at r1 r2
  have hrl := hw1.lt
  have HC := Lib.hid hc1
  have HD := Lib.hid hd1
  have hki : (k : Int) < n := by omega
  have hki0 : (0 : Int) ≤ k := Int.natCast_nonneg _
  have y1 := hle k (by omega)
  have y2 := hle (n + k) (by omega)
  unfold short at hbv
  clear hE1 hd1 hw1 hc1 hle
  generalize l.getD k 0 = v1 at *
  generalize l.getD (n + k) 0 = v2 at *
  generalize w.heap.size = xb at *
  have hkw : IntKind.u64.wrap ((v1 : Int) + (v2 : Int)) = (v1 : Int) + (v2 : Int) := by rw [IntKind.wrap_u64]; omega
  by_cases h : v1 + v2 < 2
  · rw [decide_eq_true h] at hbv
    subst hbv
    have h' : (v1 : Int) + (v2 : Int) < 2 := by omega
    refine wp_region_held_drew (S := fun wz => ∀ b o, b ≠ db → b < W1.heap.size → wz.cell? ⟨b, o, none⟩ = W1.cell? ⟨b, o, none⟩) (by kernel_rfl) (fun b o _ _ => rfl) (fun hHeld => ?_)
    refine wpAnyH_take (i := 0) (oi := _) (v := ?hdv69) rfl (by kernel_rfl) (by kernel_rfl) (by kernel_rfl) (fun _ _ _ h => h) (Or.inl ⟨by rfl, ?hdy69⟩) (by assumption) ?hdr69
    case hdy69 => (intro w hSw; (try dsimp only at hSw); go_simp; (try with_reducible rfl))
    (try simp only [Act.put, List.setIfInBounds_toArray, List.set_cons_zero, List.set_cons_succ])
    refine wpAnyH_take (i := 1) (oi := _) (v := ?hdv70) rfl (by kernel_rfl) (by kernel_rfl) (by kernel_rfl) (fun _ _ _ h => h) (Or.inl ⟨by rfl, ?hdy70⟩) (by assumption) ?hdr70
    case hdy70 => (intro w hSw; (try dsimp only at hSw); go_simp; (try with_reducible rfl))
    (try simp only [Act.put, List.setIfInBounds_toArray, List.set_cons_zero, List.set_cons_succ])
    refine wpAnyH_take (i := 2) (oi := _) (v := ?hdv71) rfl (by kernel_rfl) (by kernel_rfl) (by kernel_rfl) (fun _ _ _ h => h) (Or.inl ⟨by rfl, ?hdy71⟩) (by assumption) ?hdr71
    case hdy71 => (intro w hSw; (try dsimp only at hSw); go_simp; (try with_reducible rfl))
    (try simp only [Act.put, List.setIfInBounds_toArray, List.set_cons_zero, List.set_cons_succ])
    refine wpAnyH_take (i := 3) (oi := _) (v := ?hdv72) rfl (by kernel_rfl) (by kernel_rfl) (by kernel_rfl) (fun _ _ _ h => h) (Or.inl ⟨by rfl, ?hdy72⟩) (by assumption) ?hdr72
    case hdy72 => (intro w hSw; (try dsimp only at hSw); go_simp; (try with_reducible rfl))
    (try simp only [Act.put, List.setIfInBounds_toArray, List.set_cons_zero, List.set_cons_succ])
    refine wpAnyH_take (i := 4) (oi := _) (v := ?hdv73) rfl (by kernel_rfl) (by kernel_rfl) (by kernel_rfl) (fun _ _ _ h => h) (Or.inl ⟨by rfl, ?hdy73⟩) (by assumption) ?hdr73
    case hdy73 => (intro w hSw; (try dsimp only at hSw); go_simp; (try with_reducible rfl))
    (try simp only [Act.put, List.setIfInBounds_toArray, List.set_cons_zero, List.set_cons_succ])
    refine wpAnyH_take (i := 5) (oi := _) (v := ?hdv74) rfl (by kernel_rfl) (by kernel_rfl) (by kernel_rfl) (fun _ _ _ h => h) (Or.inl ⟨by rfl, ?hdy74⟩) (by assumption) ?hdr74
    case hdy74 => (intro w hSw; (try dsimp only at hSw); go_simp; (try with_reducible rfl))
    (try simp only [Act.put, List.setIfInBounds_toArray, List.set_cons_zero, List.set_cons_succ])
    refine wpAnyH_take (i := 6) (oi := _) (v := ?hdv75) rfl (by kernel_rfl) (by kernel_rfl) (by kernel_rfl) (fun _ _ _ h => h) (Or.inl ⟨by rfl, ?hdy75⟩) (by assumption) ?hdr75
    case hdy75 => (intro w hSw; (try dsimp only at hSw); go_simp; (try with_reducible rfl))
    (try simp only [Act.put, List.setIfInBounds_toArray, List.set_cons_zero, List.set_cons_succ])
    refine wpAnyH_take (i := 7) (oi := _) (v := ?hdv76) rfl (by kernel_rfl) (by kernel_rfl) (by kernel_rfl) (fun _ _ _ h => h) (Or.inl ⟨by rfl, ?hdy76⟩) (by assumption) ?hdr76
    case hdy76 => (intro w hSw; (try dsimp only at hSw); go_simp; (try with_reducible rfl))
    (try simp only [Act.put, List.setIfInBounds_toArray, List.set_cons_zero, List.set_cons_succ])
    refine wpAnyH_take (i := 8) (oi := _) (v := ?hdv77) rfl (by kernel_rfl) (by kernel_rfl) (by kernel_rfl) (fun _ _ _ h => h) (Or.inl ⟨by rfl, ?hdy77⟩) (by assumption) ?hdr77
    case hdy77 => (intro w hSw; (try dsimp only at hSw); go_simp; (try with_reducible rfl))
    (try simp only [Act.put, List.setIfInBounds_toArray, List.set_cons_zero, List.set_cons_succ])
    refine wpAnyH_take (i := 9) (oi := _) (v := ?hdv78) rfl (by kernel_rfl) (by kernel_rfl) (by kernel_rfl) (fun _ _ _ h => h) (Or.inl ⟨by rfl, ?hdy78⟩) (by assumption) ?hdr78
    case hdy78 => (intro w hSw; (try dsimp only at hSw); go_simp; (try with_reducible rfl))
    (try simp only [Act.put, List.setIfInBounds_toArray, List.set_cons_zero, List.set_cons_succ])
    refine wpAnyH_take (i := 10) (oi := _) (v := ?hdv79) rfl (by kernel_rfl) (by kernel_rfl) (by kernel_rfl) (fun _ _ _ h => h) (Or.inl ⟨by rfl, ?hdy79⟩) (by assumption) ?hdr79
    case hdy79 => (intro w hSw; (try dsimp only at hSw); go_simp; (try with_reducible rfl))
    (try simp only [Act.put, List.setIfInBounds_toArray, List.set_cons_zero, List.set_cons_succ])
    refine wpAnyH_take (i := 11) (oi := _) (v := ?hdv80) rfl (by kernel_rfl) (by kernel_rfl) (by kernel_rfl) (fun _ _ _ h => h) (Or.inl ⟨by rfl, ?hdy80⟩) (by assumption) ?hdr80
    case hdy80 => (intro w hSw; (try dsimp only at hSw); go_simp; (try with_reducible rfl))
    (try simp only [Act.put, List.setIfInBounds_toArray, List.set_cons_zero, List.set_cons_succ])
    refine wpAnyH_ready (rs := [12]) (by kernel_rfl) (by simp) ?_
    refine AllReadyH.cons (o := _) rfl (fun K hK => ?_) AllReadyH.nil
    go_simp
    ((with_reducible refine Calls.mono (broken_any db d f k 2 true _ HD.out.drew) ?_); rintro e w2 ⟨⟨x, rfl⟩, hdd, hcc⟩; (try go_wp2_with fail))
    refine Shut.out hK _ _ ?_ (fun hHeldN => ?_)
    · (exact fun b o hne hb => cell_heap (w := World.drew W1) (a := ⟨b, o, none⟩) (hcc.block b hb hne))
    ((try clear hK K); (try clear hHeld))
    (try simp only [Act.put, List.setIfInBounds_toArray, List.set_cons_zero, List.set_cons_succ])
    clear hHeldN
    refine wpAnyH_done (by kernel_rfl) ?_ _
    go_wp2
    go_end0
    exact ⟨⟨_, rfl⟩, hdd, HC.out.trans ⟨hcc.os, hcc.tape, hcc.output, hcc.size, hcc.block⟩⟩
  · rw [decide_eq_false h] at hbv
    subst hbv
    have h' : ¬ (v1 : Int) + (v2 : Int) < 2 := by omega
    refine wp_region_held_drew (S := fun wz => ∀ b o, b ≠ db → b < W1.heap.size → wz.cell? ⟨b, o, none⟩ = W1.cell? ⟨b, o, none⟩) (by kernel_rfl) (fun b o _ _ => rfl) (fun hHeld => ?_)
    refine wpAnyH_take (i := 0) (oi := _) (v := ?hdv81) rfl (by kernel_rfl) (by kernel_rfl) (by kernel_rfl) (fun _ _ _ h => h) (Or.inl ⟨by rfl, ?hdy81⟩) (by assumption) ?hdr81
    case hdy81 => (intro w hSw; (try dsimp only at hSw); go_simp; (try with_reducible rfl))
    (try simp only [Act.put, List.setIfInBounds_toArray, List.set_cons_zero, List.set_cons_succ])
    refine wpAnyH_take (i := 1) (oi := _) (v := ?hdv82) rfl (by kernel_rfl) (by kernel_rfl) (by kernel_rfl) (fun _ _ _ h => h) (Or.inl ⟨by rfl, ?hdy82⟩) (by assumption) ?hdr82
    case hdy82 => (intro w hSw; (try dsimp only at hSw); go_simp; (try with_reducible rfl))
    (try simp only [Act.put, List.setIfInBounds_toArray, List.set_cons_zero, List.set_cons_succ])
    refine wpAnyH_take (i := 2) (oi := _) (v := ?hdv83) rfl (by kernel_rfl) (by kernel_rfl) (by kernel_rfl) (fun _ _ _ h => h) (Or.inl ⟨by rfl, ?hdy83⟩) (by assumption) ?hdr83
    case hdy83 => (intro w hSw; (try dsimp only at hSw); go_simp; (try with_reducible rfl))
    (try simp only [Act.put, List.setIfInBounds_toArray, List.set_cons_zero, List.set_cons_succ])
    refine wpAnyH_take (i := 3) (oi := _) (v := ?hdv84) rfl (by kernel_rfl) (by kernel_rfl) (by kernel_rfl) (fun _ _ _ h => h) (Or.inl ⟨by rfl, ?hdy84⟩) (by assumption) ?hdr84
    case hdy84 => (intro w hSw; (try dsimp only at hSw); go_simp; (try with_reducible rfl))
    (try simp only [Act.put, List.setIfInBounds_toArray, List.set_cons_zero, List.set_cons_succ])
    refine wpAnyH_take (i := 4) (oi := _) (v := ?hdv85) rfl (by kernel_rfl) (by kernel_rfl) (by kernel_rfl) (fun _ _ _ h => h) (Or.inl ⟨by rfl, ?hdy85⟩) (by assumption) ?hdr85
    case hdy85 => (intro w hSw; (try dsimp only at hSw); go_simp; (try with_reducible rfl))
    (try simp only [Act.put, List.setIfInBounds_toArray, List.set_cons_zero, List.set_cons_succ])
    refine wpAnyH_take (i := 5) (oi := _) (v := ?hdv86) rfl (by kernel_rfl) (by kernel_rfl) (by kernel_rfl) (fun _ _ _ h => h) (Or.inl ⟨by rfl, ?hdy86⟩) (by assumption) ?hdr86
    case hdy86 => (intro w hSw; (try dsimp only at hSw); go_simp; (try with_reducible rfl))
    (try simp only [Act.put, List.setIfInBounds_toArray, List.set_cons_zero, List.set_cons_succ])
    refine wpAnyH_take (i := 6) (oi := _) (v := ?hdv87) rfl (by kernel_rfl) (by kernel_rfl) (by kernel_rfl) (fun _ _ _ h => h) (Or.inl ⟨by rfl, ?hdy87⟩) (by assumption) ?hdr87
    case hdy87 => (intro w hSw; (try dsimp only at hSw); go_simp; (try with_reducible rfl))
    (try simp only [Act.put, List.setIfInBounds_toArray, List.set_cons_zero, List.set_cons_succ])
    refine wpAnyH_take (i := 7) (oi := _) (v := ?hdv88) rfl (by kernel_rfl) (by kernel_rfl) (by kernel_rfl) (fun _ _ _ h => h) (Or.inl ⟨by rfl, ?hdy88⟩) (by assumption) ?hdr88
    case hdy88 => (intro w hSw; (try dsimp only at hSw); go_simp; (try with_reducible rfl))
    (try simp only [Act.put, List.setIfInBounds_toArray, List.set_cons_zero, List.set_cons_succ])
    refine wpAnyH_take (i := 8) (oi := _) (v := ?hdv89) rfl (by kernel_rfl) (by kernel_rfl) (by kernel_rfl) (fun _ _ _ h => h) (Or.inl ⟨by rfl, ?hdy89⟩) (by assumption) ?hdr89
    case hdy89 => (intro w hSw; (try dsimp only at hSw); go_simp; (try with_reducible rfl))
    (try simp only [Act.put, List.setIfInBounds_toArray, List.set_cons_zero, List.set_cons_succ])
    refine wpAnyH_take (i := 9) (oi := _) (v := ?hdv90) rfl (by kernel_rfl) (by kernel_rfl) (by kernel_rfl) (fun _ _ _ h => h) (Or.inl ⟨by rfl, ?hdy90⟩) (by assumption) ?hdr90
    case hdy90 => (intro w hSw; (try dsimp only at hSw); go_simp; (try with_reducible rfl))
    (try simp only [Act.put, List.setIfInBounds_toArray, List.set_cons_zero, List.set_cons_succ])
    refine wpAnyH_take (i := 10) (oi := _) (v := ?hdv91) rfl (by kernel_rfl) (by kernel_rfl) (by kernel_rfl) (fun _ _ _ h => h) (Or.inl ⟨by rfl, ?hdy91⟩) (by assumption) ?hdr91
    case hdy91 => (intro w hSw; (try dsimp only at hSw); go_simp; (try with_reducible rfl))
    (try simp only [Act.put, List.setIfInBounds_toArray, List.set_cons_zero, List.set_cons_succ])
    refine wpAnyH_take (i := 11) (oi := _) (v := ?hdv92) rfl (by kernel_rfl) (by kernel_rfl) (by kernel_rfl) (fun _ _ _ h => h) (Or.inl ⟨by rfl, ?hdy92⟩) (by assumption) ?hdr92
    case hdy92 => (intro w hSw; (try dsimp only at hSw); go_simp; (try with_reducible rfl))
    (try simp only [Act.put, List.setIfInBounds_toArray, List.set_cons_zero, List.set_cons_succ])
    refine wpAnyH_ready (rs := [12]) (by kernel_rfl) (by simp) ?_
    refine AllReadyH.cons (o := _) rfl (fun K hK => ?_) AllReadyH.nil
    go_simp
    ((with_reducible refine Calls.mono (broken_any db d f k 2 false _ HD.out.drew) ?_); rintro e w2 ⟨⟨x, rfl⟩, hdd, hcc⟩; (try go_wp2_with fail))
    refine Shut.out hK _ _ ?_ (fun hHeldN => ?_)
    · (exact fun b o hne hb => cell_heap (w := World.drew W1) (a := ⟨b, o, none⟩) (hcc.block b hb hne))
    ((try clear hK K); (try clear hHeld))
    (try simp only [Act.put, List.setIfInBounds_toArray, List.set_cons_zero, List.set_cons_succ])
    clear hHeldN
    refine wpAnyH_done (by kernel_rfl) ?_ _
    go_wp2
    go_end0
    exact ⟨⟨_, rfl⟩, hdd, HC.out.trans ⟨hcc.os, hcc.tape, hcc.output, hcc.size, hcc.block⟩⟩

/-- What a closure of the ring sees. -/
structure Env2 (w : World) (pb tb bb db sb so rb n cs ct cb : Nat) (ss : List St) : Prop where
  p : w.cell? ⟨pb, 0, none⟩ = some (.pointer (some ⟨db, 0, none⟩))
  t : w.cell? ⟨tb, 0, none⟩ = some (.slice (some ⟨rb, 0, none⟩) n ct)
  b : w.cell? ⟨bb, 0, none⟩ = some (.slice (some ⟨rb, n, none⟩) n cb)
  s : IsSts w (some ⟨sb, so, none⟩) sb so ss
  np : pb ≠ db ∧ pb ≠ rb
  nt : tb ≠ db ∧ tb ≠ rb
  nb : bb ≠ db ∧ bb ≠ rb
  ns : 0 < ss.length → sb ≠ db ∧ sb ≠ rb
  nd : db ≠ rb

theorem Env2.keep {w w' : World} {pb tb bb db sb so rb n cs ct cb : Nat} {ss : List St} (h : Env2 w pb tb bb db sb so rb n cs ct cb ss) (hk : ∀ j, j < w.heap.size → j ≠ db → j ≠ rb → w'.heap[j]? = w.heap[j]?) (hz : w.heap.size ≤ w'.heap.size) : Env2 w' pb tb bb db sb so rb n cs ct cb ss where
  p := (cell_heap (a := ⟨pb, 0, none⟩) (hk _ (World.block_lt_of_cell? w _ h.p) h.np.1 h.np.2)).trans h.p
  t := (cell_heap (a := ⟨tb, 0, none⟩) (hk _ (World.block_lt_of_cell? w _ h.t) h.nt.1 h.nt.2)).trans h.t
  b := (cell_heap (a := ⟨bb, 0, none⟩) (hk _ (World.block_lt_of_cell? w _ h.b) h.nb.1 h.nb.2)).trans h.b
  s := h.s.keep (fun h0 => hk _ (h.s.lt h0) (h.ns h0).1 (h.ns h0).2) hz
  np := h.np
  nt := h.nt
  nb := h.nb
  ns := h.ns
  nd := h.nd
theorem Env2.chg {w w' : World} {pb tb bb db sb so rb n cs ct cb : Nat} {ss : List St} (h : Env2 w pb tb bb db sb so rb n cs ct cb ss) (hc : Chg (Two db rb) w w') : Env2 w' pb tb bb db sb so rb n cs ct cb ss :=
  h.keep (fun j hj h1 h2 => hc.block j hj (fun e => e.elim h1 h2)) hc.size

set_option maxHeartbeats 1000000 in
theorem f67_any (pb tb bb db sb so rb n cs ct cb : Nat) (ss : List St) (d : Dk) (f : Fd) (l : List Nat) (k : Nat) (s : St) (w : World)
    (hE : Env2 w pb tb bb db sb so rb n cs ct cb ss) (hnl : n + n ≤ l.length) (hs : s.a0 < n)
    (hd : isBlk w db 75 (d.cells f)) (hw : Wds w rb l) :
    Calls Try.prog 67 #[.int .u32 k, s.val, .pointer (some ⟨pb, 0, none⟩), .pointer (some ⟨tb, 0, none⟩)] w fun e w' =>
      (∃ x, e = .returned x) ∧ isBlk w' db 75 (d.cells (noted f k 3 (l.getD s.a0 0 == 0))) ∧ Chg (fun j => j = db) w w' := by
  obtain ⟨l0, s1, s2, s3, s4, s5, s6, s7⟩ := s
  unfold St.val
  simp only [] at hs ⊢
  have hE1 := hE.keep (w' := w.alloc (.cells #[.int .u64 l0, .int .u64 s1, .int .u64 s2, .int .u64 s3, .int .u64 s4, .int .u64 s5, .int .u64 s6, .int .u64 s7] 56)) (fun j hj _ _ => Below.heap_alloc _ _ _ hj) (by simp)
  have hd1 := hd.old (.cells #[.int .u64 l0, .int .u64 s1, .int .u64 s2, .int .u64 s3, .int .u64 s4, .int .u64 s5, .int .u64 s6, .int .u64 s7] 56)
  have hw1 := hw.all (.cells #[.int .u64 l0, .int .u64 s1, .int .u64 s2, .int .u64 s3, .int .u64 s4, .int .u64 s5, .int .u64 s6, .int .u64 s7] 56)
  have hc1 := (Chg.refl (fun j => j = db) w).all (.cells #[.int .u64 l0, .int .u64 s1, .int .u64 s2, .int .u64 s3, .int .u64 s4, .int .u64 s5, .int .u64 s6, .int .u64 s7] 56)
  have x0 : (w.alloc (.cells #[.int .u64 l0, .int .u64 s1, .int .u64 s2, .int .u64 s3, .int .u64 s4, .int .u64 s5, .int .u64 s6, .int .u64 s7] 56)).cell? ⟨w.heap.size, 0, none⟩ = some (.int .u64 l0) := (isBlk.new w 56 [.int .u64 l0, .int .u64 s1, .int .u64 s2, .int .u64 s3, .int .u64 s4, .int .u64 s5, .int .u64 s6, .int .u64 s7]).cell 0
  obtain ⟨bv, hbv⟩ : ∃ bv, (l.getD l0 0 == 0) = bv := ⟨_, rfl⟩
  rw [hbv]
  go_enter Try.func67, Try.ntmps67
  go_wp2
  obtain ⟨W1, hW1⟩ : ∃ W1, w.alloc (.cells #[.int .u64 l0, .int .u64 s1, .int .u64 s2, .int .u64 s3, .int .u64 s4, .int .u64 s5, .int .u64 s6, .int .u64 s7] 56) = W1 := ⟨_, rfl⟩
  have hsz1 : w.heap.size < W1.heap.size := by rw [← hW1]; simp
  have hsz2 : w.heap.size ≠ db := by have := hd.lt; omega
  rw [hW1] at hE1 hd1 hw1 hc1 x0 ⊢
  clear hW1 hE hd hw
  have cp := hE1.p
  have ct' := hE1.t
  have bp := World.block_lt_of_cell? W1 _ cp
  have bt := World.block_lt_of_cell? W1 _ ct'
  simp only [] at bp bt
  have hnp := hE1.np.1
  have hnt := hE1.nt.1
  have hnr : rb ≠ db := fun e => hE1.nd e.symm
  have r1 := hw1.c l0 (by omega)
  rw [getD_get (by omega)] at r1
  have hrl := hw1.lt
  have HC := Lib.hid hc1
  have HD := Lib.hid hd1
  have hki : (l0 : Int) < n := by omega
  have hki0 : (0 : Int) ≤ l0 := Int.natCast_nonneg _
  clear hE1 hd1 hw1 hc1
  generalize l.getD l0 0 = v1 at *
  generalize w.heap.size = xb at *
  by_cases h : v1 = 0
  · rw [show (v1 == 0) = true from beq_iff_eq.2 h] at hbv
    subst hbv
    have h' : ((v1 : Int) == 0) = true := by rw [beq_iff_eq]; omega
    clear h
    refine wp_region_held_drew (S := fun wz => ∀ b o, b ≠ db → b < W1.heap.size → wz.cell? ⟨b, o, none⟩ = W1.cell? ⟨b, o, none⟩) (by kernel_rfl) (fun b o _ _ => rfl) (fun hHeld => ?_)
    refine wpAnyH_take (i := 0) (oi := _) (v := ?hdv93) rfl (by kernel_rfl) (by kernel_rfl) (by kernel_rfl) (fun _ _ _ h => h) (Or.inl ⟨by rfl, ?hdy93⟩) (by assumption) ?hdr93
    case hdy93 => (intro w hSw; (try dsimp only at hSw); go_simp; (try with_reducible rfl))
    (try simp only [Act.put, List.setIfInBounds_toArray, List.set_cons_zero, List.set_cons_succ])
    refine wpAnyH_take (i := 1) (oi := _) (v := ?hdv94) rfl (by kernel_rfl) (by kernel_rfl) (by kernel_rfl) (fun _ _ _ h => h) (Or.inl ⟨by rfl, ?hdy94⟩) (by assumption) ?hdr94
    case hdy94 => (intro w hSw; (try dsimp only at hSw); go_simp; (try with_reducible rfl))
    (try simp only [Act.put, List.setIfInBounds_toArray, List.set_cons_zero, List.set_cons_succ])
    refine wpAnyH_take (i := 2) (oi := _) (v := ?hdv95) rfl (by kernel_rfl) (by kernel_rfl) (by kernel_rfl) (fun _ _ _ h => h) (Or.inl ⟨by rfl, ?hdy95⟩) (by assumption) ?hdr95
    case hdy95 => (intro w hSw; (try dsimp only at hSw); go_simp; (try with_reducible rfl))
    (try simp only [Act.put, List.setIfInBounds_toArray, List.set_cons_zero, List.set_cons_succ])
    refine wpAnyH_take (i := 3) (oi := _) (v := ?hdv96) rfl (by kernel_rfl) (by kernel_rfl) (by kernel_rfl) (fun _ _ _ h => h) (Or.inl ⟨by rfl, ?hdy96⟩) (by assumption) ?hdr96
    case hdy96 => (intro w hSw; (try dsimp only at hSw); go_simp; (try with_reducible rfl))
    (try simp only [Act.put, List.setIfInBounds_toArray, List.set_cons_zero, List.set_cons_succ])
    refine wpAnyH_take (i := 4) (oi := _) (v := ?hdv97) rfl (by kernel_rfl) (by kernel_rfl) (by kernel_rfl) (fun _ _ _ h => h) (Or.inl ⟨by rfl, ?hdy97⟩) (by assumption) ?hdr97
    case hdy97 => (intro w hSw; (try dsimp only at hSw); go_simp; (try with_reducible rfl))
    (try simp only [Act.put, List.setIfInBounds_toArray, List.set_cons_zero, List.set_cons_succ])
    refine wpAnyH_take (i := 5) (oi := _) (v := ?hdv98) rfl (by kernel_rfl) (by kernel_rfl) (by kernel_rfl) (fun _ _ _ h => h) (Or.inl ⟨by rfl, ?hdy98⟩) (by assumption) ?hdr98
    case hdy98 => (intro w hSw; (try dsimp only at hSw); go_simp; (try with_reducible rfl))
    (try simp only [Act.put, List.setIfInBounds_toArray, List.set_cons_zero, List.set_cons_succ])
    refine wpAnyH_take (i := 6) (oi := _) (v := ?hdv99) rfl (by kernel_rfl) (by kernel_rfl) (by kernel_rfl) (fun _ _ _ h => h) (Or.inl ⟨by rfl, ?hdy99⟩) (by assumption) ?hdr99
    case hdy99 => (intro w hSw; (try dsimp only at hSw); go_simp; (try with_reducible rfl))
    (try simp only [Act.put, List.setIfInBounds_toArray, List.set_cons_zero, List.set_cons_succ])
    refine wpAnyH_take (i := 7) (oi := _) (v := ?hdv100) rfl (by kernel_rfl) (by kernel_rfl) (by kernel_rfl) (fun _ _ _ h => h) (Or.inl ⟨by rfl, ?hdy100⟩) (by assumption) ?hdr100
    case hdy100 => (intro w hSw; (try dsimp only at hSw); go_simp; (try with_reducible rfl))
    (try simp only [Act.put, List.setIfInBounds_toArray, List.set_cons_zero, List.set_cons_succ])
    refine wpAnyH_ready (rs := [8]) (by kernel_rfl) (by simp) ?_
    refine AllReadyH.cons (o := _) rfl (fun K hK => ?_) AllReadyH.nil
    go_simp
    ((with_reducible refine Calls.mono (broken_any db d f k 3 true _ HD.out.drew) ?_); rintro e w2 ⟨⟨x, rfl⟩, hdd, hcc⟩; (try go_wp2_with fail))
    refine Shut.out hK _ _ ?_ (fun hHeldN => ?_)
    · (exact fun b o hne hb => cell_heap (w := World.drew W1) (a := ⟨b, o, none⟩) (hcc.block b hb hne))
    ((try clear hK K); (try clear hHeld))
    (try simp only [Act.put, List.setIfInBounds_toArray, List.set_cons_zero, List.set_cons_succ])
    clear hHeldN
    refine wpAnyH_done (by kernel_rfl) ?_ _
    go_wp2
    go_end0
    exact ⟨⟨_, rfl⟩, hdd, HC.out.trans ⟨hcc.os, hcc.tape, hcc.output, hcc.size, hcc.block⟩⟩
  · rw [show (v1 == 0) = false from beq_eq_false_iff_ne.2 h] at hbv
    subst hbv
    have h' : ((v1 : Int) == 0) = false := by rw [beq_eq_false_iff_ne]; omega
    clear h
    refine wp_region_held_drew (S := fun wz => ∀ b o, b ≠ db → b < W1.heap.size → wz.cell? ⟨b, o, none⟩ = W1.cell? ⟨b, o, none⟩) (by kernel_rfl) (fun b o _ _ => rfl) (fun hHeld => ?_)
    refine wpAnyH_take (i := 0) (oi := _) (v := ?hdv101) rfl (by kernel_rfl) (by kernel_rfl) (by kernel_rfl) (fun _ _ _ h => h) (Or.inl ⟨by rfl, ?hdy101⟩) (by assumption) ?hdr101
    case hdy101 => (intro w hSw; (try dsimp only at hSw); go_simp; (try with_reducible rfl))
    (try simp only [Act.put, List.setIfInBounds_toArray, List.set_cons_zero, List.set_cons_succ])
    refine wpAnyH_take (i := 1) (oi := _) (v := ?hdv102) rfl (by kernel_rfl) (by kernel_rfl) (by kernel_rfl) (fun _ _ _ h => h) (Or.inl ⟨by rfl, ?hdy102⟩) (by assumption) ?hdr102
    case hdy102 => (intro w hSw; (try dsimp only at hSw); go_simp; (try with_reducible rfl))
    (try simp only [Act.put, List.setIfInBounds_toArray, List.set_cons_zero, List.set_cons_succ])
    refine wpAnyH_take (i := 2) (oi := _) (v := ?hdv103) rfl (by kernel_rfl) (by kernel_rfl) (by kernel_rfl) (fun _ _ _ h => h) (Or.inl ⟨by rfl, ?hdy103⟩) (by assumption) ?hdr103
    case hdy103 => (intro w hSw; (try dsimp only at hSw); go_simp; (try with_reducible rfl))
    (try simp only [Act.put, List.setIfInBounds_toArray, List.set_cons_zero, List.set_cons_succ])
    refine wpAnyH_take (i := 3) (oi := _) (v := ?hdv104) rfl (by kernel_rfl) (by kernel_rfl) (by kernel_rfl) (fun _ _ _ h => h) (Or.inl ⟨by rfl, ?hdy104⟩) (by assumption) ?hdr104
    case hdy104 => (intro w hSw; (try dsimp only at hSw); go_simp; (try with_reducible rfl))
    (try simp only [Act.put, List.setIfInBounds_toArray, List.set_cons_zero, List.set_cons_succ])
    refine wpAnyH_take (i := 4) (oi := _) (v := ?hdv105) rfl (by kernel_rfl) (by kernel_rfl) (by kernel_rfl) (fun _ _ _ h => h) (Or.inl ⟨by rfl, ?hdy105⟩) (by assumption) ?hdr105
    case hdy105 => (intro w hSw; (try dsimp only at hSw); go_simp; (try with_reducible rfl))
    (try simp only [Act.put, List.setIfInBounds_toArray, List.set_cons_zero, List.set_cons_succ])
    refine wpAnyH_take (i := 5) (oi := _) (v := ?hdv106) rfl (by kernel_rfl) (by kernel_rfl) (by kernel_rfl) (fun _ _ _ h => h) (Or.inl ⟨by rfl, ?hdy106⟩) (by assumption) ?hdr106
    case hdy106 => (intro w hSw; (try dsimp only at hSw); go_simp; (try with_reducible rfl))
    (try simp only [Act.put, List.setIfInBounds_toArray, List.set_cons_zero, List.set_cons_succ])
    refine wpAnyH_take (i := 6) (oi := _) (v := ?hdv107) rfl (by kernel_rfl) (by kernel_rfl) (by kernel_rfl) (fun _ _ _ h => h) (Or.inl ⟨by rfl, ?hdy107⟩) (by assumption) ?hdr107
    case hdy107 => (intro w hSw; (try dsimp only at hSw); go_simp; (try with_reducible rfl))
    (try simp only [Act.put, List.setIfInBounds_toArray, List.set_cons_zero, List.set_cons_succ])
    refine wpAnyH_take (i := 7) (oi := _) (v := ?hdv108) rfl (by kernel_rfl) (by kernel_rfl) (by kernel_rfl) (fun _ _ _ h => h) (Or.inl ⟨by rfl, ?hdy108⟩) (by assumption) ?hdr108
    case hdy108 => (intro w hSw; (try dsimp only at hSw); go_simp; (try with_reducible rfl))
    (try simp only [Act.put, List.setIfInBounds_toArray, List.set_cons_zero, List.set_cons_succ])
    refine wpAnyH_ready (rs := [8]) (by kernel_rfl) (by simp) ?_
    refine AllReadyH.cons (o := _) rfl (fun K hK => ?_) AllReadyH.nil
    go_simp
    ((with_reducible refine Calls.mono (broken_any db d f k 3 false _ HD.out.drew) ?_); rintro e w2 ⟨⟨x, rfl⟩, hdd, hcc⟩; (try go_wp2_with fail))
    refine Shut.out hK _ _ ?_ (fun hHeldN => ?_)
    · (exact fun b o hne hb => cell_heap (w := World.drew W1) (a := ⟨b, o, none⟩) (hcc.block b hb hne))
    ((try clear hK K); (try clear hHeld))
    (try simp only [Act.put, List.setIfInBounds_toArray, List.set_cons_zero, List.set_cons_succ])
    clear hHeldN
    refine wpAnyH_done (by kernel_rfl) ?_ _
    go_wp2
    go_end0
    exact ⟨⟨_, rfl⟩, hdd, HC.out.trans ⟨hcc.os, hcc.tape, hcc.output, hcc.size, hcc.block⟩⟩

def ledL (ss : List St) (n : Nat) (e : Ed) (l : List Nat) : List Nat :=
  if lab ss e.src ≠ lab ss e.dst ∧ l.getD (lab ss e.src) 0 = 0 then l.set (n + lab ss e.dst) 1 else l

set_option maxHeartbeats 1000000 in
theorem f66_any (pb tb bb db sb so rb n cs ct cb : Nat) (ss : List St) (d : Dk) (f : Fd) (l : List Nat) (x : Ed) (w : World)
    (hE : Env2 w pb tb bb db sb so rb n cs ct cb ss) (hsl : d.sl = .slice (some ⟨sb, so, none⟩) n cs) (hn : ss.length = n) (hnl : n + n ≤ l.length) (hx : Valid n x) (hlab : ∀ v, v < n → lab ss v < n)
    (hd : isBlk w db 75 (d.cells f)) (hw : Wds w rb l) :
    Calls Try.prog 66 #[.agg #[.int .u32 x.src, .int .u32 x.dst, .int .u32 x.w], .pointer (some ⟨pb, 0, none⟩), .pointer (some ⟨tb, 0, none⟩), .pointer (some ⟨bb, 0, none⟩)] w fun e w' =>
      (∃ x, e = .returned x) ∧ isBlk w' db 75 (d.cells f) ∧ Wds w' rb (ledL ss n x l) ∧ Chg (fun j => j = rb) w w' := by
  obtain ⟨src, dst, x3⟩ := x
  obtain ⟨hx1, hx2⟩ := hx
  simp only [] at hx1 hx2 ⊢
  have hE1 := hE.keep (w' := w.alloc (.cells #[.int .u32 src, .int .u32 dst, .int .u32 x3] 71)) (fun j hj _ _ => Below.heap_alloc _ _ _ hj) (by simp)
  have hd1 := hd.old (.cells #[.int .u32 src, .int .u32 dst, .int .u32 x3] 71)
  have hw1 := hw.all (.cells #[.int .u32 src, .int .u32 dst, .int .u32 x3] 71)
  have hc1 := (Chg.refl (fun j => j = rb) w).all (.cells #[.int .u32 src, .int .u32 dst, .int .u32 x3] 71)
  have x0 : (w.alloc (.cells #[.int .u32 src, .int .u32 dst, .int .u32 x3] 71)).cell? ⟨w.heap.size, 0, none⟩ = some (.int .u32 src) := (isBlk.new w 71 [.int .u32 src, .int .u32 dst, .int .u32 x3]).cell 0
  have x1 : (w.alloc (.cells #[.int .u32 src, .int .u32 dst, .int .u32 x3] 71)).cell? ⟨w.heap.size, 1, none⟩ = some (.int .u32 dst) := (isBlk.new w 71 [.int .u32 src, .int .u32 dst, .int .u32 x3]).cell 1
  go_enter Try.func66, Try.ntmps66
  go_wp2
  obtain ⟨W1, hW1⟩ : ∃ W1, w.alloc (.cells #[.int .u32 src, .int .u32 dst, .int .u32 x3] 71) = W1 := ⟨_, rfl⟩
  have hsz1 : w.heap.size < W1.heap.size := by rw [← hW1]; simp
  rw [hW1] at hE1 hd1 hw1 hc1 x0 x1 ⊢
  clear hW1 hE hd hw
  have cp := hE1.p
  have ct' := hE1.t
  have cb' := hE1.b
  have cd : W1.cell? ⟨db, 3, none⟩ = some (.slice (some ⟨sb, so, none⟩) n cs) := by rw [← hsl]; exact hd1.cell 3
  have bp := World.block_lt_of_cell? W1 _ cp
  have bt := World.block_lt_of_cell? W1 _ ct'
  have bb' := World.block_lt_of_cell? W1 _ cb'
  have hdl := hd1.lt
  simp only [] at bp bt bb'
  have hlsb := hE1.s.lt (by omega)
  have l0 := hE1.s.c0 src (by omega)
  have l1 := hE1.s.c0 dst (by omega)
  rw [lab_get (by omega : src < ss.length)] at l0
  rw [lab_get (by omega : dst < ss.length)] at l1
  have hb1 := hlab src hx1
  have hb2 := hlab dst hx2
  have hnd := hE1.nd
  have HL : Hid (∀ (w' : World), isBlk w' db 75 (d.cells f) → (lab ss src ≠ lab ss dst ∧ l.getD (lab ss src) 0 = 0 → Wds w' rb (l.set (n + lab ss dst) 1)) → (¬ (lab ss src ≠ lab ss dst ∧ l.getD (lab ss src) 0 = 0) → Wds w' rb l) → Chg (fun j => j = rb) w w' → isBlk w' db 75 (d.cells f) ∧ Wds w' rb (ledL ss n ⟨src, dst, x3⟩ l) ∧ Chg (fun j => j = rb) w w') := Lib.hid (by
    intro w' h1 h2 h3 h4
    unfold ledL
    by_cases hc : lab ss src ≠ lab ss dst ∧ l.getD (lab ss src) 0 = 0
    · rw [if_pos hc]; exact ⟨h1, h2 hc, h4⟩
    · rw [if_neg hc]; exact ⟨h1, h3 hc, h4⟩)
  have r1 := hw1.c (lab ss src) (by omega)
  rw [getD_get (by omega)] at r1
  have r2 := hw1.c (n + lab ss dst) (by omega)
  rw [getD_get (by omega)] at r2
  have g2 := hw1.f (n + lab ss dst)
  have hrl := hw1.lt
  have HW := Lib.hid hw1
  have HC := Lib.hid hc1
  have HD := Lib.hid hd1
  clear hE1 hd1 hw1 hc1 hlab hsl
  generalize lab ss src = ta at *
  generalize lab ss dst = tb' at *
  generalize l.getD ta 0 = v1 at *
  generalize w.heap.size = xb at *
  have hs0 : (src : Int) < n := by omega
  have hs1 : (dst : Int) < n := by omega
  have hs2 : (0 : Int) ≤ src := Int.natCast_nonneg _
  have hs3 : (0 : Int) ≤ dst := Int.natCast_nonneg _
  have hs4 : (ta : Int) < n := by omega
  have hs5 : (tb' : Int) < n := by omega
  have hs6 : (0 : Int) ≤ ta := Int.natCast_nonneg _
  have hs7 : (0 : Int) ≤ tb' := Int.natCast_nonneg _
  go_region_held3 (fun wz => ∀ b o, b < W1.heap.size → wz.cell? ⟨b, o, none⟩ = W1.cell? ⟨b, o, none⟩)
    ((intro b o hb; rfl))
    (fail)
  repeat (rename (∀ b o, b < W1.heap.size → World.cell? _ ⟨b, o, none⟩ = _) => hSS; clear hSS)
  by_cases ha : ta = tb'
  · have ha' : ((ta : Int) != (tb' : Int)) = false := by rw [bne_eq_false_iff_eq]; omega
    have H4 := Lib.hid (HL.out _ HD.out.drawn (fun h => absurd ha h.1) (fun _ => HW.out.drew) HC.out.dr)
    clear ha HL
    go_wp2
    go_end0
    exact ⟨⟨_, rfl⟩, H4.out⟩
  · have ha' : ((ta : Int) != (tb' : Int)) = true := by rw [bne_iff_ne]; omega
    by_cases hv : v1 = 0
    · have hv' : ((v1 : Int) == 0) = true := by rw [beq_iff_eq]; omega
      have H4 := Lib.hid (HL.out _ (HD.out.drawn.other (p := ⟨rb, n + tb', none⟩) (v := .int .u64 (1 : Nat)) hnd) (fun _ => HW.out.drew.set (n + tb') 1 (by omega)) (fun h => absurd ⟨ha, hv⟩ h) (HC.out.dr.set (p := ⟨rb, n + tb', none⟩) (Or.inl rfl) (.int .u64 (1 : Nat))))
      clear ha hv HL
      go_wp2
      go_end0
      exact ⟨⟨_, rfl⟩, H4.out⟩
    · have hv' : ((v1 : Int) == 0) = false := by rw [beq_eq_false_iff_ne]; omega
      have H4 := Lib.hid (HL.out _ HD.out.drawn (fun h => absurd h.2 hv) (fun _ => HW.out.drew) HC.out.dr)
      clear ha hv HL
      go_wp2
      go_end0
      exact ⟨⟨_, rfl⟩, H4.out⟩

end Go.Proofs.Ytohmeobfiomfdaa
