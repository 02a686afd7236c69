/-
  The size and the graph of a case: the walk.
-/
import Derived.Test.YtohmeobfiomfdaaStates
import Derived.Test.YtohmeobfiomfdaaSccs
import Derived.Deep.CutRange
namespace Go.Proofs.Ytohmeobfiomfdaa
open Go.RowKit Go.Shelf
set_option maxRecDepth 100000

def szN (n : Nat) : Nat := min (max n 1) 60
theorem szN_pos (n : Nat) : 1 ≤ szN n := by unfold szN; omega
theorem szN_le (n : Nat) : szN n ≤ 60 := by unfold szN; omega
theorem size_any (n sl sc el ec : Nat) (sa ea : Option Addr) (beh room : Int) (x5 x6 x7 x8 x9 x10 x11 x12 x13 : Value) (w : World) (hn : n ≤ 4294967295) : Calls Try.prog 22 #[.agg #[.int .u32 n, .slice sa sl sc, .slice ea el ec, .int .i64 beh, .int .i64 room, x5, x6, x7, x8, x9, x10, x11, x12, x13]] w fun e w' => e = .returned (.int .u32 (szN n)) ∧ Below w.heap.size w w' := by
  rcases (show n = 0 ∨ (1 ≤ n ∧ n ≤ 60) ∨ 60 < n by omega) with h | ⟨h1, h2⟩ | h
  · subst h
    go_enter Try.func22, Try.ntmps22
    go_wp2
    go_ret
    exact ⟨rfl, (by repeat (first | with_reducible exact Below.refl _ _ | with_reducible assumption | with_reducible refine below_drewN ?_ _ | with_reducible refine Below.drew ?_ | ((with_reducible refine Bset ?_ ?_); focus (first | omega | (simp; done) | (simp; omega))) | ((with_reducible refine Ball ?_ ?_); focus (first | omega | (simp; done) | (simp; omega)))))⟩
  · have hs : szN n = n := by unfold szN; omega
    rw [hs]
    rcases (show n = 1 ∨ n = 60 ∨ (1 < n ∧ n < 60) by omega) with h | h | ⟨h3, h4⟩
    · subst h
      go_enter Try.func22, Try.ntmps22
      go_wp2
      go_ret
      exact ⟨rfl, (by repeat (first | with_reducible exact Below.refl _ _ | with_reducible assumption | with_reducible refine below_drewN ?_ _ | with_reducible refine Below.drew ?_ | ((with_reducible refine Bset ?_ ?_); focus (first | omega | (simp; done) | (simp; omega))) | ((with_reducible refine Ball ?_ ?_); focus (first | omega | (simp; done) | (simp; omega)))))⟩
    · subst h
      go_enter Try.func22, Try.ntmps22
      go_wp2
      go_ret
      exact ⟨rfl, (by repeat (first | with_reducible exact Below.refl _ _ | with_reducible assumption | with_reducible refine below_drewN ?_ _ | with_reducible refine Below.drew ?_ | ((with_reducible refine Bset ?_ ?_); focus (first | omega | (simp; done) | (simp; omega))) | ((with_reducible refine Ball ?_ ?_); focus (first | omega | (simp; done) | (simp; omega)))))⟩
    · have i1 : (1 : Int) < n := by omega
      have i2 : (n : Int) < 60 := by omega
      have i3 : ¬ (n : Int) < 1 := by omega
      have i4 : ¬ (60 : Int) < n := by omega
      have i5 : ¬ (n : Int) ≤ 1 := by omega
      have i6 : ¬ (60 : Int) ≤ n := by omega
      have w1 : IntKind.i64.wrap (n : Int) = (n : Int) := IntWalk.i64_in _ (by omega)
      have w2 : IntKind.u32.wrap (n : Int) = (n : Int) := IntWalk.u32_in _ (by omega)
      clear hs h1 h2 h3 h4
      go_enter Try.func22, Try.ntmps22
      go_wp2
      go_ret
      exact ⟨rfl, (by repeat (first | with_reducible exact Below.refl _ _ | with_reducible assumption | with_reducible refine below_drewN ?_ _ | with_reducible refine Below.drew ?_ | ((with_reducible refine Bset ?_ ?_); focus (first | omega | (simp; done) | (simp; omega))) | ((with_reducible refine Ball ?_ ?_); focus (first | omega | (simp; done) | (simp; omega)))))⟩
  · have hs : szN n = 60 := by unfold szN; omega
    rw [hs]
    have i1 : (1 : Int) < n := by omega
    have i2 : (60 : Int) < n := by omega
    have i3 : ¬ (n : Int) < 1 := by omega
    have i4 : ¬ (n : Int) < 60 := by omega
    have i5 : ¬ (n : Int) ≤ 1 := by omega
    have i6 : ¬ (n : Int) ≤ 60 := by omega
    have w1 : IntKind.i64.wrap (n : Int) = (n : Int) := IntWalk.i64_in _ (by omega)
    clear hs h
    go_enter Try.func22, Try.ntmps22
    go_wp2
    go_ret
    exact ⟨rfl, (by repeat (first | with_reducible exact Below.refl _ _ | with_reducible assumption | with_reducible refine below_drewN ?_ _ | with_reducible refine Below.drew ?_ | ((with_reducible refine Bset ?_ ?_); focus (first | omega | (simp; done) | (simp; omega))) | ((with_reducible refine Ball ?_ ?_); focus (first | omega | (simp; done) | (simp; omega)))))⟩

theorem own_b {w w' : World} {B e size n : Nat} {v : Value} {xs : List Value} (h : w.ownsRow B e size v n xs) (hb : Below w.heap.size w w') : w'.ownsRow B e size v n xs := by
  rcases h.2 with ⟨rfl, hn⟩ | ⟨g, cap, cur, rfl, hg, hh, r⟩
  · exact ⟨h.1, Or.inl ⟨rfl, hn⟩⟩
  · have hl := (h.lt g rfl).2
    exact ⟨h.1, Or.inr ⟨g, cap, cur, rfl, hg, by rw [hb.block g hl]; exact hh, r⟩⟩
theorem eds_own {w : World} {base n : Nat} {v : Value} {es : List Ed} (h : w.ownsRow base 71 3 v n (edCells es)) (hn : n = es.length) : ∃ (a : Option Addr) (g cap : Nat), v = .slice a es.length cap ∧ IsEds w a g 0 es := by
  subst hn
  by_cases h0 : 0 < es.length
  · obtain ⟨g, cap, rfl, _, hg⟩ := h.form h0
    have hx := edCells_get es
    refine ⟨_, g, cap, rfl, ⟨fun _ => rfl, fun _ => hg, fun j hj => ?_, fun j hj => ?_, fun j hj => ?_⟩⟩
    · rw [Nat.zero_add, h.cellAt _ (by omega)]; exact (hx j hj).1
    · rw [Nat.zero_add, h.cellAt _ (by omega)]; exact (hx j hj).2.1
    · rw [Nat.zero_add, h.cellAt _ (by omega)]; exact (hx j hj).2.2
  · have he : es = [] := List.length_eq_zero_iff.1 (by omega)
    subst he
    rcases h.2 with ⟨rfl, _⟩ | ⟨g, cap, cur, rfl, _⟩
    · exact ⟨none, 0, 0, rfl, IsEds.none _ _ _ _⟩
    · exact ⟨some ⟨g, 0, none⟩, 0, cap, rfl, IsEds.none _ _ _ _⟩

/-- The edges of a small graph. -/
def graphE (s : Nat) (es : List Ed) (k : Nat) : List Ed := (es.take k).map fun e => ⟨e.src % s, e.dst % s, 0⟩
theorem graphE_succ {s : Nat} {es : List Ed} {k : Nat} (hk : k < es.length) : graphE s es (k + 1) = graphE s es k ++ [⟨es[k].src % s, es[k].dst % s, 0⟩] := by
  unfold graphE; rw [List.take_succ_eq_append_getElem hk, List.map_append]; rfl
theorem graphE_len {s : Nat} {es : List Ed} {k : Nat} (hk : k ≤ es.length) : (graphE s es k).length = k := by unfold graphE; simp; omega
theorem graphE_valid {s : Nat} (hs : 1 ≤ s) (es : List Ed) (k : Nat) : ∀ e, e ∈ graphE s es k → Valid s e := by
  intro e he
  unfold graphE at he
  obtain ⟨x, _, rfl⟩ := List.mem_map.1 he
  exact ⟨Nat.mod_lt _ (by omega), Nat.mod_lt _ (by omega)⟩

theorem kE_of {W X : World} {rb : Nat} (h : Chg (fun j => j = rb) W X) : ∀ b o, b ≠ rb → b < W.heap.size → X.cell? ⟨b, o, none⟩ = W.cell? ⟨b, o, none⟩ := fun b o hb hx => cell_heap (a := ⟨b, o, none⟩) (h.block b hx hb)
theorem Chg.eset {wb : Nat} {W X : World} (h : Chg (fun j => j = wb) W X) {o : Nat} (v : Value) : Chg (fun j => j = wb) W (X.setCell ⟨wb, o, none⟩ v) := h.set (Or.inl rfl) v

/-- The graph lies in memory of its own. -/
def GraphAt (w w' : World) (a : Option Addr) (cap : Nat) (es : List Ed) : Prop := ∃ g, IsEds w' a g 0 es ∧ 0 ≤ cap ∧ Below w.heap.size w w'

set_option maxHeartbeats 8000000 in
theorem graph_any (n sl sc eb eo ec : Nat) (sa ea : Option Addr) (beh room : Int) (x5 x6 x7 x8 x9 x10 x11 x12 x13 : Value) (es : List Ed) (w : World) (hn : n ≤ 4294967295) (hE : IsEds w ea eb eo es) (hel : es.length ≤ 1048576) :
    Calls Try.prog 23 #[.agg #[.int .u32 n, .slice sa sl sc, .slice ea es.length ec, .int .i64 beh, .int .i64 room, x5, x6, x7, x8, x9, x10, x11, x12, x13], .int .i64 1] w fun e w' => ∃ (a : Option Addr) (cap : Nat), e = .returned (.slice a (min es.length 500) cap) ∧ GraphAt w w' a cap (graphE (szN n) es (min es.length 500)) := by
  obtain ⟨i0, hi, hz0, hz1, hz2⟩ := info_parts Try.info71
  have hp0 := isBlk.new w 30 [.int .u32 n, .slice sa sl sc, .slice ea es.length ec, .int .i64 beh, .int .i64 room, x5, x6, x7, x8, x9, x10, x11, x12, x13]
  have hB0 : Below w.heap.size w (w.alloc (.cells #[.int .u32 n, .slice sa sl sc, .slice ea es.length ec, .int .i64 beh, .int .i64 room, x5, x6, x7, x8, x9, x10, x11, x12, x13] 30)) := (Below.refl _ _).alloc (Nat.le_refl _) _
  have hE0 := hE.below hB0 hE.lt
  have hz00 : (w.alloc (.cells #[.int .u32 n, .slice sa sl sc, .slice ea es.length ec, .int .i64 beh, .int .i64 room, x5, x6, x7, x8, x9, x10, x11, x12, x13] 30)).heap.size = w.heap.size + 1 := by simp
  have hs1 := szN_pos n
  have hs2 := szN_le n
  obtain ⟨K, hK⟩ : ∃ K, min es.length 500 = K := ⟨_, rfl⟩
  rw [hK]
  have HK := Lib.hid hK
  clear hK
  obtain ⟨sz, hsz⟩ : ∃ sz, szN n = sz := ⟨_, rfl⟩
  rw [hsz] at hs1 hs2 ⊢
  have HSZ := Lib.hid hsz
  clear hsz
  go_enter Try.func23, Try.ntmps23
  go_upto_block 0 with fail
  obtain ⟨W0, hW0⟩ : ∃ W0, w.alloc (.cells #[.int .u32 n, .slice sa sl sc, .slice ea es.length ec, .int .i64 beh, .int .i64 room, x5, x6, x7, x8, x9, x10, x11, x12, x13] 30) = W0 := ⟨_, rfl⟩
  rw [hW0] at hp0 hB0 hE0 hz00 ⊢
  obtain ⟨pb, hpb⟩ : ∃ pb, w.heap.size = pb := ⟨_, rfl⟩
  rw [hpb] at hp0 hz00 ⊢
  have hpl0 : pb < W0.heap.size := by omega
  clear hW0 hz00
  go_wp2_with fail
  go_loopg [5, 6, 7] K (fun gk v i _ wr => ∃ k : Nat, k + gk = K ∧ i = .int .i64 k ∧ Hid (wr.ownsRow W0.heap.size 71 3 v k (edCells (graphE sz es k))) ∧ Hid (Below W0.heap.size W0 wr))
  case atStart => exact ⟨0, by omega, rfl, Lib.hid (World.ownsRow_nil _ _ _ _), Lib.hid (Below.refl _ _)⟩
  case round =>
    obtain ⟨k, hk, rfl, HO, HB⟩ := hrel
    have hpr := hp0.below HB.out hpl0
    have c0 : wr.cell? ⟨pb, 0, none⟩ = some (.int .u32 n) := hpr.cell 0
    have c1 : wr.cell? ⟨pb, 1, none⟩ = some (.slice sa sl sc) := hpr.cell 1
    have c2 : wr.cell? ⟨pb, 2, none⟩ = some (.slice ea es.length ec) := hpr.cell 2
    have c3 : wr.cell? ⟨pb, 3, none⟩ = some (.int .i64 beh) := hpr.cell 3
    have c4 : wr.cell? ⟨pb, 4, none⟩ = some (.int .i64 room) := hpr.cell 4
    have c5 : wr.cell? ⟨pb, 5, none⟩ = some (x5) := hpr.cell 5
    have c6 : wr.cell? ⟨pb, 6, none⟩ = some (x6) := hpr.cell 6
    have c7 : wr.cell? ⟨pb, 7, none⟩ = some (x7) := hpr.cell 7
    have c8 : wr.cell? ⟨pb, 8, none⟩ = some (x8) := hpr.cell 8
    have c9 : wr.cell? ⟨pb, 9, none⟩ = some (x9) := hpr.cell 9
    have c10 : wr.cell? ⟨pb, 10, none⟩ = some (x10) := hpr.cell 10
    have c11 : wr.cell? ⟨pb, 11, none⟩ = some (x11) := hpr.cell 11
    have c12 : wr.cell? ⟨pb, 12, none⟩ = some (x12) := hpr.cell 12
    have c13 : wr.cell? ⟨pb, 13, none⟩ = some (x13) := hpr.cell 13
    have hplr := hpr.lt
    by_cases hlt : k < es.length
    · have i1 : (k : Int) < es.length := by omega
      have i2 : (0 : Int) ≤ k := Int.natCast_nonneg _
      by_cases h5 : k < 500
      · have h5' : (k : Int) < 500 := by omega
        have hkK : k < K := by have := HK.out; omega
        have hgk : 0 < gk := by omega
        have hEr := hE0.below HB.out hE0.lt
        obtain rfl := hEr.ad (by omega)
        have hel2 := hEr.lt (by omega)
        have e0 := hEr.c0 k hlt
        have e1 := hEr.c1 k hlt
        have e2 := hEr.c2 k hlt
        have hps := graphE_succ (s := sz) hlt
        generalize es[k] = x at *
        obtain ⟨src, dst, x3⟩ := x
        simp only [] at e0 e1 e2 hps
        have HPS := Lib.hid hps
        clear hps hEr
        go_upto_region 6 with fail
        have hq1 := isBlk.new wr 71 [.int .u32 src, .int .u32 dst, .int .u32 x3]
        have hbV1 : Below wr.heap.size wr (wr.alloc (.cells #[.int .u32 src, .int .u32 dst, .int .u32 x3] 71)) := (Below.refl _ _).alloc (Nat.le_refl _) _
        obtain ⟨V1, hW1⟩ : ∃ V1, wr.alloc (.cells #[.int .u32 src, .int .u32 dst, .int .u32 x3] 71) = V1 := ⟨_, rfl⟩
        have hEV1 : isBlk V1 wr.heap.size 71 [.int .u32 src, .int .u32 dst, .int .u32 x3] := by rw [← hW1]; exact hq1
        rw [hW1] at hbV1 ⊢
        obtain ⟨eb2, heb⟩ : ∃ eb2, eb2 = wr.heap.size := ⟨_, rfl⟩
        rw [← heb] at hEV1 ⊢
        have hebz : wr.heap.size ≤ eb2 := by omega
        have hpe : pb ≠ eb2 := by omega
        have HEV1 := Lib.hid hEV1
        have hpV1 := hpr.below hbV1 hplr
        clear hW1 hq1 hEV1 heb e0 e1 e2 c0 c1 c2 c3 c4 c5 c6 c7 c8 c9 c10 c11 c12 c13
        have c0 : V1.cell? ⟨pb, 0, none⟩ = some (.int .u32 n) := hpV1.cell 0
        have c1 : V1.cell? ⟨pb, 1, none⟩ = some (.slice sa sl sc) := hpV1.cell 1
        have c2 : V1.cell? ⟨pb, 2, none⟩ = some (.slice (some ⟨eb, eo, none⟩) es.length ec) := hpV1.cell 2
        have c3 : V1.cell? ⟨pb, 3, none⟩ = some (.int .i64 beh) := hpV1.cell 3
        have c4 : V1.cell? ⟨pb, 4, none⟩ = some (.int .i64 room) := hpV1.cell 4
        have c5 : V1.cell? ⟨pb, 5, none⟩ = some (x5) := hpV1.cell 5
        have c6 : V1.cell? ⟨pb, 6, none⟩ = some (x6) := hpV1.cell 6
        have c7 : V1.cell? ⟨pb, 7, none⟩ = some (x7) := hpV1.cell 7
        have c8 : V1.cell? ⟨pb, 8, none⟩ = some (x8) := hpV1.cell 8
        have c9 : V1.cell? ⟨pb, 9, none⟩ = some (x9) := hpV1.cell 9
        have c10 : V1.cell? ⟨pb, 10, none⟩ = some (x10) := hpV1.cell 10
        have c11 : V1.cell? ⟨pb, 11, none⟩ = some (x11) := hpV1.cell 11
        have c12 : V1.cell? ⟨pb, 12, none⟩ = some (x12) := hpV1.cell 12
        have c13 : V1.cell? ⟨pb, 13, none⟩ = some (x13) := hpV1.cell 13
        have q0 : V1.cell? ⟨eb2, 0, none⟩ = some (.int .u32 src) := HEV1.out.cell 0
        have q1 : V1.cell? ⟨eb2, 1, none⟩ = some (.int .u32 dst) := HEV1.out.cell 1
        have q2 : V1.cell? ⟨eb2, 2, none⟩ = some (.int .u32 x3) := HEV1.out.cell 2
        have hvl1 := HEV1.out.lt
        have hpl1 := hpV1.lt
        obtain ⟨r0, hr0⟩ : ∃ r0, src % sz = r0 := ⟨_, rfl⟩
        obtain ⟨r1, hr1⟩ : ∃ r1, dst % sz = r1 := ⟨_, rfl⟩
        rw [hr0, hr1] at HPS
        have hm0 : (src : Int) % (sz : Int) = (r0 : Int) := by rw [← hr0]; rfl
        have hm1 : (dst : Int) % (sz : Int) = (r1 : Int) := by rw [← hr1]; rfl
        have hsz0 : (sz : Int) ≠ 0 := by omega
        have hsz1 : ¬ sz = 0 := by omega
        have hr0l : r0 < sz := by rw [← hr0]; exact Nat.mod_lt _ (by omega)
        have hr1l : r1 < sz := by rw [← hr1]; exact Nat.mod_lt _ (by omega)
        have ht0 : (src : Int).tmod (sz : Int) = (r0 : Int) := by rw [← hr0]; exact (Int.ofNat_tmod src sz).symm
        have ht1 : (dst : Int).tmod (sz : Int) = (r1 : Int) := by rw [← hr1]; exact (Int.ofNat_tmod dst sz).symm
        have hwr0 : IntKind.u32.wrap (r0 : Int) = (r0 : Int) := IntWalk.u32_in _ (by omega)
        have hwr1 : IntKind.u32.wrap (r1 : Int) = (r1 : Int) := IntWalk.u32_in _ (by omega)
        go_cut [24] from 24 to 29 (fun _ wx => Hid (isBlk wx eb2 71 [.int .u32 r0, .int .u32 dst, .int .u32 x3]) ∧ Hid (Below wr.heap.size wr wx))
        case first =>
          go_region_with (go_at_call 22; ((with_reducible refine Calls.mono (size_any n sl sc es.length ec sa _ beh room _ _ _ _ _ _ _ _ _ _ hn) ?_); rintro e wa ⟨rfl, hba⟩; rw [HSZ.out]; have hVe := (HEV1.out.drew).below hba HEV1.out.lt; have hvl := hVe.lt; have g0 : wa.cell? ⟨eb2, 0, none⟩ = some (.int .u32 src) := hVe.cell 0; have gf0 := hVe.frozen 0))
          all_goals
            go_wp2_with fail
            go_meet
            exact ⟨Lib.hid (hVe.set 0 (.int .u32 r0)), Lib.hid (Bset hebz (Below.trans hbV1 (((Below.drew (Below.refl _ V1)).trans hba).mono hbV1.size)))⟩
        case rest =>
        obtain ⟨HEV2, HBV2⟩ := hcut
        obtain ⟨V2, rfl⟩ : ∃ V2 : World, V2 = wc := ⟨_, rfl⟩
        have hbV2 := HBV2.out
        have hpV2 := hpr.below hbV2 hplr
        clear c0 c1 c2 c3 c4 c5 c6 c7 c8 c9 c10 c11 c12 c13 q0 q1 q2
        have c0 : V2.cell? ⟨pb, 0, none⟩ = some (.int .u32 n) := hpV2.cell 0
        have c1 : V2.cell? ⟨pb, 1, none⟩ = some (.slice sa sl sc) := hpV2.cell 1
        have c2 : V2.cell? ⟨pb, 2, none⟩ = some (.slice (some ⟨eb, eo, none⟩) es.length ec) := hpV2.cell 2
        have c3 : V2.cell? ⟨pb, 3, none⟩ = some (.int .i64 beh) := hpV2.cell 3
        have c4 : V2.cell? ⟨pb, 4, none⟩ = some (.int .i64 room) := hpV2.cell 4
        have c5 : V2.cell? ⟨pb, 5, none⟩ = some (x5) := hpV2.cell 5
        have c6 : V2.cell? ⟨pb, 6, none⟩ = some (x6) := hpV2.cell 6
        have c7 : V2.cell? ⟨pb, 7, none⟩ = some (x7) := hpV2.cell 7
        have c8 : V2.cell? ⟨pb, 8, none⟩ = some (x8) := hpV2.cell 8
        have c9 : V2.cell? ⟨pb, 9, none⟩ = some (x9) := hpV2.cell 9
        have c10 : V2.cell? ⟨pb, 10, none⟩ = some (x10) := hpV2.cell 10
        have c11 : V2.cell? ⟨pb, 11, none⟩ = some (x11) := hpV2.cell 11
        have c12 : V2.cell? ⟨pb, 12, none⟩ = some (x12) := hpV2.cell 12
        have c13 : V2.cell? ⟨pb, 13, none⟩ = some (x13) := hpV2.cell 13
        have q0 : V2.cell? ⟨eb2, 0, none⟩ = some (.int .u32 r0) := HEV2.out.cell 0
        have q1 : V2.cell? ⟨eb2, 1, none⟩ = some (.int .u32 dst) := HEV2.out.cell 1
        have q2 : V2.cell? ⟨eb2, 2, none⟩ = some (.int .u32 x3) := HEV2.out.cell 2
        have qf2 := HEV2.out.frozen 2
        have hvlV2 := HEV2.out.lt
        have hplV2 := hpV2.lt
        go_upto_region 7 with fail
        go_cut [30] from 30 to 35 (fun _ wx => Hid (isBlk wx eb2 71 [.int .u32 r0, .int .u32 r1, .int .u32 x3]) ∧ Hid (Below wr.heap.size wr wx))
        case first =>
          go_region_with (go_at_call 22; ((with_reducible refine Calls.mono (size_any n sl sc es.length ec sa _ beh room _ _ _ _ _ _ _ _ _ _ hn) ?_); rintro e wa ⟨rfl, hba⟩; rw [HSZ.out]; have hVe := (HEV2.out.drew).below hba HEV2.out.lt; have hvl := hVe.lt; have g0 : wa.cell? ⟨eb2, 1, none⟩ = some (.int .u32 dst) := hVe.cell 1; have gf0 := hVe.frozen 1))
          all_goals
            go_wp2_with fail
            go_meet
            exact ⟨Lib.hid (hVe.set 1 (.int .u32 r1)), Lib.hid (Bset hebz (Below.trans hbV2 (((Below.drew (Below.refl _ V2)).trans hba).mono hbV2.size)))⟩
        case rest =>
        obtain ⟨HEV3, HBV3⟩ := hcut
        obtain ⟨V3, rfl⟩ : ∃ V3 : World, V3 = wc := ⟨_, rfl⟩
        have hbV3 := HBV3.out
        have hpV3 := hpr.below hbV3 hplr
        clear c0 c1 c2 c3 c4 c5 c6 c7 c8 c9 c10 c11 c12 c13 q0 q1 q2
        have c0 : V3.cell? ⟨pb, 0, none⟩ = some (.int .u32 n) := hpV3.cell 0
        have c1 : V3.cell? ⟨pb, 1, none⟩ = some (.slice sa sl sc) := hpV3.cell 1
        have c2 : V3.cell? ⟨pb, 2, none⟩ = some (.slice (some ⟨eb, eo, none⟩) es.length ec) := hpV3.cell 2
        have c3 : V3.cell? ⟨pb, 3, none⟩ = some (.int .i64 beh) := hpV3.cell 3
        have c4 : V3.cell? ⟨pb, 4, none⟩ = some (.int .i64 room) := hpV3.cell 4
        have c5 : V3.cell? ⟨pb, 5, none⟩ = some (x5) := hpV3.cell 5
        have c6 : V3.cell? ⟨pb, 6, none⟩ = some (x6) := hpV3.cell 6
        have c7 : V3.cell? ⟨pb, 7, none⟩ = some (x7) := hpV3.cell 7
        have c8 : V3.cell? ⟨pb, 8, none⟩ = some (x8) := hpV3.cell 8
        have c9 : V3.cell? ⟨pb, 9, none⟩ = some (x9) := hpV3.cell 9
        have c10 : V3.cell? ⟨pb, 10, none⟩ = some (x10) := hpV3.cell 10
        have c11 : V3.cell? ⟨pb, 11, none⟩ = some (x11) := hpV3.cell 11
        have c12 : V3.cell? ⟨pb, 12, none⟩ = some (x12) := hpV3.cell 12
        have c13 : V3.cell? ⟨pb, 13, none⟩ = some (x13) := hpV3.cell 13
        have q0 : V3.cell? ⟨eb2, 0, none⟩ = some (.int .u32 r0) := HEV3.out.cell 0
        have q1 : V3.cell? ⟨eb2, 1, none⟩ = some (.int .u32 r1) := HEV3.out.cell 1
        have q2 : V3.cell? ⟨eb2, 2, none⟩ = some (.int .u32 x3) := HEV3.out.cell 2
        have qf2 := HEV3.out.frozen 2
        have hvlV3 := HEV3.out.lt
        have hplV3 := hpV3.lt
        go_upto_region 10 with fail
        have hb5 : Below wr.heap.size wr (V3.setCell ⟨eb2, 2, none⟩ (.int .u32 0)) := Bset hebz hbV3
        have hE5 : isBlk (V3.setCell ⟨eb2, 2, none⟩ (.int .u32 0)) eb2 71 [.int .u32 r0, .int .u32 r1, .int .u32 0] := HEV3.out.set 2 _
        obtain ⟨V5, hV5⟩ : ∃ V5, V3.setCell ⟨eb2, 2, none⟩ (.int .u32 0) = V5 := ⟨_, rfl⟩
        rw [hV5] at hb5 hE5 ⊢
        clear hV5 c0 c1 c2 c3 c4 c5 c6 c7 c8 c9 c10 c11 c12 c13 q0 q1 q2
        have q0 : V5.cell? ⟨eb2, 0, none⟩ = some (.int .u32 r0) := hE5.cell 0
        have q1 : V5.cell? ⟨eb2, 1, none⟩ = some (.int .u32 r1) := hE5.cell 1
        have q2 : V5.cell? ⟨eb2, 2, none⟩ = some (.int .u32 0) := hE5.cell 2
        have hvl5 := hE5.lt
        have hown := own_b HO.out hb5
        have hwz := HB.out.size
        have hwz5 := hb5.size
        go_wp2_with (at_builtin; refine wpList_append_lies _ rfl _ _ 24 rfl W0.heap.size 71 i0 _ 3 12 Try.underlying24 hi hz0 hz1 hz2 rfl (by omega) _ k _ rfl (hown.alloc _) ⟨V5.heap.size, 0, none⟩ 1 1 [.int .u32 r0, .int .u32 r1, .int .u32 0] rfl rfl (World.news_of_block (fr := (0, 0)) (heap_alloc_new V5 _)) (by simp [Value.oneCell']) (by omega) (by unfold maxLen; omega) (by omega) (by simp; omega) (V5.heap.size + 1) (by simp) ?_; intro g cap w1 hown1 hgrow hat hlt1)
        go_roundg (gk - 1)
        case measure => omega
        case rel =>
          refine ⟨k + 1, by omega, by go_num, Lib.hid ?_, Lib.hid ?_⟩
          · rw [HPS.out, edCells_snoc]; exact hown1
          · exact Below.grown (Ball (Nat.le_trans hwz hwz5) (HB.out.trans (hb5.mono hwz))) hgrow (by simp; omega) (fun j hj => (hown.lt j hj).1)
      · have h5' : ¬ (k : Int) < 500 := by omega
        obtain rfl : k = K := by have := HK.out; omega
        have hlen := graphE_len (s := sz) (es := es) (k := k) (by omega)
        obtain ⟨a, g, cap, rfl, hEn⟩ := eds_own HO.out hlen.symm
        rw [hlen]
        have HEN := Lib.hid hEn
        clear hEn
        go_wp2
        refine bodyPost_ret (v := .slice a k cap) (by simp (maxDischargeDepth := 8) [results, Try.results23, go_sem]) rfl ?_
        exact ⟨a, cap, rfl, ⟨g, HEN.out, Nat.zero_le _, hB0.trans (HB.out.mono hB0.size)⟩⟩
    · have i1 : ¬ (k : Int) < es.length := by omega
      obtain rfl : k = K := by have := HK.out; omega
      have hlen := graphE_len (s := sz) (es := es) (k := k) (by have := HK.out; omega)
      obtain ⟨a, g, cap, rfl, hEn⟩ := eds_own HO.out hlen.symm
      rw [hlen]
      have HEN := Lib.hid hEn
      clear hEn
      go_wp2
      refine bodyPost_ret (v := .slice a k cap) (by simp (maxDischargeDepth := 8) [results, Try.results23, go_sem]) rfl ?_
      exact ⟨a, cap, rfl, ⟨g, HEN.out, Nat.zero_le _, hB0.trans (HB.out.mono hB0.size)⟩⟩

end Go.Proofs.Ytohmeobfiomfdaa
