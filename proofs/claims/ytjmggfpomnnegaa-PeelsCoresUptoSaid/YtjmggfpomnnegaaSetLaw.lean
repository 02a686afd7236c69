/-
  The walk of PeelsSet.
-/
import Derived.Test.YtjmggfpomnnegaaFirst
import Derived.Test.YtjmggfpomnnegaaPlainRun
import Derived.Test.YtjmggfpomnnegaaRun
namespace Go.Proofs.Ytjmggfpomnnegaa
open Go.RowKit
set_option maxRecDepth 100000

set_option maxHeartbeats 400000 in
theorem inSet_any (s0 s1 s2 s3 s4 s5 s6 s7 : Nat) (w : World) :
    Calls Try.prog 38 #[.agg #[.int .u64 s0, .int .u64 s1, .int .u64 s2, .int .u64 s3, .int .u64 s4, .int .u64 s5, .int .u64 s6, .int .u64 s7]] w fun e w' => e = .returned (.bool ((s0 : Int) == 1)) ∧ Below w.heap.size w w' := by
  go_enter Try.func38, Try.ntmps38
  go_wp2
  go_ret
  exact ⟨rfl, (by repeat (first | with_reducible exact Below.refl _ _ | with_reducible assumption | with_reducible refine below_drewN ?_ _ | with_reducible refine Below.drew ?_ | ((with_reducible refine Bset ?_ ?_); focus (first | omega | (simp; done) | (simp; omega))) | ((with_reducible refine Ball ?_ ?_); focus (first | omega | (simp; done) | (simp; omega)))))⟩

set_option maxHeartbeats 1000000 in
theorem graph_any (n : Nat) (hn : 0 < n) (a : Option Addr) (b off cap : Nat) (es : List Ed) (w : World) (hlen : es.length ≤ 1048576) (hnn : n ≤ 4294967295)
    (hs : ∀ e ∈ es, e.src ≤ 4294967295 ∧ e.dst ≤ 4294967295) (hE : IsEds w a b off es) :
    Calls Try.prog 27 #[.int .u32 n, .slice a es.length cap] w fun e w' =>
      ∃ (es2 : List Ed) (a2 : Option Addr) (cap2 g : Nat), Hid (es2 = es.map (modEd n)) ∧ e = .returned (.slice a2 es2.length cap2) ∧ IsEds w' a2 g 0 es2 ∧ Below w.heap.size w w' := by
  obtain ⟨i0, hi, hz0, hz1, hz2⟩ := info_parts Try.info37
  go_enter Try.func27, Try.ntmps27
  go_wp2
  go_loopw [5, 6] (fun v i wr => ∃ k : Nat, k ≤ es.length ∧ i = .int .i64 k ∧ wr.ownsRow w.heap.size 37 3 v k (edCells ((es.take k).map (modEd n))) ∧ Below w.heap.size w wr) (fun _ i _ => es.length - (intOf i).toNat)
  case atStart => exact ⟨0, Nat.zero_le _, rfl, World.ownsRow_nil _ _ _ _, Below.refl _ _⟩
  case round =>
    obtain ⟨k, hk, rfl, hown, hbl⟩ := hrel
    by_cases hlt : k < es.length
    · obtain rfl := hE.ad (by omega)
      have hb := hE.lt (by omega)
      have c0 := hE.c0 k hlt
      have c1 := hE.c1 k hlt
      rw [← hbl.cell (p := ⟨b, off + k * 3, none⟩) hb] at c0
      rw [← hbl.cell (p := ⟨b, off + k * 3 + 1, none⟩) hb] at c1
      have hnn0 : ¬ n = 0 := by omega
      have hss := hs es[k] (List.getElem_mem _)
      have hs0 : (0 : Int) ≤ es[k].src := Int.natCast_nonneg _
      have hd0 : (0 : Int) ≤ es[k].dst := Int.natCast_nonneg _
      have hn0 : (0 : Int) < n := by omega
      have hbz : b < wr.heap.size := by have := hbl.size; omega
      have hne := fun g h => (hown.lt g h).1
      have hne2 : some b ≠ u5.ownBlock := fun h => by have := hne b h.symm; omega
      clear hne
      go_wp2_with fail
      have hi1 : (k : Int) < (es.length : Int) := by omega
      have hi0' : (0 : Int) ≤ (k : Int) := Int.natCast_nonneg _
      have hown' := hown.alloc (.cells #[.int .u32 ((es[k].src : Int) % n), .int .u32 ((es[k].dst : Int) % n), .int .u32 0] 37)
      go_region_held3 (fun w' => w'.cell? ⟨b, off + k * 3, none⟩ = some (.int .u32 es[k].src) ∧ w'.cell? ⟨b, off + k * 3 + 1, none⟩ = some (.int .u32 es[k].dst))
        (first
          | go_keep
          | (go_split_ands
             refine ⟨?_, ?_⟩
             · (rw [hgrow.cell_far _ (by simp; omega) hne2]; assumption)
             · (rw [hgrow.cell_far _ (by simp; omega) hne2]; assumption)))
        ((refine step_append_lies _ (by rfl) _ _ _ (by rfl) w.heap.size 37 i0 _ 3 12 Try.underlying71 hi hz0 hz1 hz2 rfl (by omega) _ k _ (by rfl) ((hown'.drew)) ⟨wr.heap.size, 0, none⟩ 1 1 [.int .u32 ((es[k].src : Int) % n), .int .u32 ((es[k].dst : Int) % n), .int .u32 0] (by rfl) (by rfl) (World.news_of_block (fr := (0, 0)) (heap_alloc_new wr _)) (by simp [Value.oneCell']) (by omega) (by simp [maxLen]; omega) (by omega) (by have := hbl.size; simp; omega) (wr.heap.size + 1) (by simp) ?_; intro gg cap1 w1 hown1 hgrow hat hlt1))
      go_wp2
      go_roundw
      case rel =>
        refine ⟨k + 1, by omega, by go_num, ?_, ?_⟩
        · rw [List.take_succ_eq_append_getElem hlt, List.map_append, List.map_cons, List.map_nil, edCells_snoc]
          exact hown1
        · exact ((hbl.alloc hbl.size _).drew).grown hgrow (by have := hbl.size; simp; omega) (fun g h => (hown.lt g h).1)
      case measure => simp [intOf]; omega
    · obtain rfl : k = es.length := by omega
      rw [List.take_length] at hown
      go_wp2
      go_ret
      have hll : (es.map (modEd n)).length = es.length := List.length_map _
      have hown2 := hown
      rcases hown2.2 with ⟨hv, h0⟩ | ⟨g, cap', cur, hv, hg, hh, r⟩
      · refine ⟨es.map (modEd n), none, 0, 0, Lib.hid rfl, by rw [hv, hll, h0]; rfl, ⟨fun h => ?_, fun h => ?_, fun j hj => ?_, fun j hj => ?_, fun j hj => ?_⟩, hbl⟩ <;> (exfalso; rw [hll] at *; omega)
      · rw [hv] at hown
        exact ⟨es.map (modEd n), some ⟨g, 0, none⟩, cap', g, Lib.hid rfl, by rw [hv, hll]; rfl, IsEds.of_own hown hll.symm (hown.lt g rfl).2, hbl⟩

/-- No neighbour below m of the vertex is in. -/
def freeU (es : List Ed) (q : Nat → Nat) (v : Nat) : Nat → Bool
  | 0 => true
  | m + 1 => freeU es q v m && !(nearB es v m && (q m == 1))

theorem freeU_iff (es : List Ed) (q : Nat → Nat) (v m : Nat) : freeU es q v m = true ↔ ∀ u, u < m → nearB es v u = true → ¬ q u = 1 := by
  induction m with
  | zero => simp [freeU]
  | succ m ih =>
    unfold freeU
    rw [Bool.and_eq_true, ih]
    constructor
    · rintro ⟨h1, h2⟩ u hu hnu hq
      by_cases h : u = m
      · subst h; simp [hnu, hq] at h2
      · exact h1 u (by omega) hnu hq
    · intro h
      refine ⟨fun u hu => h u (by omega), ?_⟩
      have := h m (by omega)
      cases hn : nearB es v m
      · rfl
      · have := this hn
        simp [this]

set_option maxHeartbeats 2000000 in
theorem setLaw_any (many seed : Nat) (a : Option Addr) (cap eb eo : Nat) (raw : List Ed) (flip : Int) (w : World) (hseed : seed ≤ 18446744073709551615)
    (hR : IsEds w a eb eo raw) (hlen : raw.length ≤ 1048576) (hs : ∀ e ∈ raw, e.src ≤ 4294967295 ∧ e.dst ≤ 4294967295) :
    Calls Try.prog 7 #[.int .u32 many, .int .u64 seed, .slice a raw.length cap, .int .i64 flip] w fun e w' => e = .returned (.bool true) ∧ Below w.heap.size w w' := by
  go_enter Try.func7, Try.ntmps7
  go_upto_region 2 with (go_at_call 35; refine (size_any many seed _ hseed).mono ?_; rintro e w1 ⟨n, ra, rc, rfl, hn, hr, hb1⟩; have HN := Lib.hid hn; clear hn)
  have hn1 : 1 ≤ n := hr.1
  have hn24 : n ≤ 24 := by have := HN.out; omega
  have hz1 := hb1.size
  have hC1 := isBlk.new w1 51 [.int .u32 n, .int .u32 ra, .int .u32 rc]
  have hR1 := (hR.below hb1 hR.lt).below (B := w.heap.size) (Ball (o := .cells #[.int .u32 n, .int .u32 ra, .int .u32 rc] 51) hz1 (Below.refl w.heap.size w1)) hR.lt
  have hbW := Ball (o := .cells #[.int .u32 n, .int .u32 ra, .int .u32 rc] 51) hz1 hb1
  obtain ⟨rb, hrb⟩ : ∃ rb, rb = w1.heap.size := ⟨_, rfl⟩
  rw [← hrb] at hC1 hz1 ⊢
  clear hR hb1 hrb
  generalize w1.alloc (.cells #[.int .u32 n, .int .u32 ra, .int .u32 rc] 51) = W1 at *
  go_upto_region 3 with (go_at_call 27; refine (graph_any n (by omega) a eb eo cap raw _ hlen (by omega) hs hR1).mono ?_; rintro e w2 ⟨es, a2, cap2, g2, hES, rfl, hE2, hb2⟩)
  have hlen2 : es.length ≤ 1048576 := by rw [hES.out, List.length_map]; exact hlen
  have hes : ∀ e ∈ es, e.src < n ∧ e.dst < n := by
    intro e he
    rw [hES.out] at he
    obtain ⟨e', _, rfl⟩ := List.mem_map.1 he
    exact ⟨Nat.mod_lt _ hn1, Nat.mod_lt _ hn1⟩
  clear hES
  have hC2 := hC1.below hb2 hC1.lt
  have hbl2 := hbW.trans (hb2.mono hbW.size)
  have q0 : w2.cell? ⟨rb, 0, none⟩ = some (.int .u32 n) := hC2.cell 0
  have q1 : w2.cell? ⟨rb, 1, none⟩ = some (.int .u32 ra) := hC2.cell 1
  have q2 : w2.cell? ⟨rb, 2, none⟩ = some (.int .u32 rc) := hC2.cell 2
  have hrz := hC2.lt
  clear hC1 hR1 hbW hb2
  go_upto_region 6 with (first | (go_at_call 36; refine (set_made n ra rc _ hr).mono ?_; rintro e w3 ⟨pb, rfl, hpb, hcp, hb3⟩) | (go_at_call 14; refine (num_ok _).mono ?_; rintro e w4 ⟨rfl, rfl⟩))
  have hC3 := hC2.below hb3 hC2.lt
  have hE3 := hE2.below hb3 hE2.lt
  have hbl3 := hbl2.trans (hb3.mono hbl2.size)
  have hpbz : pb < w3.heap.size := World.block_lt_of_cell? w3 _ hcp
  clear q0 q1 q2 hrz hC2 hE2 hbl2 hb3 hpb
  go_upto_region 9 with (go_at_call 29; with_reducible refine Calls.mono (run_any (setP n ra rc) _ n (setP_ok n ra rc hr) pb g2 0 cap2 a2 es flip n _ hcp hE3 hlen2 (by omega) (by omega) hes) ?_; rintro e w4 ⟨sb, ss, rr, dn, fl, rfl, hS, hSl, hb4, hends⟩; obtain ⟨rfl, hrr, hfin⟩ := set_ends hr (by omega) hes fl hends; have hrr1 : (1 : Int) ≤ rr := (by omega); clear hends)
  have hC4 := hC3.below hb4 hC3.lt
  have hE4 := hE3.below hb4 hE3.lt
  have hbl4 := hbl3.trans (hb4.mono hbl3.size)
  have q0 : w4.cell? ⟨rb, 0, none⟩ = some (.int .u32 n) := hC4.cell 0
  have q1 : w4.cell? ⟨rb, 1, none⟩ = some (.int .u32 ra) := hC4.cell 1
  have q2 : w4.cell? ⟨rb, 2, none⟩ = some (.int .u32 rc) := hC4.cell 2
  have hrz := hC4.lt
  clear hC3 hE3 hbl3 hb4 hcp hpbz
  go_upto_block 0 with (go_at_call 37; refine (firstSet_any n ra rc a2 cap2 g2 0 es _ hr (by omega) hE4 hlen2).mono ?_; rintro e w5 ⟨fb, rfl, hF, hb5⟩)
  have hE5 := hE4.below hb5 hE4.lt
  have hbl5 := hbl4.trans (hb5.mono hbl4.size)
  have hS5 := own_below hS hb5 (own_lt hS).2
  have hsz := (own_lt hS5).2
  have hfz := (own_lt hF).2
  have hfree : ∀ v, v < n → freeU es (fun v => inAt (firstL n ra rc es n) v) v n = (inAt (firstL n ra rc es n) v == 1) := by
    intro v hv
    rw [Bool.eq_iff_iff, freeU_iff, beq_iff_eq]
    exact (free_iff hr es hv).symm
  have hwant : ∀ v, v < n → w5.cell? ⟨fb, v, none⟩ = some (.int .u64 (inAt (firstL n ra rc es n) v : Nat)) := by
    intro v hv
    rw [hF.cellAt _ (by omega), u64_get _ _ (by rw [firstL_len]; exact hv)]
  have hSt := IsSts.of_own hS5 hSl hsz
  have hstate : ∀ v, v < n → ∃ s : St, (∀ w', Below w5.heap.size w5 w' → w'.cell? ⟨sb, v * 8, none⟩ = some (.int .u64 (inAt (firstL n ra rc es n) v : Nat)) ∧ w'.cell? ⟨sb, v * 8 + 1, none⟩ = some (.int .u64 s.a1) ∧ w'.cell? ⟨sb, v * 8 + 2, none⟩ = some (.int .u64 s.a2) ∧ w'.cell? ⟨sb, v * 8 + 3, none⟩ = some (.int .u64 s.a3) ∧ w'.cell? ⟨sb, v * 8 + 4, none⟩ = some (.int .u64 s.a4) ∧ w'.cell? ⟨sb, v * 8 + 5, none⟩ = some (.int .u64 s.a5) ∧ w'.cell? ⟨sb, v * 8 + 6, none⟩ = some (.int .u64 s.a6) ∧ w'.cell? ⟨sb, v * 8 + 7, none⟩ = some (.int .u64 s.a7)) := by
    intro v hv
    have hv2 : v < ss.length := by omega
    refine ⟨ss[v], fun w' hb => ?_⟩
    have hx := hSt.below hb hsz
    have e0 := hx.c0 v hv2
    have e1 := hx.c1 v hv2
    have e2 := hx.c2 v hv2
    have e3 := hx.c3 v hv2
    have e4 := hx.c4 v hv2
    have e5 := hx.c5 v hv2
    have e6 := hx.c6 v hv2
    have e7 := hx.c7 v hv2
    rw [Nat.zero_add] at e0 e1 e2 e3 e4 e5 e6 e7
    have h0 := hfin v hv
    rw [stAt_get ss v hv2] at h0
    rw [h0] at e0
    exact ⟨e0, e1, e2, e3, e4, e5, e6, e7⟩
  generalize hQ : (fun v => inAt (firstL n ra rc es n) v) = Q at *
  have hQ' : ∀ v, inAt (firstL n ra rc es n) v = Q v := fun v => by rw [← hQ]
  simp only [hQ'] at hfree hwant hstate
  clear hQ hQ' hSt hS5 hS hF hb5 hbl4 hE4 hC4 q0 q1 q2 hrz hfin hSl HN
  have HW := Lib.hid hwant
  have HST := Lib.hid hstate
  have HFR := Lib.hid hfree
  clear hwant hstate hfree hrr1 hrr
  go_wp2_with fail
  go_loopg [19, 20, 21] n (fun gk v _ _ wr => ∃ k : Nat, k + gk = n ∧ v = .int .u32 k ∧ Below w5.heap.size w5 wr)
  case atStart => exact ⟨0, by omega, rfl, Below.refl _ _⟩
  case round =>
    obtain ⟨k, hk, rfl, hbl⟩ := hrel
    obtain ⟨wo, rfl⟩ : ∃ wo : World, wo = wr := ⟨_, rfl⟩
    by_cases hlt : k < n
    · have hk0 : (k : Int) < (n : Int) := by omega
      have hk1 : (0 : Int) ≤ (k : Int) := Int.natCast_nonneg _
      have hkw : IntKind.u32.wrap ((k : Int) + 1) = (k : Int) + 1 := by rw [IntKind.wrap_u32]; omega
      obtain ⟨s, hs8⟩ := HST.out k hlt
      obtain ⟨s0, s1, s2, s3, s4, s5, s6, s7⟩ := hs8 wo hbl
      have hfr := HFR.out k hlt
      have cw : wo.cell? ⟨fb, k, none⟩ = some (.int .u64 (Q k : Nat)) := by rw [hbl.cell (p := ⟨fb, k, none⟩) hfz]; exact HW.out k hlt
      have HFK := Lib.hid hfr
      have HS8 := Lib.hid hs8
      clear hfr hs8
      obtain ⟨q, hq⟩ : ∃ q, q = Q k := ⟨_, rfl⟩
      rw [← hq] at s0 cw HFK
      have HQK := Lib.hid hq
      clear hq
      have hzo := hbl.size
      have hsz1 : sb < wo.heap.size := by omega
      have hfz1 : fb < wo.heap.size := by omega
      go_upto_region 13 with fail
      go_region_held3 (fun wz => ∀ b o, b < wo.heap.size → wz.cell? ⟨b, o, none⟩ = wo.cell? ⟨b, o, none⟩)
        ((intro b o hb; (repeat first | rw [World.cell?_setCell_far _ _ _ _ (by first | omega | (simp; omega) | (simp; done))] | rw [cell_drew] | rw [World.cell?_alloc_past _ _ _ (by first | omega | (simp; omega) | (simp; done))] | rw [hb2.cell (p := ⟨b, o, none⟩) (by first | omega | (simp; omega) | (simp; done))]); done))
        (((with_reducible refine Calls.mono (inSet_any q s.a1 s.a2 s.a3 s.a4 s.a5 s.a6 s.a7 _) ?_); rintro e w2 ⟨rfl, hb2⟩))
      repeat (rename (∀ b o, b < wo.heap.size → World.cell? _ ⟨b, o, none⟩ = _) => hSS; clear hSS)
      have hb3 : Below wo.heap.size wo w2 := Below.trans (Below.drew (Below.refl wo.heap.size wo)) hb2
      have hbl2 := hbl.trans (hb3.mono hbl.size)
      have hz2 : wo.heap.size ≤ w2.heap.size := hb3.size
      clear s0 s1 s2 s3 s4 s5 s6 s7 cw hb2
      have hE2 := hE5.below hbl2 hE5.lt
      go_upto_block 2 with fail
      go_cut [20] (fun fr wx => fr = .bool (q == 1) ∧ Below wo.heap.size wo wx)
      case first =>
        go_wp2_with fail
        go_loopg [20, 21] n (fun gk fr j wx => ∃ m : Nat, m + gk = n ∧ j = .int .u32 m ∧ fr = .bool (freeU es Q k m) ∧ Below w2.heap.size w2 wx)
        case atStart => exact ⟨0, by omega, rfl, rfl, Below.refl _ _⟩
        case round =>
          obtain ⟨m, hm, rfl, rfl, hbx⟩ := hrel
          by_cases hlt2 : m < n
          · have hm0 : (m : Int) < (n : Int) := by omega
            have hm1 : (0 : Int) ≤ (m : Int) := Int.natCast_nonneg _
            have hmw : IntKind.u32.wrap ((m : Int) + 1) = (m : Int) + 1 := by rw [IntKind.wrap_u32]; omega
            have hst : freeU es Q k (m + 1) = (freeU es Q k m && !(nearB es k m && (Q m == 1))) := rfl
            obtain ⟨t, ht8⟩ := HST.out m hlt2
            have HT8 := Lib.hid ht8
            clear ht8
            have hEx := hE2.below hbx hE2.lt
            have hzx := hbx.size
            have hblx := hbl2.trans (hbx.mono hbl2.size)
            have hsx : sb < wr.heap.size := by omega
            generalize freeU es Q k m = f at *
            cases hnr : nearB es k m
            · have hst' : freeU es Q k (m + 1) = f := by rw [hst, hnr]; simp
              have HS := Lib.hid hst'
              have HNR := Lib.hid hnr
              clear hst hst' hnr
              go_wp2_with (go_at_call 39; refine (nearL_any a2 cap2 g2 0 es k m _ hEx hlen2).mono ?_; rintro e w4 ⟨rfl, hb4⟩; rw [HNR.out])
              go_roundg (gk - 1)
              case measure => omega
              case rel => exact ⟨m + 1, by omega, by go_num, by rw [HS.out], hbx.trans (hb4.mono hzx)⟩
            · have HNR := Lib.hid hnr
              rw [hnr] at hst
              clear hnr
              obtain ⟨r, hr1⟩ : ∃ r, r = Q m := ⟨_, rfl⟩
              rw [← hr1] at hst
              have HR1 := Lib.hid hr1
              clear hr1
              by_cases hq1 : r = 1
              · have hst' : freeU es Q k (m + 1) = false := by rw [hst, hq1]; simp
                have HS := Lib.hid hst'
                clear hst hst'
                subst hq1
                go_wp2_with (go_at_call 39; refine (nearL_any a2 cap2 g2 0 es k m _ hEx hlen2).mono ?_; rintro e w4 ⟨rfl, hb4⟩; rw [HNR.out]; have e0 := (HT8.out w4 (hblx.trans (hb4.mono hblx.size))).1; rw [← HR1.out] at e0; have hz4 := hb4.size)
                go_roundg (gk - 1)
                case measure => omega
                case rel => exact ⟨m + 1, by omega, by go_num, by rw [HS.out], hbx.trans (hb4.mono hzx)⟩
              · have hq2 : ((r : Int) == 1) = false := by rw [beq_eq_false_iff_ne]; omega
                have hst' : freeU es Q k (m + 1) = f := by rw [hst]; simp [hq1]
                have HS := Lib.hid hst'
                clear hst hst' hq1
                go_wp2_with (go_at_call 39; refine (nearL_any a2 cap2 g2 0 es k m _ hEx hlen2).mono ?_; rintro e w4 ⟨rfl, hb4⟩; rw [HNR.out]; have e0 := (HT8.out w4 (hblx.trans (hb4.mono hblx.size))).1; rw [← HR1.out] at e0; have hz4 := hb4.size)
                go_roundg (gk - 1)
                case measure => omega
                case rel => exact ⟨m + 1, by omega, by go_num, by rw [HS.out], hbx.trans (hb4.mono hzx)⟩
          · obtain rfl : m = n := by omega
            go_wp2
            go_meet
            exact ⟨by rw [HFK.out], hb3.trans (hbx.mono hz2)⟩
      case rest =>
        obtain ⟨rfl, hbx⟩ := hcut
        have hblx := hbl.trans (hbx.mono hbl.size)
        have c0 := (HS8.out wc hblx).1
        rw [← HQK.out] at c0
        have hzx := hbx.size
        have hsx : sb < wc.heap.size := by omega
        by_cases hq1 : q = 1
        · subst hq1
          go_wp2
          go_roundg (gk - 1)
          case measure => omega
          case rel => exact ⟨k + 1, by omega, by go_num, hblx⟩
        · have hq2 : ((q : Int) == 1) = false := by rw [beq_eq_false_iff_ne]; omega
          have hq3 : (q == 1) = false := by rw [beq_eq_false_iff_ne]; exact hq1
          go_wp2
          go_roundg (gk - 1)
          case measure => omega
          case rel => exact ⟨k + 1, by omega, by go_num, hblx⟩
    · obtain rfl : k = n := by omega
      go_wp2
      go_ret
      exact ⟨rfl, hbl5.trans (hbl.mono hbl5.size)⟩

end Go.Proofs.Ytjmggfpomnnegaa
