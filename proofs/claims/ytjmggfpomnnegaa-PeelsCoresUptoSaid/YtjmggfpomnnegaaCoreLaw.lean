/-
  The walk of PeelsCores.
-/
import Derived.Test.YtjmggfpomnnegaaCoreRef
import Derived.Test.YtjmggfpomnnegaaSetLaw
namespace Go.Proofs.Ytjmggfpomnnegaa
open Go.RowKit
set_option maxRecDepth 100000

set_option maxHeartbeats 400000 in
theorem coreOf_any (s0 s1 s2 s3 s4 s5 s6 s7 : Nat) (w : World) :
    Calls Try.prog 31 #[.agg #[.int .u64 s0, .int .u64 s1, .int .u64 s2, .int .u64 s3, .int .u64 s4, .int .u64 s5, .int .u64 s6, .int .u64 s7]] w fun e w' => e = .returned (.int .u64 s0) ∧ Below w.heap.size w w' := by
  go_enter Try.func31, Try.ntmps31
  go_wp2
  go_ret
  exact ⟨rfl, (by repeat (first | with_reducible exact Below.refl _ _ | with_reducible assumption | with_reducible refine below_drewN ?_ _ | with_reducible refine Below.drew ?_ | ((with_reducible refine Bset ?_ ?_); focus (first | omega | (simp; done) | (simp; omega))) | ((with_reducible refine Ball ?_ ?_); focus (first | omega | (simp; done) | (simp; omega)))))⟩

set_option maxHeartbeats 2000000 in
theorem coreLaw_any (many : Nat) (a : Option Addr) (cap eb eo : Nat) (raw : List Ed) (flip : Int) (w : World)
    (hR : IsEds w a eb eo raw) (hlen : raw.length ≤ 1048576) (hs : ∀ e ∈ raw, e.src ≤ 4294967295 ∧ e.dst ≤ 4294967295) :
    Calls Try.prog 5 #[.int .u32 many, .slice a raw.length cap, .int .i64 flip] w fun e w' => e = .returned (.bool true) ∧ Below w.heap.size w w' := by
  obtain ⟨n, hn⟩ : ∃ n : Nat, n = 1 + many % 24 := ⟨_, rfl⟩
  have he : (1 + (many : Int) % 24) = (n : Int) := by omega
  have HE := Lib.hid he
  have hn1 : 1 ≤ n := by omega
  have hn24 : n ≤ 24 := by omega
  obtain ⟨lim, hlim⟩ : ∃ lim : Nat, lim = 2 * n + 1 := ⟨_, rfl⟩
  have hli : 2 * (n : Int) + 1 = (lim : Int) := by omega
  have HLI := Lib.hid hli
  have HLM := Lib.hid hlim
  have hlim24 : lim ≤ 4294967296 := by omega
  clear hn he hli hlim
  go_enter Try.func5, Try.ntmps5
  go_upto_region 2 with fail
  rw [HE.out]
  go_upto_region 3 with (go_at_call 27; refine (graph_any n (by omega) a eb eo cap raw _ hlen (by omega) hs hR).mono ?_; rintro e w2 ⟨es, a2, cap2, g2, hES, rfl, hE2, hb2⟩)
  have hlen2 : es.length ≤ 1048576 := by rw [hES.out, List.length_map]; exact hlen
  have hes : ∀ e ∈ es, e.src < n ∧ e.dst < n := by
    intro e he
    rw [hES.out] at he
    obtain ⟨e', _, rfl⟩ := List.mem_map.1 he
    exact ⟨Nat.mod_lt _ hn1, Nat.mod_lt _ hn1⟩
  clear hES hR
  go_upto_region 6 with (go_at_call 28; refine (core_made _).mono ?_; rintro e w3 ⟨pb, rfl, hpb, hcp, hb3⟩)
  have hE3 := hE2.below hb3 hE2.lt
  have hbl3 := hb2.trans (hb3.mono hb2.size)
  clear hE2 hb2 hb3 hpb
  go_upto_region 9 with (go_at_call 29; rw [HLI.out]; with_reducible refine Calls.mono (run_any coreP _ n (coreP_ok n) pb g2 0 cap2 a2 es flip lim _ hcp hE3 hlen2 (by omega) hlim24 hes) ?_; rintro e w4 ⟨sb, ss, rr, dn, fl, rfl, hS, hSl, hb4, hends⟩; rw [HLM.out] at hends; obtain ⟨rfl, hfin⟩ := core_ends hn1 (by omega) hes hlen2 fl hends; clear hends)
  have hE4 := hE3.below hb4 hE3.lt
  have hbl4 := hbl3.trans (hb4.mono hbl3.size)
  clear hE3 hbl3 hb4 hcp
  go_upto_block 0 with (go_at_call 30; refine (cores_any n a2 cap2 g2 0 es _ hn1 (by omega) hE4 hlen2 hes).mono ?_; rintro e w5 ⟨fb, cl, rfl, hF, hcl, hcore, hb5⟩)
  have hbl5 := hbl4.trans (hb5.mono hbl4.size)
  have hS5 := own_below hS hb5 (own_lt hS).2
  have hsz := (own_lt hS5).2
  have hfz := (own_lt hF).2
  have hwant : ∀ v, v < n → w5.cell? ⟨fb, v, none⟩ = some (.int .u64 (inAt cl v : Nat)) := fun v hv => own_nat hF hcl hv
  have hSt := IsSts.of_own hS5 hSl hsz
  have hstate : ∀ v, v < n → ∃ s : St, (∀ w', Below w5.heap.size w5 w' → w'.cell? ⟨sb, v * 8, none⟩ = some (.int .u64 (inAt cl v : Nat)) ∧ w'.cell? ⟨sb, v * 8 + 1, none⟩ = some (.int .u64 s.a1) ∧ w'.cell? ⟨sb, v * 8 + 2, none⟩ = some (.int .u64 s.a2) ∧ w'.cell? ⟨sb, v * 8 + 3, none⟩ = some (.int .u64 s.a3) ∧ w'.cell? ⟨sb, v * 8 + 4, none⟩ = some (.int .u64 s.a4) ∧ w'.cell? ⟨sb, v * 8 + 5, none⟩ = some (.int .u64 s.a5) ∧ w'.cell? ⟨sb, v * 8 + 6, none⟩ = some (.int .u64 s.a6) ∧ w'.cell? ⟨sb, v * 8 + 7, none⟩ = some (.int .u64 s.a7)) := by
    intro v hv
    have hv2 : v < ss.length := by omega
    refine ⟨ss[v], fun w' hb => ?_⟩
    have hx := hSt.below hb hsz
    have e0 := hx.c0 v hv2
    have e1 := hx.c1 v hv2
    have e2 := hx.c2 v hv2
    have e3 := hx.c3 v hv2
    have e4 := hx.c4 v hv2
    have e5 := hx.c5 v hv2
    have e6 := hx.c6 v hv2
    have e7 := hx.c7 v hv2
    rw [Nat.zero_add] at e0 e1 e2 e3 e4 e5 e6 e7
    have h0 := core_one (hfin v hv) (hcore v hv)
    rw [stAt_get ss v hv2] at h0
    rw [h0] at e0
    exact ⟨e0, e1, e2, e3, e4, e5, e6, e7⟩
  clear hSt hS5 hS hF hb5 hbl4 hE4 hfin hSl hcl hcore HE HLI HLM hlim24
  have HW := Lib.hid hwant
  have HST := Lib.hid hstate
  clear hwant hstate
  go_wp2_with fail
  go_loopg [15] n (fun gk v wr => ∃ k : Nat, k + gk = n ∧ v = .int .u32 k ∧ Below w5.heap.size w5 wr)
  case atStart => exact ⟨0, by omega, rfl, Below.refl _ _⟩
  case round =>
    obtain ⟨k, hk, rfl, hbl⟩ := hrel
    obtain ⟨wo, rfl⟩ : ∃ wo : World, wo = wr := ⟨_, rfl⟩
    by_cases hlt : k < n
    · have hk0 : (k : Int) < (n : Int) := by omega
      have hk1 : (0 : Int) ≤ (k : Int) := Int.natCast_nonneg _
      have hkw : IntKind.u32.wrap ((k : Int) + 1) = (k : Int) + 1 := by rw [IntKind.wrap_u32]; omega
      obtain ⟨s, hs8⟩ := HST.out k hlt
      obtain ⟨s0, s1, s2, s3, s4, s5, s6, s7⟩ := hs8 wo hbl
      have cw : wo.cell? ⟨fb, k, none⟩ = some (.int .u64 (inAt cl k : Nat)) := by rw [hbl.cell (p := ⟨fb, k, none⟩) hfz]; exact HW.out k hlt
      clear hs8
      obtain ⟨q, hq⟩ : ∃ q, q = inAt cl k := ⟨_, rfl⟩
      rw [← hq] at s0 cw
      clear hq
      have hzo := hbl.size
      have hsz1 : sb < wo.heap.size := by omega
      have hfz1 : fb < wo.heap.size := by omega
      go_upto_region 13 with fail
      go_region_held3 (fun wz => ∀ b o, b < wo.heap.size → wz.cell? ⟨b, o, none⟩ = wo.cell? ⟨b, o, none⟩)
        ((intro b o hb; (repeat first | rw [World.cell?_setCell_far _ _ _ _ (by first | omega | (simp; omega) | (simp; done))] | rw [cell_drew] | rw [World.cell?_alloc_past _ _ _ (by first | omega | (simp; omega) | (simp; done))] | rw [hb2.cell (p := ⟨b, o, none⟩) (by first | omega | (simp; omega) | (simp; done))]); done))
        (((with_reducible refine Calls.mono (coreOf_any q s.a1 s.a2 s.a3 s.a4 s.a5 s.a6 s.a7 _) ?_); rintro e w2 ⟨rfl, hb2⟩))
      repeat (rename (∀ b o, b < wo.heap.size → World.cell? _ ⟨b, o, none⟩ = _) => hSS; clear hSS)
      have hb3 : Below wo.heap.size wo w2 := Below.trans (Below.drew (Below.refl wo.heap.size wo)) hb2
      have hbl2 := hbl.trans (hb3.mono hbl.size)
      clear s0 s1 s2 s3 s4 s5 s6 s7 cw hb2 hb3
      go_wp2
      go_roundg (gk - 1)
      case measure => omega
      case rel => exact ⟨k + 1, by omega, by go_num, hbl2⟩
    · obtain rfl : k = n := by omega
      go_wp2
      go_ret
      exact ⟨rfl, hbl5.trans (hbl.mono hbl5.size)⟩

end Go.Proofs.Ytjmggfpomnnegaa
