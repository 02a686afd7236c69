/-
  The document's Cores: the walk.
-/
import Derived.Test.YtjmggfpomnnegaaCoreLists
namespace Go.Proofs.Ytjmggfpomnnegaa
open Go.RowKit
set_option maxRecDepth 100000

theorem Try.info4 : (Try.prog.info? 4).map (fun i => (i.zero, i.size, i.bytes)) = some (some (.bool false), 1, 1) := by kernel_rfl

theorem madeCells_bool (n : Nat) : (madeCells #[.bool false] (n * 1)).toList = boolCells (List.replicate n false) := by
  apply List.ext_getElem?
  intro k
  rw [Nat.mul_one]
  by_cases hk : k < n
  · rw [bool_get _ _ (by simp [hk])]
    simp [madeCells, hk, Nat.mod_one, lat]
  · rw [List.getElem?_eq_none (by simp [madeCells]; omega), List.getElem?_eq_none (by rw [bool_len]; simp; omega)]

theorem own_bool {w : World} {base g n : Nat} {L : List Bool} (h : w.ownsRow base 4 1 (.slice (some ⟨g, 0, none⟩) n n) n (boolCells L)) (hl : L.length = n) {v : Nat} (hv : v < n) : w.cell? ⟨g, v, none⟩ = some (.bool (lat L v)) := by
  rw [h.cellAt _ (by omega), bool_get _ _ (by omega)]
theorem own_nat {w : World} {base g n : Nat} {l : List Nat} (h : w.ownsRow base 23 1 (.slice (some ⟨g, 0, none⟩) n n) n (u64Cells l)) (hl : l.length = n) {v : Nat} (hv : v < n) : w.cell? ⟨g, v, none⟩ = some (.int .u64 (inAt l v : Nat)) := by
  rw [h.cellAt _ (by omega), u64_get _ _ (by omega)]

set_option maxHeartbeats 4000000 in
theorem cores_any (n : Nat) (x : Option Addr) (cap eb eo : Nat) (es : List Ed) (w : World) (hn1 : 1 ≤ n) (hn : n ≤ 65536) (hE : IsEds w x eb eo es) (hlen : es.length ≤ 1048576) (hes : ∀ e ∈ es, e.src < n ∧ e.dst < n) :
    Calls Try.prog 30 #[.int .u32 n, .slice x es.length cap] w fun e w' =>
      ∃ (cb : Nat) (cl : List Nat), e = .returned (.slice (some ⟨cb, 0, none⟩) n n) ∧ w'.ownsRow w.heap.size 23 1 (.slice (some ⟨cb, 0, none⟩) n n) n (u64Cells cl) ∧ cl.length = n ∧ (∀ v, v < n → IsCore n es v (inAt cl v)) ∧ Below w.heap.size w w' := by
  obtain ⟨i0, hi, hz0, hz1, hz2⟩ := info_parts Try.info23
  obtain ⟨i1, hi1, hz10, hz11, hz12⟩ := info_parts Try.info4
  have hmk : ∀ w, (Instr.makeSlice 77 (.int .u32 n) (.int .u32 n)).run Try.prog w = .ok (.slice (some ⟨w.heap.size, 0, none⟩) n n) (w.alloc (.cells (madeCells #[.int .u64 0] (n * 1)) 23)) := by
    intro w
    have := run_make w 77 23 i0 (.int .u64 0) Try.underlying77 hi hz0 .u32 .u32 n n (by omega) (by omega) (by rw [hz2]; omega) (by omega)
    rw [hz1] at this
    simp only [Int.toNat_natCast, Value.cells] at this
    exact this
  have hmb : ∀ w, (Instr.makeSlice 114 (.int .u32 n) (.int .u32 n)).run Try.prog w = .ok (.slice (some ⟨w.heap.size, 0, none⟩) n n) (w.alloc (.cells (madeCells #[.bool false] (n * 1)) 4)) := by
    intro w
    have := run_make w 114 4 i1 (.bool false) Try.underlying114 hi1 hz10 .u32 .u32 n n (by omega) (by omega) (by rw [hz12]; omega) (by omega)
    rw [hz11] at this
    simp only [Int.toNat_natCast, Value.cells] at this
    exact this
  have hrow64 : ∀ w0 : World, (w0.alloc (.cells (madeCells #[.int .u64 0] n) 23)).ownsRow w0.heap.size 23 1 (.slice (some ⟨w0.heap.size, 0, none⟩) n n) n (u64Cells (List.replicate n 0)) := by
    intro w0
    have := World.ownsRow_lit (base := w0.heap.size) (e := 23) (size := 1) w0 (madeCells #[.int .u64 0] (n * 1)) n (Nat.le_refl _) (by unfold maxLen; omega) (by rw [size_madeCells])
    rw [madeCells_u64, Nat.mul_one] at this
    exact this
  have hrowB : ∀ w0 : World, (w0.alloc (.cells (madeCells #[.bool false] n) 4)).ownsRow w0.heap.size 4 1 (.slice (some ⟨w0.heap.size, 0, none⟩) n n) n (boolCells (List.replicate n false)) := by
    intro w0
    have := World.ownsRow_lit (base := w0.heap.size) (e := 4) (size := 1) w0 (madeCells #[.bool false] (n * 1)) n (Nat.le_refl _) (by unfold maxLen; omega) (by rw [size_madeCells])
    rw [madeCells_bool, Nat.mul_one] at this
    exact this
  have HR64 := Lib.hid hrow64
  have HRB := Lib.hid hrowB
  clear hrow64 hrowB
  simp only [Nat.mul_one] at hmk hmb
  go_enter Try.func30, Try.ntmps30
  go_upto_block 0 with fail
  go_wp2_with fail
  go_loopg [6, 7, 8, 9, 10, 11, 12, 13, 14, 15] (2 * es.length) (fun gk kv _ _ _ _ _ _ _ _ _ wr => ∃ (j : Nat) (cl : List Nat), j + gk = 2 * es.length ∧ kv = .int .u64 (j + 1 : Nat) ∧ Lev n es j cl ∧ Below w.heap.size w wr ∧ wr.ownsRow w.heap.size 23 1 (.slice (some ⟨w.heap.size, 0, none⟩) n n) n (u64Cells cl) ∧ w.heap.size < wr.heap.size)
  case atStart => exact ⟨0, List.replicate n 0, by omega, rfl, lev_zero n es, (by repeat (first | with_reducible exact Below.refl _ _ | with_reducible assumption | with_reducible refine below_drewN ?_ _ | with_reducible refine Below.drew ?_ | ((with_reducible refine Bset ?_ ?_); focus (first | omega | (simp; done) | (simp; omega))) | ((with_reducible refine Ball ?_ ?_); focus (first | omega | (simp; done) | (simp; omega))))), HR64.out w, by simp⟩
  case round =>
    obtain ⟨j, cl, hj, rfl, hlev, hbl, hcore, hsz⟩ := hrel
    obtain ⟨wo, rfl⟩ : ∃ wo : World, wo = wr := ⟨_, rfl⟩
    have hw2 : IntKind.u64.wrap (2 * (es.length : Int)) = ((2 * es.length : Nat) : Int) := by rw [IntKind.wrap_u64]; omega
    have hwl : IntKind.u64.wrap (es.length : Int) = (es.length : Int) := by rw [IntKind.wrap_u64]; omega
    have hll := hlev.1
    have HLEV := Lib.hid hlev
    clear hlev
    by_cases hlt : j < 2 * es.length
    · have hj1 : ((j + 1 : Nat) : Int) ≤ 2 * (es.length : Int) := by omega
      have hjw : IntKind.u64.wrap (((j + 1 : Nat) : Int) - 1) = (j : Int) := by rw [IntKind.wrap_u64]; omega
      have hjn : IntKind.u64.wrap (((j + 1 : Nat) : Int) + 1) = ((j + 1 + 1 : Nat) : Int) := by rw [IntKind.wrap_u64]; omega
      obtain ⟨J, hJ⟩ : ∃ J : Int, J = ((j + 1 : Nat) : Int) := ⟨_, rfl⟩
      rw [← hJ] at hj1 hjw hjn ⊢
      have HJ := Lib.hid hJ
      clear hJ
      have hE1 := hE.below hbl hE.lt
      have hB0 := Ball (o := .cells (madeCells #[.bool false] n) 4) (Nat.le_refl _) (Below.refl wo.heap.size wo)
      go_upto_block 2 with fail
      have hL0 := HRB.out wo
      rw [← initL_zero n cl j] at hL0
      generalize wo.alloc (.cells (madeCells #[.bool false] n) 4) = W0 at *
      go_cut [] (fun wx => Below wo.heap.size wo wx ∧ wx.ownsRow wo.heap.size 4 1 (.slice (some ⟨wo.heap.size, 0, none⟩) n n) n (boolCells (initL n cl j n)))
      case first =>
        -- DEV<
        go_wp2_with fail
        go_loopg [9] n (fun gk v wx => ∃ m : Nat, m + gk = n ∧ v = .int .u32 m ∧ Below wo.heap.size wo wx ∧ wx.ownsRow wo.heap.size 4 1 (.slice (some ⟨wo.heap.size, 0, none⟩) n n) n (boolCells (initL n cl j m)))
        case atStart => exact ⟨0, by omega, rfl, hB0, hL0⟩
        case round =>
          obtain ⟨m, hm, rfl, hbx, hleft⟩ := hrel
          by_cases hlt2 : m < n
          · have c1 := own_nat (own_below hcore hbx hsz) hll hlt2
            have c2 := own_bool hleft (tab_len _ _) hlt2
            have f2 := hleft.frozenAt m
            have hz := (own_lt hleft).2
            have hzc : w.heap.size < wr.heap.size := by omega
            have hnew := (hleft.stored m (.bool (inAt cl m == j))).1
            rw [bool_set, initL_step n cl j hlt2] at hnew
            have HN := Lib.hid hnew
            clear hnew hleft
            have hm0 : (m : Int) < (n : Int) := by omega
            have hm1 : (0 : Int) ≤ (m : Int) := Int.natCast_nonneg _
            have hmw : IntKind.u32.wrap ((m : Int) + 1) = (m : Int) + 1 := by rw [IntKind.wrap_u32]; omega
            generalize lat (initL n cl j m) m = old at *
            obtain ⟨q, hq⟩ : ∃ q, q = inAt cl m := ⟨_, rfl⟩
            rw [← hq] at c1 HN
            clear hq
            by_cases hq1 : q = j
            · have hq2 : ((q : Int) == (j : Int)) = true := by rw [beq_iff_eq]; omega
              have hq3 : (q == j) = true := by rw [beq_iff_eq]; exact hq1
              rw [hq3] at HN
              clear hq1 hq3
              go_wp2
              go_roundg (gk - 1)
              case measure => omega
              case rel => exact ⟨m + 1, by omega, by go_num, (by repeat (first | with_reducible exact Below.refl _ _ | with_reducible assumption | with_reducible refine below_drewN ?_ _ | with_reducible refine Below.drew ?_ | ((with_reducible refine Bset ?_ ?_); focus (first | omega | (simp; done) | (simp; omega))) | ((with_reducible refine Ball ?_ ?_); focus (first | omega | (simp; done) | (simp; omega))))), HN.out⟩
            · have hq2 : ((q : Int) == (j : Int)) = false := by rw [beq_eq_false_iff_ne]; omega
              have hq3 : (q == j) = false := by rw [beq_eq_false_iff_ne]; exact hq1
              rw [hq3] at HN
              clear hq1 hq3
              go_wp2
              go_roundg (gk - 1)
              case measure => omega
              case rel => exact ⟨m + 1, by omega, by go_num, (by repeat (first | with_reducible exact Below.refl _ _ | with_reducible assumption | with_reducible refine below_drewN ?_ _ | with_reducible refine Below.drew ?_ | ((with_reducible refine Bset ?_ ?_); focus (first | omega | (simp; done) | (simp; omega))) | ((with_reducible refine Ball ?_ ?_); focus (first | omega | (simp; done) | (simp; omega))))), HN.out⟩
          · obtain rfl : m = n := by omega
            go_wp2
            go_meet
            exact ⟨hbx, hleft⟩
        -- DEV>
      case rest =>
        obtain ⟨hbx, hleft⟩ := hcut
        have hLFT := lft_init HLEV.out
        generalize initL n cl j n = L0 at *
        clear hL0 hB0
        go_upto_block 4 with fail
        go_cut [10, 11, 12, 13, 14] (fun _ _ _ _ _ wx => ∃ L, Lft n es j cl L ∧ Stable es j L ∧ Below wo.heap.size wo wx ∧ wx.ownsRow wo.heap.size 4 1 (.slice (some ⟨wo.heap.size, 0, none⟩) n n) n (boolCells (L)))
        case first =>
          -- DEV<
          go_wp2_with fail
          go_loopg [10, 11, 12, 13, 14] (n + 1) (fun gk ag _ _ _ _ wx => ∃ (L : List Bool) (b : Bool), ag = .bool b ∧ Lft n es j cl L ∧ Below wo.heap.size wo wx ∧ wx.ownsRow wo.heap.size 4 1 (.slice (some ⟨wo.heap.size, 0, none⟩) n n) n (boolCells (L)) ∧ (b = true → cntL n L < gk) ∧ (b = false → Stable es j L))
          case atStart =>
            refine ⟨L0, true, rfl, hLFT, hbx, hleft, fun _ => ?_, fun h => absurd h (by simp)⟩
            have h1 : (List.range n).countP (lat L0) ≤ (List.range n).length := List.countP_le_length
            rw [List.length_range] at h1
            unfold cntL
            omega
          case round =>
            obtain ⟨L, b, rfl, hLft, hbx, hleft, hcnt, hst⟩ := hrel
            cases b
            · have hst1 := hst rfl
              clear hcnt hst
              go_wp2
              go_meet
              exact ⟨L, hLft, hst1, hbx, hleft⟩
            · have hcnt := hcnt rfl
              clear hst
              obtain ⟨wp, rfl⟩ : ∃ wp : World, wp = wr := ⟨_, rfl⟩
              have hLl := hLft.1
              have HLFT := Lib.hid hLft
              clear hLft
              have hlbp : wo.heap.size < wp.heap.size := (own_lt hleft).2
              go_upto_block 6 with fail
              have hd0 := HR64.out wp
              rw [← degRow_nil n L] at hd0
              have hB1 := Ball (o := .cells (madeCells #[.int .u64 0] n) 23) (Nat.le_refl _) (Below.refl wp.heap.size wp)
              generalize wp.alloc (.cells (madeCells #[.int .u64 0] n) 23) = W1 at *
              go_cut [12, 13] (fun _ _ wx => Below wp.heap.size wp wx ∧ wx.ownsRow wp.heap.size 23 1 (.slice (some ⟨wp.heap.size, 0, none⟩) n n) n (u64Cells (degRow n L es)))
              case first =>
                go_wp2_with fail
                go_loopg [12, 13] es.length (fun gk i _ wx => ∃ m : Nat, m + gk = es.length ∧ i = .int .i64 m ∧ Below wp.heap.size wp wx ∧ wx.ownsRow wp.heap.size 23 1 (.slice (some ⟨wp.heap.size, 0, none⟩) n n) n (u64Cells (degRow n L (es.take m))))
                case atStart => exact ⟨0, by omega, rfl, hB1, hd0⟩
                case round =>
                  obtain ⟨m, hm, rfl, hbd, hdeg⟩ := hrel
                  by_cases hlt3 : m < es.length
                  · have hEx := (hE1.below hbx hE1.lt).below hbd (fun h => by have := hE1.lt h; omega)
                    obtain rfl := hE.ad (by omega)
                    have c0 := hEx.c0 m hlt3
                    have c1 := hEx.c1 m hlt3
                    have c2 := hEx.c2 m hlt3
                    have hebz : eb < wr.heap.size := hEx.lt (by omega)
                    have hsd := hes es[m] (List.getElem_mem _)
                    have hsn : es.take (m + 1) = es.take m ++ [es[m]] := by rw [List.take_succ_eq_append_getElem hlt3]
                    obtain ⟨src, dst, x3, hes3⟩ : ∃ src dst x, es[m] = ⟨src, dst, x⟩ := ⟨_, _, _, rfl⟩
                    rw [hes3] at c0 c1 c2 hsd hsn
                    simp only [] at c0 c1 c2 hsd
                    have HSN := Lib.hid hsn
                    clear hsn hes3 hEx
                    have hm0 : (m : Int) < (es.length : Int) := by omega
                    have hm1 : (0 : Int) ≤ (m : Int) := Int.natCast_nonneg _
                    have hs1 : (src : Int) < n := by omega
                    have hs0 : (0 : Int) ≤ (src : Int) := Int.natCast_nonneg _
                    have hd1 : (dst : Int) < n := by omega
                    have hdd0 : (0 : Int) ≤ (dst : Int) := Int.natCast_nonneg _
                    have cl1 := own_bool (own_below hleft hbd hlbp) hLl hsd.1
                    have cl2 := own_bool (own_below hleft hbd hlbp) hLl hsd.2
                    have cd1 := own_nat hdeg (tab_len _ _) hsd.1
                    have cd2 := own_nat hdeg (tab_len _ _) hsd.2
                    rw [deg_at _ _ hsd.1] at cd1
                    rw [deg_at _ _ hsd.2] at cd2
                    have f1 := hdeg.frozenAt src
                    have f2 := hdeg.frozenAt dst
                    have hzd := (own_lt hdeg).2
                    have hzl : wo.heap.size < wr.heap.size := by omega
                    have hx1 := dgT_le (es.take m) (lat L) src
                    have hx2 := dgT_le (es.take m) (lat L) dst
                    have hlk : (es.take m).length ≤ m := List.length_take_le _ _
                    by_cases hc : src ≠ dst ∧ lat L src = true ∧ lat L dst = true
                    · obtain ⟨hne, hls, hld⟩ := hc
                      have hdc : dcond L ⟨src, dst, x3⟩ = true := by unfold dcond; simp [hne, hls, hld]
                      have hnew := degRow_yes n L (es.take m) ⟨src, dst, x3⟩ hdc hsd.1 hsd.2
                      rw [← HSN.out] at hnew
                      simp only [] at hnew
                      have hst2 := ((hdeg.stored src (.int .u64 (dgT (es.take m) (lat L) src + 1 : Nat))).1.stored dst (.int .u64 (dgT (es.take m) (lat L) dst + 1 : Nat))).1.alloc (.cells #[.int .u32 src, .int .u32 dst, .int .u32 x3] 37)
                      rw [u64_set, u64_set, hnew] at hst2
                      have HST := Lib.hid hst2
                      clear hst2 hnew hdc hdeg
                      rw [hls] at cl1
                      rw [hld] at cl2
                      clear hls hld
                      generalize dgT (es.take m) (lat L) src = X1 at *
                      generalize dgT (es.take m) (lat L) dst = X2 at *
                      have hw1 : IntKind.u64.wrap ((X1 : Int) + 1) = ((X1 + 1 : Nat) : Int) := by rw [IntKind.wrap_u64]; omega
                      have hw3 : IntKind.u64.wrap ((X2 : Int) + 1) = ((X2 + 1 : Nat) : Int) := by rw [IntKind.wrap_u64]; omega
                      have hne1 : ¬ src = dst := hne
                      have hne2 : ¬ dst = src := fun h => hne h.symm
                      have hne3 : ((src : Int) != (dst : Int)) = true := by rw [bne_iff_ne]; omega
                      have hne4 : ¬ wo.heap.size = wp.heap.size := by omega
                      clear hne
                      go_wp2
                      go_roundg (gk - 1)
                      case measure => omega
                      case rel =>
                        refine ⟨m + 1, by omega, by go_num, (by repeat (first | with_reducible exact Below.refl _ _ | with_reducible assumption | with_reducible refine below_drewN ?_ _ | with_reducible refine Below.drew ?_ | ((with_reducible refine Bset ?_ ?_); focus (first | omega | (simp; done) | (simp; omega))) | ((with_reducible refine Ball ?_ ?_); focus (first | omega | (simp; done) | (simp; omega))))), ?_⟩
                        have := HST.out
                        simpa using this
                    · have hdc : dcond L ⟨src, dst, x3⟩ = false := by
                        unfold dcond
                        by_cases h1 : src = dst
                        · simp [h1]
                        · cases h2 : lat L src
                          · simp
                          · cases h3 : lat L dst
                            · simp
                            · exact absurd ⟨h1, h2, h3⟩ hc
                      have hnew := degRow_no n L (es.take m) ⟨src, dst, x3⟩ hdc
                      rw [← HSN.out] at hnew
                      rw [← hnew] at hdeg
                      have HST := Lib.hid (hdeg.alloc (.cells #[.int .u32 src, .int .u32 dst, .int .u32 x3] 37))
                      clear hnew hdc hdeg
                      generalize dgT (es.take m) (lat L) src = X1 at *
                      generalize dgT (es.take m) (lat L) dst = X2 at *
                      by_cases h1 : src = dst
                      · have hne3 : ((src : Int) != (dst : Int)) = false := by simp [h1]
                        clear hc h1
                        go_wp2
                        go_roundg (gk - 1)
                        case measure => omega
                        case rel => exact ⟨m + 1, by omega, by go_num, (by repeat (first | with_reducible exact Below.refl _ _ | with_reducible assumption | with_reducible refine below_drewN ?_ _ | with_reducible refine Below.drew ?_ | ((with_reducible refine Bset ?_ ?_); focus (first | omega | (simp; done) | (simp; omega))) | ((with_reducible refine Ball ?_ ?_); focus (first | omega | (simp; done) | (simp; omega))))), HST.out⟩
                      · have hne3 : ((src : Int) != (dst : Int)) = true := by rw [bne_iff_ne]; omega
                        cases h2 : lat L src
                        · rw [h2] at cl1
                          clear hc h2
                          go_wp2
                          go_roundg (gk - 1)
                          case measure => omega
                          case rel => exact ⟨m + 1, by omega, by go_num, (by repeat (first | with_reducible exact Below.refl _ _ | with_reducible assumption | with_reducible refine below_drewN ?_ _ | with_reducible refine Below.drew ?_ | ((with_reducible refine Bset ?_ ?_); focus (first | omega | (simp; done) | (simp; omega))) | ((with_reducible refine Ball ?_ ?_); focus (first | omega | (simp; done) | (simp; omega))))), HST.out⟩
                        · have h3 : lat L dst = false := by
                            cases h3 : lat L dst
                            · rfl
                            · exact absurd ⟨h1, h2, h3⟩ hc
                          rw [h2] at cl1
                          rw [h3] at cl2
                          clear hc h2 h3
                          go_wp2
                          go_roundg (gk - 1)
                          case measure => omega
                          case rel => exact ⟨m + 1, by omega, by go_num, (by repeat (first | with_reducible exact Below.refl _ _ | with_reducible assumption | with_reducible refine below_drewN ?_ _ | with_reducible refine Below.drew ?_ | ((with_reducible refine Bset ?_ ?_); focus (first | omega | (simp; done) | (simp; omega))) | ((with_reducible refine Ball ?_ ?_); focus (first | omega | (simp; done) | (simp; omega))))), HST.out⟩
                  · obtain rfl : m = es.length := by omega
                    rw [List.take_length] at hdeg
                    go_wp2
                    go_meet
                    exact ⟨hbd, hdeg⟩
              case rest =>
                obtain ⟨hbd, hdeg⟩ := hcut
                have hleft2 := own_below hleft hbd hlbp
                have hbx2 := hbx.trans (hbd.mono (Nat.le_of_lt hlbp))
                have hprn := lft_prune HLFT.out
                have hlss := prune_less (n := n) (es := es) (j := j) (L := L)
                have hstb := stable_of (es := es) (j := j) hLl
                have hdl : (degRow n L es).length = n := tab_len _ _
                clear hleft hbx hd0 hB1
                generalize degRow n L es = d at *
                rw [← pruneL_zero n L d (j + 1) hLl] at hleft2
                have HPR := Lib.hid hprn
                have HLS := Lib.hid hlss
                have HSTB := Lib.hid hstb
                clear hprn hlss hstb
                go_upto_block 8 with fail
                obtain ⟨gq, hgq⟩ : ∃ gq, gq = gk := ⟨_, rfl⟩
                go_wp2_with fail
                go_loopg [10, 14] n (fun gk ag v wx => ∃ m : Nat, m + gk = n ∧ v = .int .u32 m ∧ ag = .bool (again L d (j + 1) m) ∧ Below wo.heap.size wo wx ∧ wx.ownsRow wo.heap.size 4 1 (.slice (some ⟨wo.heap.size, 0, none⟩) n n) n (boolCells (pruneL n L d (j + 1) m)) ∧ wx.ownsRow wp.heap.size 23 1 (.slice (some ⟨wp.heap.size, 0, none⟩) n n) n (u64Cells (d)))
                case atStart => exact ⟨0, by omega, rfl, rfl, hbx2, hleft2, hdeg⟩
                case round =>
                  obtain ⟨m, hm, rfl, rfl, hbz, hleftz, hdegz⟩ := hrel
                  by_cases hlt3 : m < n
                  · have c1 := own_bool hleftz (tab_len _ _) hlt3
                    rw [pruneL_at n L d (j + 1) hlt3] at c1
                    have c2 := own_nat hdegz hdl hlt3
                    have f1 := hleftz.frozenAt m
                    have hz1 := (own_lt hleftz).2
                    have hz2 := (own_lt hdegz).2
                    have hag : again L d (j + 1) (m + 1) = (again L d (j + 1) m || (lat L m && decide (inAt d m < j + 1))) := rfl
                    have hm0 : (m : Int) < (n : Int) := by omega
                    have hm1 : (0 : Int) ≤ (m : Int) := Int.natCast_nonneg _
                    have hmw : IntKind.u32.wrap ((m : Int) + 1) = (m : Int) + 1 := by rw [IntKind.wrap_u32]; omega
                    have hno := pruneL_no n L d (j + 1) (m := m)
                    have hyes := pruneL_yes n L d (j + 1) hlt3
                    generalize again L d (j + 1) m = A at *
                    cases hl : lat L m
                    · rw [hl] at hag c1
                      have hp := hno (Or.inl hl)
                      rw [← hp] at hleftz
                      have HA := Lib.hid hag
                      clear hno hyes hag hp hl
                      go_wp2
                      go_roundg (gk - 1)
                      case measure => omega
                      case rel => exact ⟨m + 1, by omega, by go_num, by rw [HA.out]; simp, hbz, hleftz, hdegz⟩
                    · rw [hl] at hag c1
                      by_cases hq : inAt d m < j + 1
                      · have hp := hyes hq
                        have hnew := (hleftz.stored m (.bool false)).1
                        rw [bool_set, hp] at hnew
                        have hdz := hdegz.kept (hleftz.stored m (.bool false)).2 (by simp [Value.ownBlock]; omega)
                        have HN := Lib.hid hnew
                        have HDZ := Lib.hid hdz
                        have HA := Lib.hid (hag.trans (show (A || (true && decide (inAt d m < j + 1))) = true by simp [hq]))
                        have hqj : ((inAt d m : Nat) : Int) < J := by rw [HJ.out]; omega
                        clear hno hyes hag hp hl hq hnew hdz hleftz hdegz
                        generalize inAt d m = q at *
                        go_wp2
                        go_roundg (gk - 1)
                        case measure => omega
                        case rel => exact ⟨m + 1, by omega, by go_num, by rw [HA.out], (by repeat (first | with_reducible exact Below.refl _ _ | with_reducible assumption | with_reducible refine below_drewN ?_ _ | with_reducible refine Below.drew ?_ | ((with_reducible refine Bset ?_ ?_); focus (first | omega | (simp; done) | (simp; omega))) | ((with_reducible refine Ball ?_ ?_); focus (first | omega | (simp; done) | (simp; omega))))), HN.out, HDZ.out⟩
                      · have hp := hno (Or.inr hq)
                        rw [← hp] at hleftz
                        have HA := Lib.hid (hag.trans (show (A || (true && decide (inAt d m < j + 1))) = A by simp [hq]))
                        have hqj : ¬ ((inAt d m : Nat) : Int) < J := by rw [HJ.out]; omega
                        clear hno hyes hag hp hl hq
                        generalize inAt d m = q at *
                        go_wp2
                        go_roundg (gk - 1)
                        case measure => omega
                        case rel => exact ⟨m + 1, by omega, by go_num, by rw [HA.out], hbz, hleftz, hdegz⟩
                  · obtain rfl : m = n := by omega
                    cases ha : again L d (j + 1) m
                    · obtain ⟨hpe, hsb⟩ := HSTB.out ha
                      have hpr := HPR.out
                      rw [hpe] at hleftz hpr
                      clear ha
                      go_wp2
                      go_roundg (gq - 1)
                      case measure => omega
                      case rel => exact ⟨L, false, rfl, hpr, hbz, hleftz, fun h => absurd h (by simp), fun _ => hsb⟩
                    · have hless := HLS.out ha
                      clear ha
                      go_wp2
                      go_roundg (gq - 1)
                      case measure => omega
                      case rel => exact ⟨_, true, rfl, HPR.out, hbz, hleftz, fun _ => by omega, fun h => absurd h (by simp)⟩
          -- DEV>
        case rest =>
          clear hleft hLFT hbx
          obtain ⟨L, hLft, hSt, hbx, hleft⟩ := hcut
          have hcore2 := own_below hcore hbx hsz
          have hbl2 := hbl.trans (hbx.mono (Nat.le_of_lt hsz))
          have hLl := hLft.1
          have HNX := Lib.hid (lev_next HLEV.out hLft hSt)
          have HBR := Lib.hid (lev_break HLEV.out hLft hSt)
          clear hLft hSt
          rw [← raiseL_zero n cl L (j + 1) hll] at hcore2
          have hne5 : ¬ wo.heap.size = w.heap.size := by omega
          go_upto_block 10 with fail
          go_cut [8, 15] (fun sm _ wx => sm = .bool (someL L n) ∧ Below w.heap.size w wx ∧ wx.ownsRow w.heap.size 23 1 (.slice (some ⟨w.heap.size, 0, none⟩) n n) n (u64Cells (raiseL n cl L (j + 1) n)) ∧ w.heap.size < wx.heap.size)
          case first =>
            -- DEV<
            go_wp2_with fail
            go_loopg [8, 15] n (fun gk sm v wx => ∃ m : Nat, m + gk = n ∧ v = .int .u32 m ∧ sm = .bool (someL L m) ∧ Below w.heap.size w wx ∧ wx.ownsRow w.heap.size 23 1 (.slice (some ⟨w.heap.size, 0, none⟩) n n) n (u64Cells (raiseL n cl L (j + 1) m)) ∧ wx.ownsRow wo.heap.size 4 1 (.slice (some ⟨wo.heap.size, 0, none⟩) n n) n (boolCells (L)))
            case atStart => exact ⟨0, by omega, rfl, rfl, hbl2, hcore2, hleft⟩
            case round =>
              obtain ⟨m, hm, rfl, rfl, hbz, hcz, hlz⟩ := hrel
              by_cases hlt3 : m < n
              · have c1 := own_bool hlz hLl hlt3
                have c2 := own_nat hcz (tab_len _ _) hlt3
                have f2 := hcz.frozenAt m
                have hz1 := (own_lt hlz).2
                have hz2 := (own_lt hcz).2
                have hsm : someL L (m + 1) = (someL L m || lat L m) := rfl
                have hno := raiseL_no n cl L (j + 1) (m := m)
                have hyes := raiseL_yes n cl L (j + 1) hlt3
                have hm0 : (m : Int) < (n : Int) := by omega
                have hm1 : (0 : Int) ≤ (m : Int) := Int.natCast_nonneg _
                have hmw : IntKind.u32.wrap ((m : Int) + 1) = (m : Int) + 1 := by rw [IntKind.wrap_u32]; omega
                generalize someL L m = A at *
                cases hl : lat L m
                · rw [hl] at hsm c1
                  have hp := hno hl
                  rw [← hp] at hcz
                  have HA := Lib.hid hsm
                  clear hno hyes hsm hp hl
                  go_wp2
                  go_roundg (gk - 1)
                  case measure => omega
                  case rel => exact ⟨m + 1, by omega, by go_num, by rw [HA.out]; simp, hbz, hcz, hlz⟩
                · rw [hl] at hsm c1
                  have hp := hyes hl
                  have hnew := (hcz.stored m (.int .u64 (j + 1 : Nat))).1
                  rw [u64_set, hp] at hnew
                  have hlz2 := hlz.kept (hcz.stored m (.int .u64 (j + 1 : Nat))).2 (by simp [Value.ownBlock]; omega)
                  rw [← HJ.out] at hnew hlz2
                  have HN := Lib.hid hnew
                  have HLZ := Lib.hid hlz2
                  have HA := Lib.hid hsm
                  clear hno hyes hsm hp hl hnew hlz2 hcz hlz
                  generalize inAt (raiseL n cl L (j + 1) m) m = q at *
                  go_wp2
                  go_roundg (gk - 1)
                  case measure => omega
                  case rel => exact ⟨m + 1, by omega, by go_num, by rw [HA.out]; simp, (by repeat (first | with_reducible exact Below.refl _ _ | with_reducible assumption | with_reducible refine below_drewN ?_ _ | with_reducible refine Below.drew ?_ | ((with_reducible refine Bset ?_ ?_); focus (first | omega | (simp; done) | (simp; omega))) | ((with_reducible refine Ball ?_ ?_); focus (first | omega | (simp; done) | (simp; omega))))), HN.out, HLZ.out⟩
              · obtain rfl : m = n := by omega
                go_wp2
                go_meet
                exact ⟨rfl, hbz, hcz, (own_lt hcz).2⟩
            -- DEV>
          case rest =>
            obtain ⟨rfl, hbl3, hcore3, hsz3⟩ := hcut
            cases hs : someL L n
            · have hfin := HBR.out hs
              have HF := Lib.hid hfin
              clear hfin hs
              go_wp2
              go_ret
              exact ⟨_, _, rfl, hcore3, tab_len _ _, HF.out, hbl3⟩
            · clear hs
              go_wp2
              go_roundg (gk - 1)
              case measure => omega
              case rel => exact ⟨j + 1, raiseL n cl L (j + 1) n, by omega, rfl, HNX.out, hbl3, hcore3, hsz3⟩
    · have hj1 : ¬ ((j + 1 : Nat) : Int) ≤ 2 * (es.length : Int) := by omega
      obtain ⟨J, hJ⟩ : ∃ J : Int, J = ((j + 1 : Nat) : Int) := ⟨_, rfl⟩
      rw [← hJ] at hj1 ⊢
      clear hJ
      have HF := Lib.hid (lev_end (by omega) HLEV.out)
      go_wp2
      go_ret
      exact ⟨_, rfl, _, hcore, hll, HF.out, hbl⟩

end Go.Proofs.Ytjmggfpomnnegaa
