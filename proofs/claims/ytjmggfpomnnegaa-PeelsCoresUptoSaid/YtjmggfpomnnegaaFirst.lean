/-
  The document's Place, Order and FirstSet.
-/
import Derived.Test.YtjmggfpomnnegaaPlainSet
import Derived.Test.YtjmggfpomnnegaaRunA
import Derived.Deep.LoopGhost
import Derived.Deep.DeepCutAuto
import Derived.Deep.CutBlock
namespace Go.Proofs.Ytjmggfpomnnegaa
open Go.RowKit
set_option maxRecDepth 100000

def u32Cells (l : List Nat) : List Value := l.map fun x : Nat => .int .u32 (x : Int)
def u64Cells (l : List Nat) : List Value := l.map fun x : Nat => .int .u64 (x : Int)

theorem u32_get (l : List Nat) (i : Nat) (h : i < l.length) : (u32Cells l)[i]? = some (.int .u32 ((l[i]?.getD 0 : Nat) : Int)) := by
  unfold u32Cells; rw [List.getElem?_map, List.getElem?_eq_getElem h]; rfl
theorem u64_get (l : List Nat) (i : Nat) (h : i < l.length) : (u64Cells l)[i]? = some (.int .u64 ((inAt l i : Nat) : Int)) := by
  unfold u64Cells inAt; rw [List.getElem?_map, List.getElem?_eq_getElem h]; rfl
theorem u32_set (l : List Nat) (i x : Nat) : (u32Cells l).set i (.int .u32 (x : Int)) = u32Cells (l.set i x) := by unfold u32Cells; rw [List.map_set]
theorem u64_set (l : List Nat) (i x : Nat) : (u64Cells l).set i (.int .u64 (x : Int)) = u64Cells (l.set i x) := by unfold u64Cells; rw [List.map_set]
theorem u32_len (l : List Nat) : (u32Cells l).length = l.length := by simp [u32Cells]
theorem u64_len (l : List Nat) : (u64Cells l).length = l.length := by simp [u64Cells]

theorem Try.info29 : (Try.prog.info? 29).map (fun i => (i.zero, i.size, i.bytes)) = some (some (.int .u32 0), 1, 4) := by kernel_rfl
theorem Try.info23 : (Try.prog.info? 23).map (fun i => (i.zero, i.size, i.bytes)) = some (some (.int .u64 0), 1, 8) := by kernel_rfl

theorem madeCells_u32 (n : Nat) : (madeCells #[.int .u32 0] (n * 1)).toList = u32Cells (List.replicate n 0) := by
  apply List.ext_getElem?
  intro k
  rw [Nat.mul_one]
  by_cases hk : k < n
  · rw [u32_get _ _ (by simp [hk])]
    simp [madeCells, hk, Nat.mod_one]
  · rw [List.getElem?_eq_none (by simp [madeCells]; omega), List.getElem?_eq_none (by rw [u32_len]; simp; omega)]

theorem madeCells_u64 (n : Nat) : (madeCells #[.int .u64 0] (n * 1)).toList = u64Cells (List.replicate n 0) := by
  apply List.ext_getElem?
  intro k
  rw [Nat.mul_one]
  by_cases hk : k < n
  · rw [u64_get _ _ (by simp [hk])]
    simp [madeCells, hk, Nat.mod_one, inAt]
  · rw [List.getElem?_eq_none (by simp [madeCells]; omega), List.getElem?_eq_none (by rw [u64_len]; simp; omega)]

/-- A row of u32 that is read. -/
structure IsU32 (w : World) (b : Nat) (l : List Nat) : Prop where
  lt : b < w.heap.size
  c : ∀ j, j < l.length → w.cell? ⟨b, j, none⟩ = some (.int .u32 ((l[j]?.getD 0 : Nat) : Int))

theorem IsU32.below {w w' : World} {b B : Nat} {l : List Nat} (h : IsU32 w b l) (hb : Below B w w') (hB : b < B) : IsU32 w' b l :=
  ⟨Nat.lt_of_lt_of_le h.lt hb.size, fun j hj => by rw [hb.cell (p := ⟨b, j, none⟩) hB]; exact h.c j hj⟩
theorem IsU32.other {w : World} {b : Nat} {l : List Nat} (h : IsU32 w b l) {p : Addr} (hp : b ≠ p.block) (v : Value) : IsU32 (w.setCell p v) b l :=
  ⟨by simpa using h.lt, fun j hj => by rw [World.cell?_setCell_far _ _ _ _ (by first | exact hp | exact hp.symm)]; exact h.c j hj⟩

set_option maxHeartbeats 400000 in
theorem checkR_ok (n a c : Nat) (w : World) (hr : RankOk n a c) :
    Calls Try.prog 19 #[.agg #[.int .u32 n, .int .u32 a, .int .u32 c]] w fun e w' => e = .returned (.int .i64 0) ∧ Below w.heap.size w w' := by
  obtain ⟨h1, h2, h3, h4, h5⟩ := hr
  have HG := Lib.hid h5
  clear h5
  go_enter Try.func19, Try.ntmps19
  have hd : (Value.int .u64 ((Nat.gcd a n : Nat) : Int)) = .int .u64 1 := by rw [HG.out]; rfl
  have HD := Lib.hid hd
  clear HG hd
  go_wp2_with (go_at_call 42; refine (divisor_any _ _ _ (by omega) (by omega)).mono ?_; rintro e w1 ⟨rfl, rfl⟩; rw [HD.out])
  go_ret
  exact ⟨rfl, (by repeat (first | with_reducible exact Below.refl _ _ | with_reducible assumption | with_reducible refine below_drewN ?_ _ | with_reducible refine Below.drew ?_ | ((with_reducible refine Bset ?_ ?_); focus (first | omega | (simp; done) | (simp; omega))) | ((with_reducible refine Ball ?_ ?_); focus (first | omega | (simp; done) | (simp; omega)))))⟩

set_option maxHeartbeats 400000 in
theorem placeR_ok (n a c v : Nat) (w : World) (hr : RankOk n a c) (hv : v < n) :
    Calls Try.prog 34 #[.agg #[.int .u32 n, .int .u32 a, .int .u32 c], .int .u32 v] w fun e w' => e = .returned (.tuple #[.int .u32 (plc n a c v : Nat), .int .i64 0]) ∧ Below w.heap.size w w' := by
  have hrr := Lib.hid hr
  obtain ⟨h1, h2, h3, h4, h5⟩ := hr
  clear h5
  go_enter Try.func34, Try.ntmps34
  go_wp2_with (first | (go_at_call 19; refine (checkR_ok n a c _ hrr.out).mono ?_; rintro e w1 ⟨rfl, hb1⟩; obtain ⟨hc1, hf1⟩ := bcell hb1; have hz1 := hb1.size; (try simp only [World.size_alloc] at hz1)))
  have hbb : Below w.heap.size w w1 := Below.trans (by repeat (first | with_reducible exact Below.refl _ _ | with_reducible assumption | with_reducible refine below_drewN ?_ _ | with_reducible refine Below.drew ?_ | ((with_reducible refine Bset ?_ ?_); focus (first | omega | (simp; done) | (simp; omega))) | ((with_reducible refine Ball ?_ ?_); focus (first | omega | (simp; done) | (simp; omega))))) (hb1.mono (by simp; try omega))
  go_ret2
  exact ⟨congrArg (fun x => Ending.returned (.tuple #[.int .u32 x, .int .i64 0])) (placeVal n a c v h1 h2 (by omega) (by omega) (by omega)), hbb⟩

set_option maxHeartbeats 1000000 in
theorem order_any (n a c : Nat) (w : World) (hr : RankOk n a c) (hn : n ≤ 65536) :
    Calls Try.prog 49 #[.agg #[.int .u32 n, .int .u32 a, .int .u32 c]] w fun e w' =>
      ∃ ob, e = .returned (.slice (some ⟨ob, 0, none⟩) n n) ∧ w'.ownsRow w.heap.size 29 1 (.slice (some ⟨ob, 0, none⟩) n n) n (u32Cells (ordL n a c n)) ∧ Below w.heap.size w w' := by
  obtain ⟨i0, hi, hz0, hz1, hz2⟩ := info_parts Try.info29
  have hmk : ∀ w, (Instr.makeSlice 121 (.int .u32 n) (.int .u32 n)).run Try.prog w = .ok (.slice (some ⟨w.heap.size, 0, none⟩) n n) (w.alloc (.cells (madeCells #[.int .u32 0] (n * 1)) 29)) := by
    intro w
    have := run_make w 121 29 i0 (.int .u32 0) Try.underlying121 hi hz0 .u32 .u32 n n (by omega) (by omega) (by rw [hz2]; omega) (by omega)
    rw [hz1] at this
    simp only [Int.toNat_natCast, Value.cells] at this
    exact this
  go_enter Try.func49, Try.ntmps49
  go_wp2
  clear hmk
  go_loopw [4, 5, 6] (fun v _ _ wr => ∃ k : Nat, k ≤ n ∧ v = .int .u32 k ∧ isBlk wr w.heap.size 51 [.int .u32 n, .int .u32 a, .int .u32 c] ∧ wr.ownsRow w.heap.size 29 1 (.slice (some ⟨w.heap.size + 1, 0, none⟩) n n) n (u32Cells (ordL n a c k)) ∧ Below w.heap.size w wr ∧ w.heap.size + 1 < wr.heap.size) (fun v _ _ _ => n - (intOf v).toNat)
  case atStart =>
    refine ⟨0, Nat.zero_le _, rfl, ?_, ?_, (by repeat (first | with_reducible exact Below.refl _ _ | with_reducible assumption | with_reducible refine below_drewN ?_ _ | with_reducible refine Below.drew ?_ | ((with_reducible refine Bset ?_ ?_); focus (first | omega | (simp; done) | (simp; omega))) | ((with_reducible refine Ball ?_ ?_); focus (first | omega | (simp; done) | (simp; omega))))), by simp⟩
    · exact (isBlk.new w 51 [.int .u32 n, .int .u32 a, .int .u32 c]).old _
    · have := World.ownsRow_lit (base := w.heap.size) (e := 29) (size := 1) (w.alloc (.cells #[.int .u32 n, .int .u32 a, .int .u32 c] 51)) (madeCells #[.int .u32 0] (n * 1)) n (by simp) (by unfold maxLen; omega) (by rw [size_madeCells])
      rw [madeCells_u32, World.size_alloc, Nat.mul_one] at this
      exact this
  case round =>
    obtain ⟨k, hk, rfl, hC, hown, hbl, hlt0⟩ := hrel
    by_cases hlt : k < n
    · have c0 : wr.cell? ⟨w.heap.size, 0, none⟩ = some (.int .u32 n) := hC.cell 0
      have c1 : wr.cell? ⟨w.heap.size, 1, none⟩ = some (.int .u32 a) := hC.cell 1
      have c2 : wr.cell? ⟨w.heap.size, 2, none⟩ = some (.int .u32 c) := hC.cell 2
      have hkw : IntKind.u32.wrap ((k : Int) + 1) = (k : Int) + 1 := by rw [IntKind.wrap_u32]; omega
      have hl1 : w.heap.size < wr.heap.size := by omega
      have hpl := plc_lt hr k
      have hnew := hown.stored (plc n a c k) (.int .u32 (k : Nat))
      rw [u32_set] at hnew
      have hst : ordL n a c (k + 1) = (ordL n a c k).set (plc n a c k) k := rfl
      rw [← hst] at hnew
      clear hst hnew
      obtain ⟨p, hp⟩ : ∃ p, p = plc n a c k := ⟨_, rfl⟩
      rw [← hp] at hpl
      have HP := Lib.hid hp
      clear hp
      have hp1 : (p : Int) < n := by omega
      go_wp2_with (go_at_call 34; refine (placeR_ok n a c k _ hr hlt).mono ?_; rintro e w1 ⟨rfl, hb1⟩; rw [← HP.out]; have hown1 := own_below hown hb1 (by omega); have hC1 := hC.below hb1 (by omega); have hbl1 := hbl.trans (hb1.mono (by omega)); have hz1 := hb1.size; have hff := hown1.frozenAt p; have hxx : w1.cell? ⟨w.heap.size + 1, p, none⟩ = some (.int .u32 (((ordL n a c k)[p]?.getD 0 : Nat) : Int)) := (by rw [hown1.cellAt _ (by omega), u32_get _ _ (by rw [ordL_len]; exact hpl)]))
      go_roundw
      case rel =>
        refine ⟨k + 1, by omega, by go_num, ?_, ?_, (by repeat (first | with_reducible exact Below.refl _ _ | with_reducible assumption | with_reducible refine below_drewN ?_ _ | with_reducible refine Below.drew ?_ | ((with_reducible refine Bset ?_ ?_); focus (first | omega | (simp; done) | (simp; omega))) | ((with_reducible refine Ball ?_ ?_); focus (first | omega | (simp; done) | (simp; omega))))), ?_⟩
        · exact hC1.other (by simp)
        · have h1 := (hown1.stored p (.int .u32 (k : Nat))).1
          rw [u32_set] at h1
          show World.ownsRow _ _ _ _ _ _ (u32Cells ((ordL n a c k).set (plc n a c k) k))
          rw [← HP.out]
          simpa using h1
        · simp; omega
      case measure => simp [intOf]; omega
    · obtain rfl : k = n := by omega
      have c0 : wr.cell? ⟨w.heap.size, 0, none⟩ = some (.int .u32 k) := hC.cell 0
      go_wp2
      go_ret
      exact ⟨_, rfl, hown, hbl⟩

theorem IsEds.drew1 {w : World} {a : Option Addr} {eb eo : Nat} {es : List Ed} (h : IsEds w a eb eo es) : IsEds w.drew a eb eo es := ⟨h.ad, h.lt, h.c0, h.c1, h.c2⟩

set_option maxHeartbeats 2000000 in
theorem firstSet_any (n a c : Nat) (x : Option Addr) (cap eb eo : Nat) (es : List Ed) (w : World) (hr : RankOk n a c) (hn : n ≤ 65536) (hE : IsEds w x eb eo es) (hlen : es.length ≤ 1048576) :
    Calls Try.prog 37 #[.agg #[.int .u32 n, .int .u32 a, .int .u32 c], .slice x es.length cap] w fun e w' =>
      ∃ fb, e = .returned (.slice (some ⟨fb, 0, none⟩) n n) ∧ w'.ownsRow w.heap.size 23 1 (.slice (some ⟨fb, 0, none⟩) n n) n (u64Cells (firstL n a c es n)) ∧ Below w.heap.size w w' := by
  obtain ⟨i0, hi, hz0, hz1, hz2⟩ := info_parts Try.info23
  have hmk : ∀ w, (Instr.makeSlice 77 (.int .u32 n) (.int .u32 n)).run Try.prog w = .ok (.slice (some ⟨w.heap.size, 0, none⟩) n n) (w.alloc (.cells (madeCells #[.int .u64 0] (n * 1)) 23)) := by
    intro w
    have := run_make w 77 23 i0 (.int .u64 0) Try.underlying77 hi hz0 .u32 .u32 n n (by omega) (by omega) (by rw [hz2]; omega) (by omega)
    rw [hz1] at this
    simp only [Int.toNat_natCast, Value.cells] at this
    exact this
  have hn1 := hr.1
  go_enter Try.func37, Try.ntmps37
  go_upto_block 0 with (go_at_call 49; refine (order_any n a c _ hr hn).mono ?_; rintro e w1 ⟨ob, rfl, hO, hb1⟩)
  clear hmk
  have hin1 : w1.ownsRow w.heap.size 23 1 (.slice (some ⟨w.heap.size + 1, 0, none⟩) n n) n (u64Cells (firstL n a c es 0)) := by
    have := World.ownsRow_lit (base := w.heap.size) (e := 23) (size := 1) (w.alloc (.cells #[.int .u32 n, .int .u32 a, .int .u32 c] 51)) (madeCells #[.int .u64 0] (n * 1)) n (by simp) (by unfold maxLen; omega) (by rw [size_madeCells])
    rw [madeCells_u64, World.size_alloc, Nat.mul_one] at this
    exact own_below this hb1 (by simp)
  have hol := own_lt hO
  simp only [World.size_alloc] at hol
  have hord1 : IsU32 w1 ob (ordL n a c n) := ⟨hol.2, fun j hj => by rw [ordL_len] at hj; rw [hO.cellAt _ (by omega), u32_get _ _ (by rw [ordL_len]; exact hj)]⟩
  have hbl1 : Below w.heap.size w w1 := Below.trans (by repeat (first | with_reducible exact Below.refl _ _ | with_reducible assumption | with_reducible refine below_drewN ?_ _ | with_reducible refine Below.drew ?_ | ((with_reducible refine Bset ?_ ?_); focus (first | omega | (simp; done) | (simp; omega))) | ((with_reducible refine Ball ?_ ?_); focus (first | omega | (simp; done) | (simp; omega))))) (hb1.mono (by simp; omega))
  have hz1 : w.heap.size + 1 < w1.heap.size := by omega
  have hob : ob ≠ w.heap.size + 1 := by omega
  clear hO hb1 hol
  go_wp2_with fail
  go_loopg [7, 8, 9, 10] n (fun gk i _ _ _ wr => ∃ k : Nat, k + gk = n ∧ i = .int .i64 k ∧ Below w.heap.size w wr ∧ wr.ownsRow w.heap.size 23 1 (.slice (some ⟨w.heap.size + 1, 0, none⟩) n n) n (u64Cells (firstL n a c es k)) ∧ IsU32 wr ob (ordL n a c n) ∧ w.heap.size + 1 < wr.heap.size)
  case atStart => exact ⟨0, by omega, rfl, hbl1, hin1, hord1, hz1⟩
  case round =>
    obtain ⟨k, hk, rfl, hbl, hin, hord, hlt0⟩ := hrel
    obtain ⟨wo, rfl⟩ : ∃ wo : World, wo = wr := ⟨_, rfl⟩
    clear hbl1 hin1 hord1 hz1
    by_cases hlt : k < n
    · have hk0 : (k : Int) < (n : Int) := by omega
      have hk1 : (0 : Int) ≤ (k : Int) := Int.natCast_nonneg _
      have hoi : ordAt n a c n k < n := ordAt_lt hn1 k n (Nat.le_refl _)
      have coi : wo.cell? ⟨ob, k, none⟩ = some (.int .u32 (ordAt n a c n k : Nat)) := hord.c k (by rw [ordL_len]; exact hlt)
      have hEr := hE.below hbl hE.lt
      have hstep : firstL n a c es (k + 1) = if freeB n a c es (firstL n a c es k) k k then (firstL n a c es k).set (ordAt n a c n k) 1 else firstL n a c es k := rfl
      have hLl := firstL_len n a c es k
      have HST := Lib.hid hstep
      clear hstep
      generalize hL : firstL n a c es k = L at *
      have HL := Lib.hid hL
      clear hL
      obtain ⟨oi, hoi'⟩ : ∃ oi, oi = ordAt n a c n k := ⟨_, rfl⟩
      rw [← hoi'] at hoi coi HST
      have HOI := Lib.hid hoi'
      clear hoi'
      have hi1 : (oi : Int) < n := by omega
      have hi0' : (0 : Int) ≤ (oi : Int) := Int.natCast_nonneg _
      go_upto_block 2 with fail
      go_cut [8] (fun fr wx => fr = .bool (freeB n a c es L k k) ∧ Below wo.heap.size wo wx)
      case first =>
        go_wp2_with fail
        go_loopg [8, 9, 10] k (fun gm fr j _ wx => ∃ m : Nat, m + gm = k ∧ j = .int .i64 m ∧ fr = .bool (freeB n a c es L k m) ∧ Below wo.heap.size wo wx)
        case atStart => exact ⟨0, by omega, rfl, rfl, Below.refl _ _⟩
        case round =>
          obtain ⟨m, hm, rfl, rfl, hbx⟩ := hrel
          by_cases hlt2 : m < k
          · have hm0 : (m : Int) < (k : Int) := by omega
            have hm1 : (0 : Int) ≤ (m : Int) := Int.natCast_nonneg _
            have hmn : (m : Int) < (n : Int) := by omega
            have hoj : ordAt n a c n m < n := ordAt_lt hn1 m n (Nat.le_refl _)
            have hordx := hord.below hbx hord.lt
            have coj : wr.cell? ⟨ob, m, none⟩ = some (.int .u32 (ordAt n a c n m : Nat)) := hordx.c m (by rw [ordL_len]; omega)
            have coix : wr.cell? ⟨ob, k, none⟩ = some (.int .u32 oi) := by rw [hbx.cell (p := ⟨ob, k, none⟩) hord.lt]; exact coi
            have hEx := hEr.below hbx hEr.lt
            have cin : wr.cell? ⟨w.heap.size + 1, ordAt n a c n m, none⟩ = some (.int .u64 (inAt L (ordAt n a c n m) : Nat)) := by rw [(own_below hin hbx hlt0).cellAt _ (by omega), u64_get _ _ (by rw [hLl]; exact hoj)]
            have hst : freeB n a c es L k (m + 1) = (freeB n a c es L k m && !(inAt L (ordAt n a c n m) == 1 && nearB es (ordAt n a c n k) (ordAt n a c n m))) := rfl
            rw [← HOI.out] at hst
            have HS := Lib.hid hst
            clear hst
            obtain ⟨oj, hoj'⟩ : ∃ oj, oj = ordAt n a c n m := ⟨_, rfl⟩
            rw [← hoj'] at hoj coj cin HS
            clear hoj'
            obtain ⟨q, hq⟩ : ∃ q, q = inAt L oj := ⟨_, rfl⟩
            rw [← hq] at cin HS
            clear hq
            have hj1 : (oj : Int) < n := by omega
            have hj0 : (0 : Int) ≤ (oj : Int) := Int.natCast_nonneg _
            have hobx : ob < wr.heap.size := hordx.lt
            have hinx : w.heap.size + 1 < wr.heap.size := by have := hbx.size; omega
            clear hordx
            go_upto_region 10 with fail
            go_region_held3 (fun wz => ∀ b o, b < wr.heap.size → wz.cell? ⟨b, o, none⟩ = wr.cell? ⟨b, o, none⟩)
              ((intro b o hb; (repeat first | rw [World.cell?_setCell_far _ _ _ _ (by first | omega | (simp; omega) | (simp; done))] | rw [cell_drew] | rw [World.cell?_alloc_past _ _ _ (by first | omega | (simp; omega) | (simp; done))] | rw [hb2.cell (p := ⟨b, o, none⟩) (by first | omega | (simp; omega) | (simp; done))]); done))
              (((with_reducible refine Calls.mono (nearR_any x cap eb eo es oi oj _ ?_ hlen) ?_); (focus (exact hEx.drew1)); rintro e w2 ⟨rfl, hb2⟩))
            repeat (rename (∀ b o, b < wr.heap.size → World.cell? _ ⟨b, o, none⟩ = _) => hSS; clear hSS)
            have hb3 : Below wr.heap.size wr w2 := Below.trans (Below.drew (Below.refl wr.heap.size wr)) hb2
            have coj2 : w2.cell? ⟨ob, m, none⟩ = some (.int .u32 oj) := by rw [hb3.cell (p := ⟨ob, m, none⟩) hobx]; exact coj
            have cin2 : w2.cell? ⟨w.heap.size + 1, oj, none⟩ = some (.int .u64 q) := by rw [hb3.cell (p := ⟨w.heap.size + 1, oj, none⟩) hinx]; exact cin
            have hbb : Below wo.heap.size wo w2 := hbx.trans (hb3.mono hbx.size)
            clear coj cin coix hb2 hb3 hEx
            generalize freeB n a c es L k m = f at *
            by_cases hq1 : q = 1
            · subst hq1
              cases hnr : nearB es oi oj
              · rw [hnr] at HS
                clear hnr
                go_wp2
                go_roundg (gk - 1)
                case measure => omega
                case rel => exact ⟨m + 1, by omega, by go_num, by rw [HS.out]; simp, hbb⟩
              · rw [hnr] at HS
                clear hnr
                go_wp2
                go_roundg (gk - 1)
                case measure => omega
                case rel => exact ⟨m + 1, by omega, by go_num, by rw [HS.out]; simp, hbb⟩
            · have hq2 : ((q : Int) == 1) = false := by rw [beq_eq_false_iff_ne]; omega
              have hq3 : (q == 1) = false := by rw [beq_eq_false_iff_ne]; exact hq1
              rw [hq3] at HS
              clear hq1 hq3
              go_wp2
              go_roundg (gk - 1)
              case measure => omega
              case rel => exact ⟨m + 1, by omega, by go_num, by rw [HS.out]; simp, hbb⟩
          · obtain rfl : m = k := by omega
            go_wp2
            go_meet
            exact ⟨rfl, hbx⟩
      case rest =>
        obtain ⟨rfl, hbx⟩ := hcut
        have hin2 := own_below hin hbx hlt0
        have hord2 := hord.below hbx hord.lt
        have coi2 : wc.cell? ⟨ob, k, none⟩ = some (.int .u32 oi) := by rw [hbx.cell (p := ⟨ob, k, none⟩) hord.lt]; exact coi
        have hzx := hbx.size
        have hbl2 := hbl.trans (hbx.mono hbl.size)
        have hobx : ob < wc.heap.size := hord2.lt
        have hinx : w.heap.size + 1 < wc.heap.size := by omega
        have hff := hin2.frozenAt oi
        have hxx : wc.cell? ⟨w.heap.size + 1, oi, none⟩ = some (.int .u64 (inAt L oi : Nat)) := by rw [hin2.cellAt _ (by omega), u64_get _ _ (by rw [hLl]; exact hoi)]
        clear hin hord coi hbx hEr
        cases hf : freeB n a c es L k k
        · rw [hf] at HST
          clear hf
          go_wp2
          go_roundg (gk - 1)
          case measure => omega
          case rel => exact ⟨k + 1, by omega, by go_num, hbl2, by rw [HST.out]; exact hin2, hord2, hinx⟩
        · rw [hf] at HST
          clear hf
          go_wp2
          go_roundg (gk - 1)
          case measure => omega
          case rel =>
            refine ⟨k + 1, by omega, by go_num, (by repeat (first | with_reducible exact Below.refl _ _ | with_reducible assumption | with_reducible refine below_drewN ?_ _ | with_reducible refine Below.drew ?_ | ((with_reducible refine Bset ?_ ?_); focus (first | omega | (simp; done) | (simp; omega))) | ((with_reducible refine Ball ?_ ?_); focus (first | omega | (simp; done) | (simp; omega))))), ?_, hord2.other hob _, by simpa using hinx⟩
            have h1 := (hin2.stored oi (.int .u64 ((1 : Nat) : Int))).1
            rw [u64_set] at h1
            rw [HST.out]
            simpa using h1
    · obtain rfl : k = n := by omega
      go_wp2
      go_ret
      exact ⟨_, rfl, hin, hbl⟩

end Go.Proofs.Ytjmggfpomnnegaa
