/-
  The document's two colours: the walk.
-/
import Derived.Test.YtohmeobfiomfdaaFst8
import Derived.Test.YtohmeobfiomfdaaTopo7
namespace Go.Proofs.Ytohmeobfiomfdaa
open Go.RowKit Go.Shelf
set_option maxRecDepth 100000

/-- What stands in memory while the document colours. -/
structure ColR (w0 : World) (lb cb : Nat) (LL C : List Nat) (W : World) : Prop where
  l : Wds W lb LL
  c : Wds W cb C
  b : Below w0.heap.size w0 W
  n : w0.heap.size ≤ lb ∧ w0.heap.size ≤ cb ∧ lb ≠ cb
theorem ColR.set {w0 W : World} {lb cb : Nat} {LL C : List Nat} (h : ColR w0 lb cb LL C W) (j v : Nat) (hj : j < C.length) : ColR w0 lb cb LL (C.set j v) (W.setCell ⟨cb, j, none⟩ (.int .u64 v)) :=
  ⟨h.l.other h.n.2.2, h.c.set j v hj, Bset h.n.2.1 h.b, h.n⟩
theorem ColR.put {w0 W : World} {lb cb : Nat} {LL C : List Nat} (h : ColR w0 lb cb LL C W) {p : Addr} (v : Value) (h0 : w0.heap.size ≤ p.block) (h1 : lb ≠ p.block) (h2 : cb ≠ p.block) : ColR w0 lb cb LL C (W.setCell p v) :=
  ⟨h.l.other h1, h.c.other h2, Bset h0 h.b, h.n⟩
theorem ColR.dr {w0 W : World} {lb cb : Nat} {LL C : List Nat} (h : ColR w0 lb cb LL C W) : ColR w0 lb cb LL C W.drew := ⟨h.l.drew, h.c.drew, Below.drew h.b, h.n⟩
theorem ColR.all {w0 W : World} {lb cb : Nat} {LL C : List Nat} (h : ColR w0 lb cb LL C W) (o : Obj) : ColR w0 lb cb LL C (W.alloc o) :=
  ⟨h.l.all o, h.c.all o, Ball h.b.size h.b, h.n⟩

set_option maxHeartbeats 16000000 in
theorem refColours_any (n ec eb eo : Nat) (ea : Option Addr) (es : List Ed) (w : World) (hE : IsEds w ea eb eo es) (hn : n ≤ 5000) (hn1 : 1 ≤ n) (hlen : es.length ≤ 1048576) (hva : ∀ e, e ∈ es → Valid n e) :
    Calls Try.prog 21 #[.int .u32 n, .slice ea es.length ec] w fun e w' => ∃ (g : Nat) (T : List Nat), e = .returned (.slice (some ⟨g, 0, none⟩) n n) ∧ w.heap.size ≤ g ∧ Wds w' g T ∧ T.length = n ∧ (∀ ρ2, Roots (Dbl es n) ρ2 (2 * n) → ∀ v, v < n → T.getD v 0 = wantC (ρ2 v) (ρ2 (v + n))) ∧ Below w.heap.size w w' := by
  have hmk : ∀ w, (Instr.makeSlice 32 (.int .u32 n) (.int .u32 n)).run Try.prog w = .ok (.slice (some ⟨w.heap.size, 0, none⟩) n n) (w.alloc (.cells (madeCells #[.int .u64 0] (n * 1)) 28)) := by
    intro w
    obtain ⟨i0, hi, hz0, hz1, hz2⟩ := info_parts Try.info28
    have := run_make w 32 28 i0 (.int .u64 0) Try.underlying32 hi hz0 .u32 .u32 n n (by omega) (by omega) (by rw [hz2]; omega) (by omega)
    rw [hz1] at this
    simp only [Int.toNat_natCast, Value.cells] at this
    exact this
  have hmk2 : ∀ w, (Instr.makeSlice 85 (.int .u32 n) (.int .u32 n)).run Try.prog w = .ok (.slice (some ⟨w.heap.size, 0, none⟩) n n) (w.alloc (.cells (madeCells #[.bool false] (n * 1)) 4)) := by
    intro w
    obtain ⟨i0, hi, hz0, hz1, hz2⟩ := info_parts Try.info4
    have := run_make w 85 4 i0 (.bool false) Try.underlying85 hi hz0 .u32 .u32 n n (by omega) (by omega) (by rw [hz2]; omega) (by omega)
    rw [hz1] at this
    simp only [Int.toNat_natCast, Value.cells] at this
    exact this
  simp only [Nat.mul_one] at hmk
  simp only [Nat.mul_one, madeCells_one] at hmk2
  go_enter Try.func21, Try.ntmps21
  go_upto_region 2 with (go_at_call 24; ((with_reducible refine (refWCC_any n ec eb eo ea es _ hE hn hn1 hlen hva).mono ?_); rintro e w1 ⟨lb, LL, ρ, rfl, hlb, hw1, hll, hr, hρ, hb1⟩))
  go_upto_block 0 with fail
  have hwc := Wds.made w1 n 28
  have hlbl := hw1.lt
  have hz1 := hb1.size
  have hR1 : ColR w lb w1.heap.size LL (List.replicate n 0) (w1.alloc (.cells (madeCells #[.int .u64 0] n) 28)) := ⟨hw1.all _, hwc, Ball hz1 hb1, ⟨hlb, hz1, by omega⟩⟩
  obtain ⟨W1, hW1⟩ : ∃ W1, w1.alloc (.cells (madeCells #[.int .u64 0] n) 28) = W1 := ⟨_, rfl⟩
  rw [hW1] at hR1 ⊢
  clear hW1 hmk hwc hw1 hb1
  obtain ⟨cb, hcb⟩ : ∃ cb, cb = w1.heap.size := ⟨_, rfl⟩
  rw [← hcb] at hR1 ⊢
  have hlc : lb ≠ cb := hR1.n.2.2
  have hcl : cb ≠ lb := fun e => hlc e.symm
  have hgw : w.heap.size ≤ cb := hR1.n.2.1
  clear hcb hlbl hz1
  have HR := Lib.hid hr
  have HL := Lib.hid hρ
  have HR1 := Lib.hid hR1
  clear hr hρ hR1
  go_cut [7] (fun _ wx => ∃ C, Hid (ColR w lb cb LL C wx) ∧ Hid (ColI es n ρ C))
  case first =>
    go_wp2_with fail
    go_loopg [7] n (fun gk i wr => ∃ (k : Nat) (C : List Nat), k + gk = n ∧ i = .int .i64 k ∧ Hid (ColR w lb cb LL C wr) ∧ C.length = n ∧ Hid (∀ v, v < k → C.getD v 0 = if ρ v = v then 0 else NoC))
    case atStart => exact ⟨0, _, by omega, rfl, HR1, by simp, Lib.hid (fun v hv => absurd hv (Nat.not_lt_zero v))⟩
    case round =>
      clear HR1
      obtain ⟨k, C, hk, rfl, HC, hCl, HK⟩ := hrel
      by_cases hlt : k < n
      · have i1 : (k : Int) < n := by omega
        have i2 : (0 : Int) ≤ k := Int.natCast_nonneg _
        have hgk : 0 < gk := by omega
        have hwr : IntKind.u64.wrap (k : Int) = (k : Int) := by rw [IntKind.wrap_u64]; omega
        have c0 := HC.out.c.at k (by omega)
        have f0 := HC.out.c.f k
        have l0 := HC.out.l.at k (by omega)
        rw [HL.out k hlt] at l0
        have hcbl := HC.out.c.lt
        have hnx : ∀ x, (x = if ρ k = k then 0 else NoC) → ∀ v, v < k + 1 → (C.set k x).getD v 0 = if ρ v = v then 0 else NoC := fun x hx v hv => by
          rw [getD_set]
          by_cases e : k = v
          · subst e; rw [if_pos ⟨rfl, by omega⟩]; exact hx
          · rw [if_neg (fun h => e h.1)]; exact HK.out v (by omega)
        have HX := Lib.hid hnx
        clear hnx HK
        obtain ⟨r, hrk⟩ : ∃ r, ρ k = r := ⟨_, rfl⟩
        rw [hrk] at l0
        by_cases h1 : r = k
        · have h1' : ((r : Int) == (k : Int)) = true := by rw [beq_iff_eq]; omega
          have H1 := Lib.hid (HX.out 0 (by rw [hrk, h1, if_pos rfl]))
          have HC2 := Lib.hid ((HC.out.set k 18446744073709551615 (by omega)).set k 0 (by rw [List.length_set]; omega))
          rw [List.set_set] at HC2
          clear HX h1 hrk
          go_wp2
          go_roundg (gk - 1)
          case measure => omega
          case rel => exact ⟨k + 1, _, by omega, by go_num, HC2, by rw [List.length_set]; exact hCl, H1⟩
        · have h1' : ((r : Int) == (k : Int)) = false := by rw [beq_eq_false_iff_ne]; omega
          have H1 := Lib.hid (HX.out NoC (by rw [hrk, if_neg h1]))
          have HC2 := Lib.hid (HC.out.set k 18446744073709551615 (by omega))
          clear HX h1 hrk
          go_wp2
          go_roundg (gk - 1)
          case measure => omega
          case rel => exact ⟨k + 1, _, by omega, by go_num, HC2, by rw [List.length_set]; exact hCl, H1⟩
      · obtain rfl : k = n := by omega
        have HI := Lib.hid (ColI.init (es := es) hCl HK.out)
        go_wp2
        go_meet
        exact ⟨C, HC, HI⟩
  case rest =>
    obtain ⟨C1, HC1, HI1⟩ := hcut
    clear HR1
    go_upto_block 2 with fail
    have hk0 := isBlk.rep wc n 4 (.bool false)
    have hC2 := HC1.out.all (.cells (Array.replicate n (.bool false)) 4)
    have hc1 := HC1.out.c.lt
    have hl1 := HC1.out.l.lt
    have hz1 := HC1.out.b.size
    obtain ⟨W2, hW2⟩ : ∃ W2, wc.alloc (.cells (Array.replicate n (.bool false)) 4) = W2 := ⟨_, rfl⟩
    rw [hW2] at hk0 hC2 ⊢
    obtain ⟨ob, hob⟩ : ∃ ob, ob = wc.heap.size := ⟨_, rfl⟩
    rw [← hob] at hk0 ⊢
    have hoc : ob ≠ cb := by omega
    have hol : ob ≠ lb := by omega
    have hco : cb ≠ ob := by omega
    have hlo : lb ≠ ob := by omega
    have how : w.heap.size ≤ ob := by omega
    have HC2 := Lib.hid hC2
    have HO2 : Hid (isBlk W2 ob 4 (boolL (List.replicate n false))) := Lib.hid (by rw [show boolL (List.replicate n false) = List.replicate n (.bool false) by simp [boolL]]; exact hk0)
    clear hmk2 hW2 hob hk0 hC2 hc1 hl1 hz1 HC1
    go_cut [9, 10, 11, 12] (fun _ _ _ _ wx => ∃ C, Hid (ColR w lb cb LL C wx) ∧ Hid (isBlk wx ob 4 (boolL (List.replicate n false))) ∧ Hid (ColE es n ρ C))
    case first =>
      go_wp2_with fail
      go_loopg [9, 10, 11, 12] (nones C1 + 1) (fun gk v _ _ _ wr => ∃ (ag : Bool) (C : List Nat), v = .bool ag ∧ Hid (ColR w lb cb LL C wr) ∧ Hid (isBlk wr ob 4 (boolL (List.replicate n false))) ∧ Hid (ColI es n ρ C ∧ (ag = false → ∀ j (h : j < es.length), (C.getD es[j].src 0 = NoC ↔ C.getD es[j].dst 0 = NoC)) ∧ nones C + (if ag = true then 1 else 0) ≤ gk))
      case atStart => exact ⟨true, C1, rfl, HC2, HO2, Lib.hid ⟨HI1.out, (fun h => by cases h), by simp⟩⟩
      case round =>
        clear HC2 HO2 HI1
        obtain ⟨ag, C, rfl, HC, HO, HI⟩ := hrel
        cases ag
        · have HD := Lib.hid (HI.out.1.done HR.out (HI.out.2.1 rfl))
          go_wp2
          go_meet
          exact ⟨C, HC, HO, HD⟩
        · obtain ⟨gq, rfl⟩ : ∃ gq : Nat, gq = gk := ⟨_, rfl⟩
          have hgq : nones C + 1 ≤ gq := HI.out.2.2
          have HP := Lib.hid (PassC.init HI.out.1)
          clear HI
          go_upto_block 4 with fail
          go_wp2_with fail
          go_loopg [9, 10, 11, 12] es.length (fun gm v i _ _ wx => ∃ (k : Nat) (ag : Bool) (C2 : List Nat), k + gm = es.length ∧ i = .int .i64 k ∧ v = .bool ag ∧ Hid (ColR w lb cb LL C2 wx) ∧ Hid (isBlk wx ob 4 (boolL (List.replicate n false))) ∧ Hid (PassC es n ρ C k ag C2))
          case atStart => exact ⟨0, false, C, by omega, rfl, rfl, HC, HO, HP⟩
          case round =>
            clear HP HC HO
            obtain ⟨k, ag, C2, hk, rfl, rfl, HC, HO, HP⟩ := hrel
            by_cases hlt : k < es.length
            · have i1 : (k : Int) < es.length := by omega
              have i2 : (0 : Int) ≤ k := Int.natCast_nonneg _
              have hgk : 0 < gk := by omega
              have hEr := hE.below HC.out.b hE.lt
              obtain rfl := hEr.ad (by omega)
              have hel := hEr.lt (by omega)
              have hel0 := hE.lt (by omega)
              have hec : eb ≠ cb := by omega
              have c0 := hEr.c0 k hlt
              have c1 := hEr.c1 k hlt
              have hvk := hva es[k] (List.getElem_mem hlt)
              have hno := HP.out.no hlt
              have hyf := HP.out.yes HR.out (Ends.fwd (n := n) (List.getElem_mem hlt)) hvk.1 hvk.2
              have hyb := HP.out.yes HR.out (Ends.bwd (n := n) (List.getElem_mem hlt)) hvk.2 hvk.1
              have hlen2 := HP.out.i.len
              generalize es[k] = x at *
              obtain ⟨src, dst, x3⟩ := x
              obtain ⟨v1, v2⟩ := hvk
              simp only [] at c0 c1 v1 v2 hno hyf hyb
              have cS := HC.out.c.at src (by omega)
              have cD := HC.out.c.at dst (by omega)
              have fS := HC.out.c.f src
              have fD := HC.out.c.f dst
              have j1 : (src : Int) < n := by omega
              have j2 : (dst : Int) < n := by omega
              have j3 : (0 : Int) ≤ src := Int.natCast_nonneg _
              have j4 : (0 : Int) ≤ dst := Int.natCast_nonneg _
              have hcbl := HC.out.c.lt
              obtain ⟨cu, hcu⟩ : ∃ cu, C2.getD src 0 = cu := ⟨_, rfl⟩
              obtain ⟨cv, hcv⟩ : ∃ cv, C2.getD dst 0 = cv := ⟨_, rfl⟩
              rw [hcu] at cS
              rw [hcv] at cD
              rw [hcu, hcv] at hno hyf hyb
              have HNO := Lib.hid hno
              have HYF := Lib.hid hyf
              have HYB := Lib.hid hyb
              clear hno hyf hyb hcu hcv hEr HP
              by_cases hu : cu = 18446744073709551615
              · have hu1 : ((cu : Int) == 18446744073709551615) = true := by rw [beq_iff_eq]; omega
                by_cases hv : cv = 18446744073709551615
                · have hv1 : ((cv : Int) != 18446744073709551615) = false := by rw [bne_eq_false_iff_eq]; omega
                  have H1 := Lib.hid (HNO.out ⟨fun _ => hv, fun _ => hu⟩)
                  clear HNO HYF HYB hu hv
                  go_wp2
                  go_roundg (gk - 1)
                  case measure => omega
                  case rel => exact ⟨k + 1, ag, C2, by omega, by go_num, rfl, HC, HO, H1⟩
                · have hv1 : ((cv : Int) != 18446744073709551615) = true := by rw [bne_iff_ne]; omega
                  obtain ⟨hle, h1⟩ := HYB.out hv hu
                  obtain ⟨q, hq⟩ : ∃ q, 1 - cv = q := ⟨_, rfl⟩
                  rw [hq] at h1
                  have hwq : IntKind.u64.wrap (1 - (cv : Int)) = (q : Int) := by rw [IntKind.wrap_u64]; omega
                  have H1 := Lib.hid h1
                  have HC3 := Lib.hid (HC.out.set src q (by omega))
                  have HO3 := Lib.hid (HO.out.other (p := ⟨cb, src, none⟩) (v := .int .u64 q) hoc)
                  clear HNO HYF HYB hu hv h1 hle hq
                  go_wp2
                  go_roundg (gk - 1)
                  case measure => omega
                  case rel => exact ⟨k + 1, true, _, by omega, by go_num, rfl, HC3, HO3, H1⟩
              · have hu1 : ((cu : Int) == 18446744073709551615) = false := by rw [beq_eq_false_iff_ne]; omega
                have hu2 : ((cu : Int) != 18446744073709551615) = true := by rw [bne_iff_ne]; omega
                by_cases hv : cv = 18446744073709551615
                · have hv1 : ((cv : Int) == 18446744073709551615) = true := by rw [beq_iff_eq]; omega
                  obtain ⟨hle, h1⟩ := HYF.out hu hv
                  obtain ⟨q, hq⟩ : ∃ q, 1 - cu = q := ⟨_, rfl⟩
                  rw [hq] at h1
                  have hwq : IntKind.u64.wrap (1 - (cu : Int)) = (q : Int) := by rw [IntKind.wrap_u64]; omega
                  have H1 := Lib.hid h1
                  have HC3 := Lib.hid (HC.out.set dst q (by omega))
                  have HO3 := Lib.hid (HO.out.other (p := ⟨cb, dst, none⟩) (v := .int .u64 q) hoc)
                  clear HNO HYF HYB hu hv h1 hle hq
                  go_wp2
                  go_roundg (gk - 1)
                  case measure => omega
                  case rel => exact ⟨k + 1, true, _, by omega, by go_num, rfl, HC3, HO3, H1⟩
                · have hv1 : ((cv : Int) == 18446744073709551615) = false := by rw [beq_eq_false_iff_ne]; omega
                  have H1 := Lib.hid (HNO.out ⟨fun h => absurd h hu, fun h => absurd h hv⟩)
                  clear HNO HYF HYB hu hv
                  go_wp2
                  go_roundg (gk - 1)
                  case measure => omega
                  case rel => exact ⟨k + 1, ag, C2, by omega, by go_num, rfl, HC, HO, H1⟩
            · have hke : k = es.length := by omega
              subst hke
              have H2 : Hid (ColI es n ρ C2 ∧ (ag = false → ∀ j (h : j < es.length), (C2.getD es[j].src 0 = NoC ↔ C2.getD es[j].dst 0 = NoC)) ∧ nones C2 + (if ag = true then 1 else 0) ≤ gq - 1) := Lib.hid ⟨HP.out.i, fun ha => (by obtain ⟨e1, e2⟩ := HP.out.cl ha; rw [e1]; exact fun j hj => e2 j hj hj), by have := HP.out.z; omega⟩
              go_wp2
              go_roundg (gq - 1)
              case measure => omega
              case rel => exact ⟨ag, C2, rfl, HC, HO, H2⟩
    case rest =>
      obtain ⟨C, HC3, HO3, HE3⟩ := hcut
      clear HC2 HO2 HI1
      have hCl := HE3.out.len
      go_upto_block 6 with fail
      go_cut [13] (fun _ wx => ∃ O, Hid (ColR w lb cb LL C wx) ∧ Hid (isBlk wx ob 4 (boolL O)) ∧ O.length = n ∧ Hid (∀ r, r < n → (O.getD r false = true ↔ OddAt es ρ C r)))
      case first =>
        go_wp2_with fail
        go_loopg [13] es.length (fun gk i wr => ∃ (k : Nat) (O : List Bool), k + gk = es.length ∧ i = .int .i64 k ∧ Hid (ColR w lb cb LL C wr) ∧ Hid (isBlk wr ob 4 (boolL O)) ∧ O.length = n ∧ Hid (∀ r, r < n → (O.getD r false = true ↔ OddAt (es.take k) ρ C r)))
        case atStart => exact ⟨0, _, by omega, rfl, HC3, HO3, by simp, Lib.hid (fun r hr => by rw [show (List.replicate n false).getD r false = false by rw [List.getD_eq_getElem?_getD, List.getElem?_replicate]; split <;> rfl]; exact ⟨fun h => (by cases h), fun ⟨e, he, _⟩ => (by simp at he)⟩)⟩
        case round =>
          clear HC3 HO3
          obtain ⟨k, O, hk, rfl, HC, HO, hOl, HK⟩ := hrel
          by_cases hlt : k < es.length
          · have i1 : (k : Int) < es.length := by omega
            have i2 : (0 : Int) ≤ k := Int.natCast_nonneg _
            have hgk : 0 < gk := by omega
            have hEr := hE.below HC.out.b hE.lt
            obtain rfl := hEr.ad (by omega)
            have hel := hEr.lt (by omega)
            have hel0 := hE.lt (by omega)
            have hec : eb ≠ cb := by omega
            have c0 := hEr.c0 k hlt
            have c1 := hEr.c1 k hlt
            have hvk := hva es[k] (List.getElem_mem hlt)
            have hnx : ∀ O2 : List Bool, (∀ r, r < n → (O2.getD r false = true ↔ (O.getD r false = true ∨ (ρ es[k].src = r ∧ C.getD es[k].src 0 = C.getD es[k].dst 0)))) → ∀ r, r < n → (O2.getD r false = true ↔ OddAt (es.take (k + 1)) ρ C r) := fun O2 h2 r hr => by
              rw [List.take_succ_eq_append_getElem hlt, OddAt_snoc, h2 r hr, HK.out r hr]
            generalize es[k] = x at *
            obtain ⟨src, dst, x3⟩ := x
            obtain ⟨v1, v2⟩ := hvk
            simp only [] at c0 c1 v1 v2 hnx
            have HX := Lib.hid hnx
            have cS := HC.out.c.at src (by omega)
            have cD := HC.out.c.at dst (by omega)
            have hcbl := HC.out.c.lt
            have hlbl := HC.out.l.lt
            have hobl := HO.out.lt
            have l0 := HC.out.l.at src (by omega)
            rw [HL.out src v1] at l0
            have hrs := HR.out.lt v1
            have j1 : (src : Int) < n := by omega
            have j2 : (dst : Int) < n := by omega
            have j3 : (0 : Int) ≤ src := Int.natCast_nonneg _
            have j4 : (0 : Int) ≤ dst := Int.natCast_nonneg _
            clear hnx hEr HK
            obtain ⟨r, hrr⟩ : ∃ r, ρ src = r := ⟨_, rfl⟩
            rw [hrr] at l0 hrs
            have j5 : (r : Int) < n := by omega
            have j6 : (0 : Int) ≤ r := Int.natCast_nonneg _
            have o0 : wr.cell? ⟨ob, r, none⟩ = some (.bool (O.getD r false)) := by rw [HO.out.cell r]; exact boolL_get O r (by omega)
            have of := HO.out.frozen r
            obtain ⟨cu, hcu⟩ : ∃ cu, C.getD src 0 = cu := ⟨_, rfl⟩
            obtain ⟨cv, hcv⟩ : ∃ cv, C.getD dst 0 = cv := ⟨_, rfl⟩
            rw [hcu] at cS
            rw [hcv] at cD
            have HX2 := Lib.hid (show ∀ O2 : List Bool, (∀ r', r' < n → (O2.getD r' false = true ↔ (O.getD r' false = true ∨ (r = r' ∧ cu = cv)))) → ∀ r, r < n → (O2.getD r false = true ↔ OddAt (es.take (k + 1)) ρ C r) from fun O2 h2 => HX.out O2 (fun r' hr' => by rw [hrr, hcu, hcv]; exact h2 r' hr'))
            clear HX hrr hcu hcv
            by_cases h1 : cu = cv
            · have h1' : ((cu : Int) == (cv : Int)) = true := by rw [beq_iff_eq]; omega
              have H1 := Lib.hid (HX2.out (O.set r true) (fun r' hr' => by
                rw [getB_set]
                by_cases e : r = r'
                · rw [if_pos ⟨e, by omega⟩]; exact ⟨fun _ => Or.inr ⟨e, h1⟩, fun _ => rfl⟩
                · rw [if_neg (fun h => e h.1)]; exact ⟨Or.inl, fun h => h.elim id (fun h => absurd h.1 e)⟩))
              have HO4 : Hid (isBlk (wr.drew.setCell ⟨ob, r, none⟩ (.bool true)) ob 4 (boolL (O.set r true))) := Lib.hid (by rw [← boolL_set]; exact HO.out.drew.set r _)
              have HC4 := Lib.hid (HC.out.dr.put (p := ⟨ob, r, none⟩) (.bool true) how hlo hco)
              clear HX2 h1
              go_upto_region 27 with fail
              go_region_held3 (fun wz => ∀ b o, b < wr.heap.size → wz.cell? ⟨b, o, none⟩ = wr.cell? ⟨b, o, none⟩)
                ((intro b o hb; rfl))
                (fail)
              all_goals
                go_wp2
                go_roundg (gk - 1)
                case measure => omega
                case rel => exact ⟨k + 1, _, by omega, by go_num, HC4, HO4, by rw [List.length_set]; exact hOl, H1⟩
            · have h1' : ((cu : Int) == (cv : Int)) = false := by rw [beq_eq_false_iff_ne]; omega
              have H1 := Lib.hid (HX2.out O (fun r' hr' => ⟨Or.inl, fun h => h.elim id (fun h => absurd h.2 h1)⟩))
              have HO4 := Lib.hid HO.out.drew
              have HC4 := Lib.hid HC.out.dr
              clear HX2 h1
              go_upto_region 27 with fail
              go_region_held3 (fun wz => ∀ b o, b < wr.heap.size → wz.cell? ⟨b, o, none⟩ = wr.cell? ⟨b, o, none⟩)
                ((intro b o hb; rfl))
                (fail)
              all_goals
                go_wp2
                go_roundg (gk - 1)
                case measure => omega
                case rel => exact ⟨k + 1, _, by omega, by go_num, HC4, HO4, hOl, H1⟩
          · have hke : k = es.length := by omega
            subst hke
            have H2 := HK.out
            rw [List.take_length] at H2
            have HK2 := Lib.hid H2
            clear H2 HK
            go_wp2
            go_meet
            exact ⟨O, HC, HO, hOl, HK2⟩
      case rest =>
        obtain ⟨O, HC4, HO4, hOl, HK4⟩ := hcut
        clear HC3 HO3
        go_upto_block 8 with fail
        go_cut [14] (fun _ wx => ∃ T, Hid (ColR w lb cb LL T wx) ∧ T.length = n ∧ Hid (∀ v, v < n → T.getD v 0 = if O.getD (ρ v) false = true then 2 else C.getD v 0))
        case first =>
          go_wp2_with fail
          go_loopg [14] n (fun gk i wr => ∃ (k : Nat) (T : List Nat), k + gk = n ∧ i = .int .i64 k ∧ Hid (ColR w lb cb LL T wr) ∧ Hid (isBlk wr ob 4 (boolL O)) ∧ T.length = n ∧ Hid ((∀ v, v < k → T.getD v 0 = if O.getD (ρ v) false = true then 2 else C.getD v 0) ∧ ∀ v, k ≤ v → T.getD v 0 = C.getD v 0))
          case atStart => exact ⟨0, C, by omega, rfl, HC4, HO4, hCl, Lib.hid ⟨fun v hv => absurd hv (Nat.not_lt_zero v), fun _ _ => rfl⟩⟩
          case round =>
            clear HC4 HO4
            obtain ⟨k, T, hk, rfl, HC, HO, hTl, HK⟩ := hrel
            by_cases hlt : k < n
            · have i1 : (k : Int) < n := by omega
              have i2 : (0 : Int) ≤ k := Int.natCast_nonneg _
              have hgk : 0 < gk := by omega
              have hcbl := HC.out.c.lt
              have hlbl := HC.out.l.lt
              have hobl := HO.out.lt
              have c0 := HC.out.c.at k (by omega)
              have f0 := HC.out.c.f k
              have l0 := HC.out.l.at k (by omega)
              rw [HL.out k hlt] at l0
              have hrs := HR.out.lt hlt
              have hnx : ∀ T2 : List Nat, T2.length = n → (T2.getD k 0 = if O.getD (ρ k) false = true then 2 else C.getD k 0) → (∀ v, v ≠ k → T2.getD v 0 = T.getD v 0) → ((∀ v, v < k + 1 → T2.getD v 0 = if O.getD (ρ v) false = true then 2 else C.getD v 0) ∧ ∀ v, k + 1 ≤ v → T2.getD v 0 = C.getD v 0) := fun T2 _ h1 h2 => by
                refine ⟨fun v hv => ?_, fun v hv => by rw [h2 v (by omega)]; exact HK.out.2 v (by omega)⟩
                by_cases e : v = k
                · rw [e]; exact h1
                · rw [h2 v e]; exact HK.out.1 v (by omega)
              have hTk := HK.out.2 k (Nat.le_refl _)
              obtain ⟨r, hrr⟩ : ∃ r, ρ k = r := ⟨_, rfl⟩
              rw [hrr] at l0 hrs hnx
              have HX := Lib.hid hnx
              clear hnx HK hrr
              have j5 : (r : Int) < n := by omega
              have j6 : (0 : Int) ≤ r := Int.natCast_nonneg _
              have o0 : wr.cell? ⟨ob, r, none⟩ = some (.bool (O.getD r false)) := by rw [HO.out.cell r]; exact boolL_get O r (by omega)
              obtain ⟨bo, hbo⟩ : ∃ bo, O.getD r false = bo := ⟨_, rfl⟩
              rw [hbo] at o0
              cases bo
              · have H1 := Lib.hid (HX.out T hTl (by rw [hbo]; exact hTk) (fun _ _ => rfl))
                clear HX hbo hTk
                go_wp2
                go_roundg (gk - 1)
                case measure => omega
                case rel => exact ⟨k + 1, T, by omega, by go_num, HC, HO, hTl, H1⟩
              · have H1 := Lib.hid (HX.out (T.set k 2) (by rw [List.length_set]; exact hTl) (by rw [hbo, getD_set, if_pos ⟨rfl, by omega⟩, if_pos rfl]) (fun v hv => by rw [getD_set, if_neg (fun h => hv h.1.symm)]))
                have HC5 := Lib.hid (HC.out.set k 2 (by omega))
                have HO5 := Lib.hid (HO.out.other (p := ⟨cb, k, none⟩) (v := .int .u64 2) hoc)
                clear HX hbo hTk
                go_wp2
                go_roundg (gk - 1)
                case measure => omega
                case rel => exact ⟨k + 1, _, by omega, by go_num, HC5, HO5, by rw [List.length_set]; exact hTl, H1⟩
            · obtain rfl : k = n := by omega
              have HK2 := Lib.hid HK.out.1
              clear HK
              go_wp2
              go_meet
              exact ⟨T, HC, hTl, HK2⟩
        case rest =>
          obtain ⟨T, HC5, hTl, HK5⟩ := hcut
          clear HC4 HO4
          go_wp2
          refine bodyPost_ret (v := .slice (some ⟨cb, 0, none⟩) n n) (by simp (maxDischargeDepth := 8) [results, Try.results21, go_sem]) rfl ?_
          refine ⟨cb, T, rfl, hgw, HC5.out.c, hTl, fun ρ2 h2 v hv => ?_, HC5.out.b⟩
          have hsp := colour_spec hva HR.out h2 HE3.out v hv
          rw [HK5.out v hv]
          have hk4 := HK4.out (ρ v) (HR.out.lt hv)
          by_cases ho : O.getD (ρ v) false = true
          · rw [if_pos ho]; exact (hsp.1 (hk4.1 ho)).symm
          · rw [if_neg ho]; exact (hsp.2 (fun h => ho (hk4.2 h))).symm

end Go.Proofs.Ytohmeobfiomfdaa
