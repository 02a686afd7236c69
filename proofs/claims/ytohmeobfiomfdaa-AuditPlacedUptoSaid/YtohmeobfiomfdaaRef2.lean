/-
  The document's closure: within.
-/
import Derived.Test.YtohmeobfiomfdaaRef1
namespace Go.Proofs.Ytohmeobfiomfdaa
open Go.RowKit Go.Shelf
set_option maxRecDepth 100000

def eU (bk : Bool) (e : Ed) : Nat := if bk then e.dst else e.src
def eV (bk : Bool) (e : Ed) : Nat := if bk then e.src else e.dst
inductive Rch (ss : List St) (es : List Ed) (n : Nat) (bk : Bool) : Nat → Prop
  | root (v : Nat) (hv : v < n) (h : lab ss v = v) : Rch ss es n bk v
  | step (e : Ed) (he : e ∈ es) (hl : lab ss (eU bk e) = lab ss (eV bk e)) (h : Rch ss es n bk (eU bk e)) : Rch ss es n bk (eV bk e)
theorem Rch.fwd {ss : List St} {es : List Ed} {n v : Nat} : Rch ss es n false v ↔ Fwd ss es n v := by
  constructor
  · intro h
    induction h with
    | root v hv h => exact Fwd.root v hv h
    | step e he hl _ ih => exact Fwd.step e he hl ih
  · intro h
    induction h with
    | root v hv h => exact Rch.root v hv h
    | step e he hl _ ih => exact Rch.step (bk := false) e he hl ih
theorem Rch.bwd {ss : List St} {es : List Ed} {n v : Nat} : Rch ss es n true v ↔ Bwd ss es n v := by
  constructor
  · intro h
    induction h with
    | root v hv h => exact Bwd.root v hv h
    | step e he hl _ ih => exact Bwd.step e he hl.symm ih
  · intro h
    induction h with
    | root v hv h => exact Rch.root v hv h
    | step e he hl _ ih => exact Rch.step (bk := true) e he hl.symm ih

theorem getB_set (l : List Bool) (i j : Nat) (v : Bool) : (l.set i v).getD j false = if i = j ∧ j < l.length then v else l.getD j false := by
  rw [List.getD_eq_getElem?_getD, List.getD_eq_getElem?_getD, List.getElem?_set]
  by_cases h : i = j
  · subst h
    by_cases h2 : i < l.length
    · simp [h2]
    · simp [h2]
  · simp [h]

def falses (l : List Bool) : Nat → Nat
  | 0 => 0
  | n + 1 => falses l n + if l.getD n false = false then 1 else 0
theorem falses_set {l : List Bool} {v : Nat} (hv : v < l.length) (hf : l.getD v false = false) : ∀ n, falses (l.set v true) n + (if v < n then 1 else 0) = falses l n
  | 0 => by simp [falses]
  | n + 1 => by
    have ih := falses_set hv hf n
    have hg := getB_set l v n true
    by_cases e : v = n
    · subst e
      rw [if_pos ⟨rfl, hv⟩] at hg
      rw [if_neg (Nat.lt_irrefl v)] at ih
      unfold falses
      rw [hg, hf, if_pos (Nat.lt_succ_self v)]
      simp only [Bool.true_eq_false, if_false, if_true]
      omega
    · rw [if_neg (fun h => e h.1)] at hg
      unfold falses
      rw [hg]
      by_cases h : v < n
      · rw [if_pos h] at ih; rw [if_pos (show v < n + 1 by omega)]; omega
      · rw [if_neg h] at ih; rw [if_neg (show ¬ v < n + 1 by omega)]; omega

/-- No edge leads from what is come to to what is not. -/
def StepOk (ss : List St) (bk : Bool) (l : List Bool) (e : Ed) : Prop := lab ss (eU bk e) = lab ss (eV bk e) → l.getD (eU bk e) false = true → l.getD (eV bk e) false = true
structure BInv (ss : List St) (es : List Ed) (n : Nat) (bk : Bool) (l : List Bool) : Prop where
  len : l.length = n
  s : ∀ v, v < n → l.getD v false = true → Rch ss es n bk v
  r : ∀ v, v < n → lab ss v = v → l.getD v false = true
theorem BInv.set {ss : List St} {es : List Ed} {n : Nat} {bk : Bool} {l : List Bool} (h : BInv ss es n bk l) {e : Ed} (he : e ∈ es) (hv : Valid n e) (hl : lab ss (eU bk e) = lab ss (eV bk e)) (hu : l.getD (eU bk e) false = true) : BInv ss es n bk (l.set (eV bk e) true) := by
  have hun : eU bk e < n := by unfold eU; split; exact hv.2; exact hv.1
  refine ⟨by rw [List.length_set]; exact h.len, fun v hvn hv1 => ?_, fun v hvn hr => ?_⟩
  · rw [getB_set] at hv1
    split at hv1
    · rename_i hc; rw [← hc.1]; exact Rch.step e he hl (h.s _ hun hu)
    · exact h.s v hvn hv1
  · rw [getB_set]; split
    · rfl
    · exact h.r v hvn hr
theorem BInv.done {ss : List St} {es : List Ed} {n : Nat} {bk : Bool} {l : List Bool} (h : BInv ss es n bk l) (hv : ∀ e, e ∈ es → Valid n e) (hc : ∀ e, e ∈ es → StepOk ss bk l e) : ∀ v, v < n → (l.getD v false = true ↔ Rch ss es n bk v) := by
  have h1 : ∀ v, Rch ss es n bk v → v < n ∧ l.getD v false = true := by
    intro v hf
    induction hf with
    | root v hv' hr => exact ⟨hv', h.r v hv' hr⟩
    | step e he hl _ ih =>
      refine ⟨?_, hc e he hl ih.2⟩
      have := hv e he
      unfold eV; split; exact this.1; exact this.2
  exact fun v hvn => ⟨h.s v hvn, fun x => (h1 v x).2⟩

structure PassB (ss : List St) (es : List Ed) (n : Nat) (bk : Bool) (l0 : List Bool) (k : Nat) (ag : Bool) (l : List Bool) : Prop where
  inv : BInv ss es n bk l
  t : ag = true → falses l n < falses l0 n
  f : ag = false → l = l0 ∧ ∀ j (_ : j < k) (h2 : j < es.length), StepOk ss bk l0 es[j]
theorem PassB.yes {ss : List St} {es : List Ed} {n : Nat} {bk : Bool} {l0 l : List Bool} {k : Nat} {ag : Bool} (h : PassB ss es n bk l0 k ag l) (hk : k < es.length) (hv : Valid n es[k]) (hl : lab ss (eU bk es[k]) = lab ss (eV bk es[k])) (hu : l.getD (eU bk es[k]) false = true) (hn : l.getD (eV bk es[k]) false = false) :
    PassB ss es n bk l0 (k + 1) true (l.set (eV bk es[k]) true) := by
  have hvn : eV bk es[k] < n := by unfold eV; split; exact hv.1; exact hv.2
  have hf := falses_set (l := l) (v := eV bk es[k]) (by rw [h.inv.len]; exact hvn) hn n
  rw [if_pos hvn] at hf
  refine ⟨h.inv.set (List.getElem_mem hk) hv hl hu, fun _ => ?_, fun h => by cases h⟩
  cases ag
  · rw [(h.f rfl).1] at hf ⊢; omega
  · have := h.t rfl; omega
theorem PassB.no {ss : List St} {es : List Ed} {n : Nat} {bk : Bool} {l0 l : List Bool} {k : Nat} {ag : Bool} (h : PassB ss es n bk l0 k ag l) (hk : k < es.length) (hs : StepOk ss bk l es[k]) : PassB ss es n bk l0 (k + 1) ag l := by
  refine ⟨h.inv, h.t, fun e => ?_⟩
  obtain ⟨h1, h2⟩ := h.f e
  refine ⟨h1, fun j hj hj2 => ?_⟩
  by_cases e2 : j = k
  · subst e2; rw [← h1]; exact hs
  · exact h2 j (by omega) hj2

structure BRel (ss : List St) (es : List Ed) (n : Nat) (bk : Bool) (gk : Nat) (ag : Bool) (l : List Bool) : Prop where
  inv : BInv ss es n bk l
  cl : ag = false → ∀ e, e ∈ es → StepOk ss bk l e
  z : falses l n + (if ag then 1 else 0) ≤ gk

theorem Try.info4 : (Try.prog.info? 4).map (fun i => (i.zero, i.size, i.bytes)) = some (some (.bool false), 1, 1) := by kernel_rfl

set_option maxHeartbeats 8000000 in
theorem within_any (n sb so sc ec eb eo : Nat) (a ea : Option Addr) (es : List Ed) (ss : List St) (bk : Bool) (w : World) (hs : IsSts w a sb so ss) (hE : IsEds w ea eb eo es) (hss : ss.length = n) (hn : n ≤ 5000) (hn1 : 1 ≤ n) (hlen : es.length ≤ 1048576) (hva : ∀ e, e ∈ es → Valid n e) :
    Calls Try.prog 45 #[.int .u32 n, .slice ea es.length ec, .slice a n sc, .bool bk] w fun e w' => ∃ g l, e = .returned (.slice (some ⟨g, 0, none⟩) n n) ∧ isBlk w' g 4 (boolL l) ∧ l.length = n ∧ (∀ v, v < n → (l.getD v false = true ↔ Rch ss es n bk v)) ∧ w.heap.size ≤ g ∧ Below w.heap.size w w' := by
  obtain ⟨i0, hi, hz0, hz1, hz2⟩ := info_parts Try.info4
  have hmk : ∀ w, (Instr.makeSlice 85 (.int .u32 n) (.int .u32 n)).run Try.prog w = .ok (.slice (some ⟨w.heap.size, 0, none⟩) n n) (w.alloc (.cells (madeCells #[.bool false] (n * 1)) 4)) := by
    intro w
    have := run_make w 85 4 i0 (.bool false) Try.underlying85 hi hz0 .u32 .u32 n n (by omega) (by omega) (by rw [hz2]; omega) (by omega)
    rw [hz1] at this
    simp only [Int.toNat_natCast, Value.cells] at this
    exact this
  simp only [Nat.mul_one, madeCells_one] at hmk
  have HSS := Lib.hid hss
  obtain rfl := hs.ad (by omega)
  have hsl := hs.lt (by omega)
  clear hss
  go_enter Try.func45, Try.ntmps45
  go_upto_block 0 with fail
  have hk0 := isBlk.rep w n 4 (.bool false)
  have hB0 : Below w.heap.size w (w.alloc (.cells (Array.replicate n (.bool false)) 4)) := (by repeat (first | with_reducible exact Below.refl _ _ | with_reducible assumption | with_reducible refine below_drewN ?_ _ | with_reducible refine Below.drew ?_ | ((with_reducible refine Bset ?_ ?_); focus (first | omega | (simp; done) | (simp; omega))) | ((with_reducible refine Ball ?_ ?_); focus (first | omega | (simp; done) | (simp; omega)))))
  clear hmk
  obtain ⟨W1, hW1⟩ : ∃ W1, w.alloc (.cells (Array.replicate n (.bool false)) 4) = W1 := ⟨_, rfl⟩
  obtain ⟨g, hg⟩ : ∃ g, g = w.heap.size := ⟨_, rfl⟩
  rw [hW1, ← hg] at hk0
  rw [hW1] at hB0
  rw [hW1, ← hg]
  have hgz : w.heap.size ≤ g := by omega
  have hsg : sb ≠ g := by omega
  have hi0 : isBlk W1 g 4 (boolL (List.replicate n false)) := by rw [show boolL (List.replicate n false) = List.replicate n (.bool false) by simp [boolL]]; exact hk0
  clear hW1 hg hk0
  go_cut [10] (fun _ wx => ∃ l, isBlk wx g 4 (boolL l) ∧ BInv ss es n bk l ∧ Below w.heap.size w wx)
  case first =>
    go_wp2_with fail
    go_loopg [10] n (fun gk i wr => ∃ (k : Nat) (l : List Bool), k + gk = n ∧ i = .int .i64 k ∧ isBlk wr g 4 (boolL l) ∧ l.length = n ∧ (∀ v, v < k → l.getD v false = (lab ss v == v)) ∧ (∀ v, k ≤ v → l.getD v false = false) ∧ Below w.heap.size w wr)
    case atStart => exact ⟨0, _, by omega, rfl, hi0, by simp, fun v hv => absurd hv (Nat.not_lt_zero v), fun v _ => by rw [List.getD_eq_getElem?_getD, List.getElem?_replicate]; split <;> rfl, hB0⟩
    case round =>
      clear hi0 hB0
      obtain ⟨k, l, hk, rfl, hbl, hll, hl1, hl2, hb⟩ := hrel
      by_cases hlt : k < n
      · have i1 : (k : Int) < n := by omega
        have i2 : (0 : Int) ≤ k := Int.natCast_nonneg _
        have hgk : 0 < gk := by omega
        have hkw : IntKind.u64.wrap (k : Int) = (k : Int) := by rw [IntKind.wrap_u64]; omega
        have hsr := hs.below hb (fun _ => hsl)
        have c0 : wr.cell? ⟨sb, so + k * 8, none⟩ = some (.int .u64 (lab ss k : Nat)) := by have := hsr.c0 k (by rw [HSS.out]; exact hlt); rwa [lab_get] at this
        have hsl2 := hsr.lt (by rw [HSS.out]; omega)
        have hgl := hbl.lt
        have g0 : wr.cell? ⟨g, k, none⟩ = some (.bool (l.getD k false)) := by rw [hbl.cell k]; exact boolL_get l k (by omega)
        have f0 := hbl.frozen k
        have hnx : ∀ b : Bool, b = (lab ss k == k) → isBlk (wr.setCell ⟨g, k, none⟩ (.bool b)) g 4 (boolL (l.set k b)) ∧ (l.set k b).length = n ∧ (∀ v, v < k + 1 → (l.set k b).getD v false = (lab ss v == v)) ∧ (∀ v, k + 1 ≤ v → (l.set k b).getD v false = false) ∧ Below w.heap.size w (wr.setCell ⟨g, k, none⟩ (.bool b)) := by
          intro b hbb
          refine ⟨by rw [← boolL_set]; exact hbl.set k _, by rw [List.length_set]; exact hll, fun v hv => ?_, fun v hv => ?_, Bset hgz hb⟩
          · rw [getB_set]
            by_cases e : k = v
            · subst e; rw [if_pos ⟨rfl, by omega⟩]; exact hbb
            · rw [if_neg (fun h => e h.1)]; exact hl1 v (by omega)
          · rw [getB_set, if_neg (by omega)]; exact hl2 v (by omega)
        have HN := Lib.hid hnx
        generalize l.getD k false = x at g0
        clear hnx hbl hl1 hl2 hsr hb
        by_cases h1 : lab ss k = k
        · have h1' : ((lab ss k : Int) == (k : Int)) = true := by rw [beq_iff_eq]; omega
          have H1 := Lib.hid (HN.out true (beq_iff_eq.2 h1).symm)
          clear HN h1
          generalize lab ss k = y at *
          go_wp2
          go_roundg (gk - 1)
          case measure => omega
          case rel => exact ⟨k + 1, _, by omega, by go_num, H1.out⟩
        · have h1' : ((lab ss k : Int) == (k : Int)) = false := by rw [beq_eq_false_iff_ne]; omega
          have H1 := Lib.hid (HN.out false (beq_eq_false_iff_ne.2 h1).symm)
          clear HN h1
          generalize lab ss k = y at *
          go_wp2
          go_roundg (gk - 1)
          case measure => omega
          case rel => exact ⟨k + 1, _, by omega, by go_num, H1.out⟩
      · obtain rfl : k = n := by omega
        have hinv : BInv ss es k bk l := ⟨hll, fun v hv h => by rw [hl1 v hv, beq_iff_eq] at h; exact Rch.root v hv h, fun v hv h => by rw [hl1 v hv, beq_iff_eq]; exact h⟩
        have HI := Lib.hid hinv
        clear hinv hl1 hl2 hll
        go_wp2
        go_meet
        exact ⟨l, hbl, HI.out, hb⟩
  case rest =>
    obtain ⟨l1, hb1, hinv1, hB1⟩ := hcut
    have HQ := Lib.hid (And.intro hb1 (And.intro hinv1 hB1))
    clear hb1 hinv1 hB1 hi0 hB0
    go_upto_block 2 with fail
    go_wp2_with fail
    go_loopg [11, 12, 13, 14] (falses l1 n + 1) (fun gk v _ _ _ wr => ∃ (ag : Bool) (l : List Bool), v = .bool ag ∧ isBlk wr g 4 (boolL l) ∧ Below w.heap.size w wr ∧ BRel ss es n bk gk ag l)
    case atStart => exact ⟨true, l1, rfl, HQ.out.1, HQ.out.2.2, HQ.out.2.1, (fun h => by cases h), by simp⟩
    case round =>
      clear HQ
      obtain ⟨ag, l, rfl, hbl, hb, hrl⟩ := hrel
      cases ag
      · have HD := Lib.hid (hrl.inv.done hva (hrl.cl rfl))
        have HL := Lib.hid hrl.inv.len
        clear hrl
        go_wp2
        go_ret
        exact ⟨g, l, rfl, hbl, HL.out, HD.out, hgz, hb⟩
      · obtain ⟨gq, rfl⟩ : ∃ gq : Nat, gq = gk := ⟨_, rfl⟩
        have HR := Lib.hid hrl
        have hp0 : PassB ss es n bk l 0 false l := ⟨hrl.inv, (fun h => by cases h), fun _ => ⟨rfl, fun j hj => absurd hj (Nat.not_lt_zero j)⟩⟩
        have HP := Lib.hid (And.intro hp0 (And.intro hbl hb))
        clear hrl hp0 hbl hb
        go_upto_block 4 with fail
        go_wp2_with fail
        go_loopg [11, 12, 13, 14] es.length (fun gm v i _ _ wx => ∃ (k : Nat) (ag : Bool) (l2 : List Bool), k + gm = es.length ∧ i = .int .i64 k ∧ v = .bool ag ∧ isBlk wx g 4 (boolL l2) ∧ Below w.heap.size w wx ∧ PassB ss es n bk l k ag l2)
        case atStart => exact ⟨0, false, l, by omega, rfl, rfl, HP.out.2.1, HP.out.2.2, HP.out.1⟩
        case round =>
          clear HP
          obtain ⟨k, ag, l2, hk, rfl, rfl, hbl, hb, hpb⟩ := hrel
          have HPB := Lib.hid hpb
          have HBL := Lib.hid hbl
          have HB := Lib.hid hb
          by_cases hlt : k < es.length
          · have i1 : (k : Int) < es.length := by omega
            have i2 : (0 : Int) ≤ k := Int.natCast_nonneg _
            have hgk : 0 < gk := by omega
            have hsr := hs.below hb (fun _ => hsl)
            have hEr := hE.below hb hE.lt
            obtain rfl := hEr.ad (by omega)
            have hel := hEr.lt (by omega)
            have hgl := hbl.lt
            have hsl2 := hsr.lt (by rw [HSS.out]; omega)
            have c0 := hEr.c0 k hlt
            have c1 := hEr.c1 k hlt
            have hvk := hva es[k] (List.getElem_mem hlt)
            have hyes := fun h1 h2 h3 => HPB.out.yes hlt hvk h1 h2 h3
            have hno := fun h1 => HPB.out.no hlt h1
            have hl2 := hpb.inv.len
            unfold StepOk at hno
            generalize es[k] = x at *
            obtain ⟨src, dst, x3⟩ := x
            obtain ⟨v1, v2⟩ := hvk
            unfold eU eV at hyes hno
            simp only [] at c0 c1 v1 v2 hyes hno
            have cS : wr.cell? ⟨sb, so + src * 8, none⟩ = some (.int .u64 (lab ss src : Nat)) := by have := hsr.c0 src (by rw [HSS.out]; exact v1); rwa [lab_get] at this
            have cD : wr.cell? ⟨sb, so + dst * 8, none⟩ = some (.int .u64 (lab ss dst : Nat)) := by have := hsr.c0 dst (by rw [HSS.out]; exact v2); rwa [lab_get] at this
            have gS : wr.cell? ⟨g, src, none⟩ = some (.bool (l2.getD src false)) := by rw [hbl.cell src]; exact boolL_get l2 src (by omega)
            have gD : wr.cell? ⟨g, dst, none⟩ = some (.bool (l2.getD dst false)) := by rw [hbl.cell dst]; exact boolL_get l2 dst (by omega)
            have fS := hbl.frozen src
            have fD := hbl.frozen dst
            have j1 : (src : Int) < n := by omega
            have j2 : (dst : Int) < n := by omega
            have j3 : (0 : Int) ≤ src := Int.natCast_nonneg _
            have j4 : (0 : Int) ≤ dst := Int.natCast_nonneg _
            have HY := Lib.hid hyes
            have HN := Lib.hid hno
            clear hyes hno hsr hEr hpb hl2 hbl hb
            cases bk
            · obtain ⟨yu, hyu⟩ : ∃ yu, lab ss src = yu := ⟨_, rfl⟩
              obtain ⟨yv, hyv⟩ : ∃ yv, lab ss dst = yv := ⟨_, rfl⟩
              obtain ⟨bu, hbu⟩ : ∃ bu, l2.getD src false = bu := ⟨_, rfl⟩
              obtain ⟨bv, hbv⟩ : ∃ bv, l2.getD dst false = bv := ⟨_, rfl⟩
              rw [hyu] at cS
              rw [hyv] at cD
              rw [hbu] at gS
              rw [hbv] at gD
              have HU := Lib.hid (And.intro hyu (And.intro hyv (And.intro hbu hbv)))
              clear hyu hyv hbu hbv
              by_cases h1 : yu = yv
              · have h1' : ((yu : Int) == (yv : Int)) = true := by rw [beq_iff_eq]; omega
                cases bu
                · have HNO := Lib.hid (HN.out (fun _ h => absurd (h.symm.trans HU.out.2.2.1) (by decide)))
                  clear h1 HN HY HPB
                  go_upto_region 17 with fail
                  go_quiet (fail)
                  go_wp2
                  go_roundg (gk - 1)
                  case measure => omega
                  case rel => exact ⟨k + 1, ag, l2, by omega, by go_num, rfl, HBL.out, below_drewN HB.out nq, HNO.out⟩
                · cases bv
                  · have HYS := Lib.hid (HY.out (HU.out.1.trans (h1.trans HU.out.2.1.symm)) HU.out.2.2.1 HU.out.2.2.2)
                    clear h1 HN HY HPB
                    go_upto_region 17 with fail
                    go_quiet (fail)
                    go_wp2
                    go_roundg (gk - 1)
                    case measure => omega
                    case rel => exact ⟨k + 1, true, l2.set dst true, by omega, by go_num, rfl, by rw [← boolL_set]; exact HBL.out.set dst (.bool true), Bset hgz (below_drewN HB.out nq), HYS.out⟩
                  · have HNO := Lib.hid (HN.out (fun _ _ => HU.out.2.2.2))
                    clear h1 HN HY HPB
                    go_upto_region 17 with fail
                    go_quiet (fail)
                    go_wp2
                    go_roundg (gk - 1)
                    case measure => omega
                    case rel => exact ⟨k + 1, ag, l2, by omega, by go_num, rfl, HBL.out, below_drewN HB.out nq, HNO.out⟩
              · have h1' : ((yu : Int) == (yv : Int)) = false := by rw [beq_eq_false_iff_ne]; omega
                have HNO := Lib.hid (HN.out (fun h _ => absurd (HU.out.1.symm.trans (h.trans HU.out.2.1)) h1))
                clear h1 HN HY HPB
                go_upto_region 17 with fail
                go_quiet (fail)
                go_wp2
                go_roundg (gk - 1)
                case measure => omega
                case rel => exact ⟨k + 1, ag, l2, by omega, by go_num, rfl, HBL.out, below_drewN HB.out nq, HNO.out⟩
            · obtain ⟨yu, hyu⟩ : ∃ yu, lab ss dst = yu := ⟨_, rfl⟩
              obtain ⟨yv, hyv⟩ : ∃ yv, lab ss src = yv := ⟨_, rfl⟩
              obtain ⟨bu, hbu⟩ : ∃ bu, l2.getD dst false = bu := ⟨_, rfl⟩
              obtain ⟨bv, hbv⟩ : ∃ bv, l2.getD src false = bv := ⟨_, rfl⟩
              rw [hyu] at cD
              rw [hyv] at cS
              rw [hbu] at gD
              rw [hbv] at gS
              have HU := Lib.hid (And.intro hyu (And.intro hyv (And.intro hbu hbv)))
              clear hyu hyv hbu hbv
              by_cases h1 : yu = yv
              · have h1' : ((yu : Int) == (yv : Int)) = true := by rw [beq_iff_eq]; omega
                cases bu
                · have HNO := Lib.hid (HN.out (fun _ h => absurd (h.symm.trans HU.out.2.2.1) (by decide)))
                  clear h1 HN HY HPB
                  go_upto_region 17 with fail
                  go_quiet (fail)
                  go_wp2
                  go_roundg (gk - 1)
                  case measure => omega
                  case rel => exact ⟨k + 1, ag, l2, by omega, by go_num, rfl, HBL.out, below_drewN HB.out nq, HNO.out⟩
                · cases bv
                  · have HYS := Lib.hid (HY.out (HU.out.1.trans (h1.trans HU.out.2.1.symm)) HU.out.2.2.1 HU.out.2.2.2)
                    clear h1 HN HY HPB
                    go_upto_region 17 with fail
                    go_quiet (fail)
                    go_wp2
                    go_roundg (gk - 1)
                    case measure => omega
                    case rel => exact ⟨k + 1, true, l2.set src true, by omega, by go_num, rfl, by rw [← boolL_set]; exact HBL.out.set src (.bool true), Bset hgz (below_drewN HB.out nq), HYS.out⟩
                  · have HNO := Lib.hid (HN.out (fun _ _ => HU.out.2.2.2))
                    clear h1 HN HY HPB
                    go_upto_region 17 with fail
                    go_quiet (fail)
                    go_wp2
                    go_roundg (gk - 1)
                    case measure => omega
                    case rel => exact ⟨k + 1, ag, l2, by omega, by go_num, rfl, HBL.out, below_drewN HB.out nq, HNO.out⟩
              · have h1' : ((yu : Int) == (yv : Int)) = false := by rw [beq_eq_false_iff_ne]; omega
                have HNO := Lib.hid (HN.out (fun h _ => absurd (HU.out.1.symm.trans (h.trans HU.out.2.1)) h1))
                clear h1 HN HY HPB
                go_upto_region 17 with fail
                go_quiet (fail)
                go_wp2
                go_roundg (gk - 1)
                case measure => omega
                case rel => exact ⟨k + 1, ag, l2, by omega, by go_num, rfl, HBL.out, below_drewN HB.out nq, HNO.out⟩
          · obtain rfl : k = es.length := by omega
            have hr := HR.out
            have hz := hr.z
            simp only [if_true] at hz
            have hgq : 0 < gq := by omega
            have hnew : BRel ss es n bk (gq - 1) ag l2 := by
              refine ⟨HPB.out.inv, fun h e he => ?_, ?_⟩
              · obtain ⟨h1, h2⟩ := HPB.out.f h
                obtain ⟨j, hj, rfl⟩ := List.mem_iff_getElem.1 he
                rw [h1]; exact h2 j hj hj
              · cases ag
                · rw [(HPB.out.f rfl).1]; simp only [Bool.false_eq_true, if_false]; omega
                · have := HPB.out.t rfl; simp only [if_true]; omega
            have HW := Lib.hid hnew
            clear hnew hz hr hpb
            go_wp2
            go_roundg (gq - 1)
            case measure => omega
            case rel => exact ⟨ag, l2, rfl, hbl, hb, HW.out⟩

end Go.Proofs.Ytohmeobfiomfdaa
