/-
  The document's audit of levels: the walk.
-/
import Derived.Test.YtohmeobfiomfdaaHeld
import Derived.Test.YtohmeobfiomfdaaTopo6
namespace Go.Proofs.Ytohmeobfiomfdaa
open Go.RowKit Go.Shelf
set_option maxRecDepth 100000
set_option linter.unusedSimpArgs false

theorem RefW.put {w0 W : World} {g fb vb n : Nat} {R : List Nat} (h : RefW w0 g fb vb n R W) {p : Addr} (v : Value) (h0 : w0.heap.size ≤ p.block) (h1 : g ≠ p.block) (h2 : fb ≠ p.block) (h3 : vb ≠ p.block) : RefW w0 g fb vb n R (W.setCell p v) :=
  ⟨h.rg.other h1, h.rf.other h2, h.rv.other h3, Bset h0 h.rb, h.n1, h.n2⟩

theorem noteR1 (g n v : Nat) (b : Bool) (l : List Nat) (w : World) (h : isBlk w g 3 (i64L l)) (hl : l.length = n) (hv : v < n) :
    Calls Try.prog 44 #[.agg #[.slice (some ⟨g, 0, none⟩) n n], .int .i64 v, .int .i64 1, .bool b] w fun e w' => (∃ x, e = .returned x) ∧ isBlk w' g 3 (i64L (noteL l v 1 b)) ∧ Chg (fun j => j = g) w w' := note_any g n v 1 b l w h hl hv
theorem noteR2 (g n v : Nat) (b : Bool) (l : List Nat) (w : World) (h : isBlk w g 3 (i64L l)) (hl : l.length = n) (hv : v < n) :
    Calls Try.prog 44 #[.agg #[.slice (some ⟨g, 0, none⟩) n n], .int .i64 v, .int .i64 2, .bool b] w fun e w' => (∃ x, e = .returned x) ∧ isBlk w' g 3 (i64L (noteL l v 2 b)) ∧ Chg (fun j => j = g) w w' := note_any g n v 2 b l w h hl hv
theorem noteR3 (g n v : Nat) (b : Bool) (l : List Nat) (w : World) (h : isBlk w g 3 (i64L l)) (hl : l.length = n) (hv : v < n) :
    Calls Try.prog 44 #[.agg #[.slice (some ⟨g, 0, none⟩) n n], .int .i64 v, .int .i64 3, .bool b] w fun e w' => (∃ x, e = .returned x) ∧ isBlk w' g 3 (i64L (noteL l v 3 b)) ∧ Chg (fun j => j = g) w w' := note_any g n v 3 b l w h hl hv

theorem Tells.two {R : List Nat} {n k : Nat} {B P Q : Nat → Prop} {b1 b3 : Bool} (h : Tells R n (fun v r => (r = 2 ∧ B v) ∨ (v < k ∧ ((r = 1 ∧ P v) ∨ (r = 3 ∧ Q v))))) (hk : k < n) (h1 : b1 = true ↔ P k) (h3 : b3 = true ↔ Q k) : Tells (noteL (noteL R k 1 b1) k 3 b3) n (fun v r => (r = 2 ∧ B v) ∨ (v < k + 1 ∧ ((r = 1 ∧ P v) ∨ (r = 3 ∧ Q v)))) := by
  refine ((h.note k 1 b1 hk (by decide)).note k 3 b3 hk (by decide)).congr (fun v r => ?_)
  constructor
  · rintro (((h | ⟨hv, h⟩) | ⟨hb, rfl, rfl⟩) | ⟨hb, rfl, rfl⟩)
    · exact Or.inl h
    · exact Or.inr ⟨by omega, h⟩
    · exact Or.inr ⟨by omega, Or.inl ⟨rfl, h1.1 hb⟩⟩
    · exact Or.inr ⟨by omega, Or.inr ⟨rfl, h3.1 hb⟩⟩
  · rintro (hx | ⟨hv, hx⟩)
    · exact Or.inl (Or.inl (Or.inl hx))
    · by_cases e : v = k
      · rcases hx with ⟨hr, hx⟩ | ⟨hr, hx⟩
        · exact Or.inl (Or.inr ⟨h1.2 (by rw [← e]; exact hx), e, hr⟩)
        · exact Or.inr ⟨h3.2 (by rw [← e]; exact hx), e, hr⟩
      · exact Or.inl (Or.inl (Or.inr ⟨by omega, hx⟩))
theorem topoTop_iff {n u : Nat} {b : Bool} (h : topoTop n u = b) : b = true ↔ topoTop n u = true := by rw [h]

set_option maxHeartbeats 8000000 in
theorem refTopos_any (n sb so sc ec eb eo : Nat) (a ea : Option Addr) (es : List Ed) (ss : List St) (w : World) (hs : IsSts w a sb so ss) (hE : IsEds w ea eb eo es) (hss : ss.length = n) (hn : n ≤ 5000) (hn1 : 1 ≤ n) (hlen : es.length ≤ 1048576) (hva : ∀ e, e ∈ es → Valid n e) :
    Calls Try.prog 18 #[.int .u32 n, .slice ea es.length ec, .slice a n sc] w fun e w' => ∃ (x : Bool) (y z : Nat), e = .returned (.agg #[.bool x, .int .u32 y, .int .i64 z]) ∧ (∃ f, verdC 0 f = #[.bool x, .int .u32 y, .int .i64 z] ∧ Least f (Btop ss es n)) ∧ Below w.heap.size w w' := by
  obtain ⟨i0, hi, hz0, hz1, hz2⟩ := info_parts Try.info4
  have hmk : ∀ w, (Instr.makeSlice 85 (.int .u32 n) (.int .u32 n)).run Try.prog w = .ok (.slice (some ⟨w.heap.size, 0, none⟩) n n) (w.alloc (.cells (madeCells #[.bool false] (n * 1)) 4)) := by
    intro w
    have := run_make w 85 4 i0 (.bool false) Try.underlying85 hi hz0 .u32 .u32 n n (by omega) (by omega) (by rw [hz2]; omega) (by omega)
    rw [hz1] at this
    simp only [Int.toNat_natCast, Value.cells] at this
    exact this
  simp only [Nat.mul_one, madeCells_one] at hmk
  clear hz0 hz1 hz2 hi
  have HSS := Lib.hid hss
  obtain rfl := hs.ad (by omega)
  have hsl := hs.lt (by omega)
  clear hss
  go_enter Try.func18, Try.ntmps18
  go_upto_block 0 with (go_at_call 43; ((with_reducible refine (begin_any n _ (by omega)).mono ?_); rintro e w1 ⟨g, rfl, hg1, hgz, hb1⟩))
  have hvk := (isBlk.new w 35 [.bool false, .int .u32 0, .int .i64 0]).below hb1 (by simp)
  have hz1 := hb1.size
  simp only [World.size_alloc] at hz1 hgz
  have HR0 : RefW w g w1.heap.size w.heap.size n (List.replicate n 0) (w1.alloc (.cells #[.slice (some ⟨g, 0, none⟩) n n] 82)) := ⟨hg1.old _, isBlk.new w1 82 [_], hvk.old _, Ball (by omega) (Below.trans (Ball (Nat.le_refl _) (Below.refl _ _)) (hb1.mono (by simp))), ⟨by omega, by omega, Nat.le_refl _⟩, ⟨by have := hg1.lt; omega, by omega, by omega⟩⟩
  have hgl1 := hg1.lt
  have HR1 : Hid (RefW w g w1.heap.size w.heap.size n (List.replicate n 0) ((w1.alloc (.cells #[.slice (some ⟨g, 0, none⟩) n n] 82)).alloc (.cells (Array.replicate n (.bool false)) 4))) := Lib.hid (HR0.below ((Below.refl _ _).alloc (Nat.le_refl _) _))
  have hk0 := isBlk.rep (w1.alloc (.cells #[.slice (some ⟨g, 0, none⟩) n n] 82)) n 4 (.bool false)
  simp only [World.size_alloc] at hk0
  clear hmk HR0
  obtain ⟨W1, hW1⟩ : ∃ W1, (w1.alloc (.cells #[.slice (some ⟨g, 0, none⟩) n n] 82)).alloc (.cells (Array.replicate n (.bool false)) 4) = W1 := ⟨_, rfl⟩
  obtain ⟨hb, hhb⟩ : ∃ hb, hb = w1.heap.size + 1 := ⟨_, rfl⟩
  obtain ⟨fb, hfb⟩ : ∃ fb, fb = w1.heap.size := ⟨_, rfl⟩
  obtain ⟨vb, hvb⟩ : ∃ vb, vb = w.heap.size := ⟨_, rfl⟩
  have hsg : sb ≠ g := by omega
  have hgw : w.heap.size ≤ g := by omega
  have hhx : w.heap.size ≤ hb ∧ g ≠ hb ∧ fb ≠ hb ∧ vb ≠ hb ∧ sb ≠ hb := by omega
  have hvz : w.heap.size ≤ vb := by omega
  rw [← hhb, hW1] at hk0
  rw [hW1, ← hfb, ← hvb] at HR1
  rw [hW1, ← hhb, ← hfb, ← hvb]
  have HH1 : Hid (isBlk W1 hb 4 (boolL (List.replicate n false))) := Lib.hid (by rw [show boolL (List.replicate n false) = List.replicate n (.bool false) by simp [boolL]]; exact hk0)
  clear hW1 hfb hvb hvk hz1 hgz hg1 hb1 hk0 hhb hgl1
  go_cut [9, 10, 11, 12] (fun _ _ _ _ wx => ∃ R H, Hid (RefW w g fb vb n R wx) ∧ Hid (isBlk wx hb 4 (boolL H)) ∧ Hid (TopR ss es n es.length R H))
  case first =>
    go_wp2_with fail
    go_loopg [9, 10, 11, 12] es.length (fun gk i _ _ _ wr => ∃ (k : Nat) (R : List Nat) (H : List Bool), k + gk = es.length ∧ i = .int .i64 k ∧ Hid (RefW w g fb vb n R wr) ∧ Hid (isBlk wr hb 4 (boolL H)) ∧ Hid (TopR ss es n k R H))
    case atStart => exact ⟨0, _, _, by omega, rfl, HR1, HH1, Lib.hid (TopR.init ss es n)⟩
    case round =>
      clear HR1 HH1
      obtain ⟨k, R, H, hk, rfl, HR, HH, HT⟩ := hrel
      have hRl := HT.out.t.1
      have hHl := HT.out.hl
      by_cases hlt : k < es.length
      · have i1 : (k : Int) < es.length := by omega
        have i2 : (0 : Int) ≤ k := Int.natCast_nonneg _
        have hgk : 0 < gk := by omega
        have hbw := HR.out.rb
        have hsr := hs.below hbw (fun _ => hsl)
        have hEr := hE.below hbw hE.lt
        obtain rfl := hEr.ad (by omega)
        have hel := hEr.lt (by omega)
        have hslr := hsr.lt (by rw [HSS.out]; omega)
        have hfl := HR.out.rf.lt
        have hgl := HR.out.rg.lt
        have hfg := HR.out.n2.1
        have hhl := HH.out.lt
        have c0 := hEr.c0 k hlt
        have c1 := hEr.c1 k hlt
        have hvk := hva es[k] (List.getElem_mem hlt)
        have cf : wr.cell? ⟨fb, 0, none⟩ = some (.slice (some ⟨g, 0, none⟩) n n) := HR.out.rf.cell 0
        have hst := fun b c h1 h2 => HT.out.step hlt hvk.2 b c h1 h2
        generalize es[k] = x at *
        obtain ⟨src, dst, x3⟩ := x
        obtain ⟨v1, v2⟩ := hvk
        simp only [] at c0 c1 v1 v2 hst
        have cS : wr.cell? ⟨sb, so + src * 8, none⟩ = some (.int .u64 (lab ss src : Nat)) := by have := hsr.c0 src (by rw [HSS.out]; exact v1); rwa [lab_get] at this
        have cD : wr.cell? ⟨sb, so + dst * 8, none⟩ = some (.int .u64 (lab ss dst : Nat)) := by have := hsr.c0 dst (by rw [HSS.out]; exact v2); rwa [lab_get] at this
        have hs0 : (src : Int) < n := by omega
        have hs1 : (dst : Int) < n := by omega
        have hs2 : (0 : Int) ≤ src := Int.natCast_nonneg _
        have hs3 : (0 : Int) ≤ dst := Int.natCast_nonneg _
        have HST := Lib.hid hst
        clear hst hbw hsr hEr
        generalize lab ss src = u at *
        generalize lab ss dst = v at *
        by_cases hu : u = 18446744073709551615
        · have hu' : ((u : Int) == 18446744073709551615) = true := by rw [beq_iff_eq]; omega
          have hu2 : ((u : Int) != 18446744073709551615) = false := by rw [bne_eq_false_iff_eq]; omega
          by_cases hvv : v = 18446744073709551615
          · have hv' : ((v : Int) == 18446744073709551615) = true := by rw [beq_iff_eq]; omega
            have hv2 : ((v : Int) != 18446744073709551615) = false := by rw [bne_eq_false_iff_eq]; omega
            have H1 : Hid (TopR ss es n (k + 1) (noteL R dst 2 false) (H.set dst true)) := Lib.hid (HST.out false true (by unfold topoBad; rw [if_pos hu, hvv]; rfl) (by unfold topoHold; rw [hu, hvv]; rfl))
            clear HST hu hvv
            go_wp2_with (go_at_call 44; ((with_reducible refine (noteR2 g n dst false R _ HR.out.rg hRl v2).mono ?_); rintro e w2 ⟨⟨x2, rfl⟩, hd2, hc2⟩; have hh2 : Hid (isBlk w2 hb 4 (boolL H)) := Lib.hid ((hc2.block _ hhl (fun e => hhx.2.1 e.symm)).trans HH.out); have ch2 : w2.cell? ⟨hb, dst, none⟩ = some (.bool (H.getD dst false)) := (hh2.out.cell dst).trans (boolL_get H dst (by omega)); have fh2 := hh2.out.frozen dst; have hz2 := hc2.size))
            have HR2 := Lib.hid (HR.out.go hd2 ⟨hc2.os, hc2.tape, hc2.output, hc2.size, hc2.block⟩)
            go_roundg (gk - 1)
            case measure => omega
            case rel => exact ⟨k + 1, _, _, by omega, by go_num, Lib.hid (HR2.out.put _ hhx.1 hhx.2.1 hhx.2.2.1 hhx.2.2.2.1), Lib.hid (by rw [← boolL_set]; exact hh2.out.set dst _), H1⟩
          · have hv' : ((v : Int) == 18446744073709551615) = false := by rw [beq_eq_false_iff_ne]; omega
            have hv2 : ((v : Int) != 18446744073709551615) = true := by rw [bne_iff_ne]; omega
            by_cases h0 : v = 0
            · have h0' : ¬ (0 : Int) < (v : Int) := by omega
              have H1 : Hid (TopR ss es n (k + 1) (noteL R dst 2 true) H) := Lib.hid (HST.out true false (by unfold topoBad; rw [if_pos hu, beq_eq_false_iff_ne.2 hvv]; rfl) (by unfold topoHold; rw [hu, h0]; rfl))
              clear HST hu hvv h0
              go_wp2_with (go_at_call 44; ((with_reducible refine (noteR2 g n dst true R _ HR.out.rg hRl v2).mono ?_); rintro e w2 ⟨⟨x2, rfl⟩, hd2, hc2⟩; have hh2 : Hid (isBlk w2 hb 4 (boolL H)) := Lib.hid ((hc2.block _ hhl (fun e => hhx.2.1 e.symm)).trans HH.out); have ch2 : w2.cell? ⟨hb, dst, none⟩ = some (.bool (H.getD dst false)) := (hh2.out.cell dst).trans (boolL_get H dst (by omega)); have fh2 := hh2.out.frozen dst; have hz2 := hc2.size))
              have HR2 := Lib.hid (HR.out.go hd2 ⟨hc2.os, hc2.tape, hc2.output, hc2.size, hc2.block⟩)
              go_roundg (gk - 1)
              case measure => omega
              case rel => exact ⟨k + 1, _, _, by omega, by go_num, HR2, hh2, H1⟩
            · have h0' : (0 : Int) < (v : Int) := by omega
              obtain ⟨q, hq⟩ : ∃ q, (v - 1) % 18446744073709551616 = q := ⟨_, rfl⟩
              have hvw : IntKind.u64.wrap ((v : Int) - 1) = (q : Int) := by rw [IntKind.wrap_u64]; omega
              by_cases h1 : u = q
              · have h1' : ((u : Int) == (q : Int)) = true := by rw [beq_iff_eq]; omega
                have H1 : Hid (TopR ss es n (k + 1) (noteL R dst 2 true) (H.set dst true)) := Lib.hid (HST.out true true (by unfold topoBad; rw [if_pos hu, beq_eq_false_iff_ne.2 hvv]; rfl) (by unfold topoHold; rw [hq, beq_eq_false_iff_ne.2 hvv, beq_eq_false_iff_ne.2 h0, beq_iff_eq.2 h1]; simp))
                clear HST hu hvv h0 h1 hq
                go_wp2_with (go_at_call 44; ((with_reducible refine (noteR2 g n dst true R _ HR.out.rg hRl v2).mono ?_); rintro e w2 ⟨⟨x2, rfl⟩, hd2, hc2⟩; have hh2 : Hid (isBlk w2 hb 4 (boolL H)) := Lib.hid ((hc2.block _ hhl (fun e => hhx.2.1 e.symm)).trans HH.out); have ch2 : w2.cell? ⟨hb, dst, none⟩ = some (.bool (H.getD dst false)) := (hh2.out.cell dst).trans (boolL_get H dst (by omega)); have fh2 := hh2.out.frozen dst; have hz2 := hc2.size))
                have HR2 := Lib.hid (HR.out.go hd2 ⟨hc2.os, hc2.tape, hc2.output, hc2.size, hc2.block⟩)
                go_roundg (gk - 1)
                case measure => omega
                case rel => exact ⟨k + 1, _, _, by omega, by go_num, Lib.hid (HR2.out.put _ hhx.1 hhx.2.1 hhx.2.2.1 hhx.2.2.2.1), Lib.hid (by rw [← boolL_set]; exact hh2.out.set dst _), H1⟩
              · have h1' : ((u : Int) == (q : Int)) = false := by rw [beq_eq_false_iff_ne]; omega
                have H1 : Hid (TopR ss es n (k + 1) (noteL R dst 2 true) H) := Lib.hid (HST.out true false (by unfold topoBad; rw [if_pos hu, beq_eq_false_iff_ne.2 hvv]; rfl) (by unfold topoHold; rw [hq, beq_eq_false_iff_ne.2 hvv, beq_eq_false_iff_ne.2 h0, beq_eq_false_iff_ne.2 h1]; simp))
                clear HST hu hvv h0 h1 hq
                go_wp2_with (go_at_call 44; ((with_reducible refine (noteR2 g n dst true R _ HR.out.rg hRl v2).mono ?_); rintro e w2 ⟨⟨x2, rfl⟩, hd2, hc2⟩; have hh2 : Hid (isBlk w2 hb 4 (boolL H)) := Lib.hid ((hc2.block _ hhl (fun e => hhx.2.1 e.symm)).trans HH.out); have ch2 : w2.cell? ⟨hb, dst, none⟩ = some (.bool (H.getD dst false)) := (hh2.out.cell dst).trans (boolL_get H dst (by omega)); have fh2 := hh2.out.frozen dst; have hz2 := hc2.size))
                have HR2 := Lib.hid (HR.out.go hd2 ⟨hc2.os, hc2.tape, hc2.output, hc2.size, hc2.block⟩)
                go_roundg (gk - 1)
                case measure => omega
                case rel => exact ⟨k + 1, _, _, by omega, by go_num, HR2, hh2, H1⟩
        · have hu' : ((u : Int) == 18446744073709551615) = false := by rw [beq_eq_false_iff_ne]; omega
          have hu2 : ((u : Int) != 18446744073709551615) = true := by rw [bne_iff_ne]; omega
          by_cases hvv : v = 18446744073709551615
          · have hv' : ((v : Int) == 18446744073709551615) = true := by rw [beq_iff_eq]; omega
            have hv2 : ((v : Int) != 18446744073709551615) = false := by rw [bne_eq_false_iff_eq]; omega
            have H1 : Hid (TopR ss es n (k + 1) (noteL R dst 2 false) H) := Lib.hid (HST.out false false (by unfold topoBad; rw [if_neg hu, hvv]; rfl) (by unfold topoHold; rw [beq_eq_false_iff_ne.2 hu, hvv]; rfl))
            clear HST hu hvv
            go_wp2_with (go_at_call 44; ((with_reducible refine (noteR2 g n dst false R _ HR.out.rg hRl v2).mono ?_); rintro e w2 ⟨⟨x2, rfl⟩, hd2, hc2⟩; have hh2 : Hid (isBlk w2 hb 4 (boolL H)) := Lib.hid ((hc2.block _ hhl (fun e => hhx.2.1 e.symm)).trans HH.out); have ch2 : w2.cell? ⟨hb, dst, none⟩ = some (.bool (H.getD dst false)) := (hh2.out.cell dst).trans (boolL_get H dst (by omega)); have fh2 := hh2.out.frozen dst; have hz2 := hc2.size))
            have HR2 := Lib.hid (HR.out.go hd2 ⟨hc2.os, hc2.tape, hc2.output, hc2.size, hc2.block⟩)
            go_roundg (gk - 1)
            case measure => omega
            case rel => exact ⟨k + 1, _, _, by omega, by go_num, HR2, hh2, H1⟩
          · have hv' : ((v : Int) == 18446744073709551615) = false := by rw [beq_eq_false_iff_ne]; omega
            have hv2 : ((v : Int) != 18446744073709551615) = true := by rw [bne_iff_ne]; omega
            by_cases hle : v ≤ u
            · have hle' : (v : Int) ≤ u := by omega
              by_cases h0 : v = 0
              · have h0' : ¬ (0 : Int) < (v : Int) := by omega
                have H1 : Hid (TopR ss es n (k + 1) (noteL R dst 2 true) H) := Lib.hid (HST.out true false (by unfold topoBad; rw [if_neg hu, beq_eq_false_iff_ne.2 hvv, decide_eq_true hle]; rfl) (by unfold topoHold; rw [beq_eq_false_iff_ne.2 hu, h0]; rfl))
                clear HST hu hvv hle h0
                go_wp2_with (go_at_call 44; ((with_reducible refine (noteR2 g n dst true R _ HR.out.rg hRl v2).mono ?_); rintro e w2 ⟨⟨x2, rfl⟩, hd2, hc2⟩; have hh2 : Hid (isBlk w2 hb 4 (boolL H)) := Lib.hid ((hc2.block _ hhl (fun e => hhx.2.1 e.symm)).trans HH.out); have ch2 : w2.cell? ⟨hb, dst, none⟩ = some (.bool (H.getD dst false)) := (hh2.out.cell dst).trans (boolL_get H dst (by omega)); have fh2 := hh2.out.frozen dst; have hz2 := hc2.size))
                have HR2 := Lib.hid (HR.out.go hd2 ⟨hc2.os, hc2.tape, hc2.output, hc2.size, hc2.block⟩)
                go_roundg (gk - 1)
                case measure => omega
                case rel => exact ⟨k + 1, _, _, by omega, by go_num, HR2, hh2, H1⟩
              · have h0' : (0 : Int) < (v : Int) := by omega
                obtain ⟨q, hq⟩ : ∃ q, (v - 1) % 18446744073709551616 = q := ⟨_, rfl⟩
                have hvw : IntKind.u64.wrap ((v : Int) - 1) = (q : Int) := by rw [IntKind.wrap_u64]; omega
                by_cases h1 : u = q
                · have h1' : ((u : Int) == (q : Int)) = true := by rw [beq_iff_eq]; omega
                  have H1 : Hid (TopR ss es n (k + 1) (noteL R dst 2 true) (H.set dst true)) := Lib.hid (HST.out true true (by unfold topoBad; rw [if_neg hu, beq_eq_false_iff_ne.2 hvv, decide_eq_true hle]; rfl) (by unfold topoHold; rw [hq, beq_eq_false_iff_ne.2 hvv, beq_eq_false_iff_ne.2 h0, beq_iff_eq.2 h1]; simp))
                  clear HST hu hvv hle h0 h1 hq
                  go_wp2_with (go_at_call 44; ((with_reducible refine (noteR2 g n dst true R _ HR.out.rg hRl v2).mono ?_); rintro e w2 ⟨⟨x2, rfl⟩, hd2, hc2⟩; have hh2 : Hid (isBlk w2 hb 4 (boolL H)) := Lib.hid ((hc2.block _ hhl (fun e => hhx.2.1 e.symm)).trans HH.out); have ch2 : w2.cell? ⟨hb, dst, none⟩ = some (.bool (H.getD dst false)) := (hh2.out.cell dst).trans (boolL_get H dst (by omega)); have fh2 := hh2.out.frozen dst; have hz2 := hc2.size))
                  have HR2 := Lib.hid (HR.out.go hd2 ⟨hc2.os, hc2.tape, hc2.output, hc2.size, hc2.block⟩)
                  go_roundg (gk - 1)
                  case measure => omega
                  case rel => exact ⟨k + 1, _, _, by omega, by go_num, Lib.hid (HR2.out.put _ hhx.1 hhx.2.1 hhx.2.2.1 hhx.2.2.2.1), Lib.hid (by rw [← boolL_set]; exact hh2.out.set dst _), H1⟩
                · have h1' : ((u : Int) == (q : Int)) = false := by rw [beq_eq_false_iff_ne]; omega
                  have H1 : Hid (TopR ss es n (k + 1) (noteL R dst 2 true) H) := Lib.hid (HST.out true false (by unfold topoBad; rw [if_neg hu, beq_eq_false_iff_ne.2 hvv, decide_eq_true hle]; rfl) (by unfold topoHold; rw [hq, beq_eq_false_iff_ne.2 hvv, beq_eq_false_iff_ne.2 h0, beq_eq_false_iff_ne.2 h1]; simp))
                  clear HST hu hvv hle h0 h1 hq
                  go_wp2_with (go_at_call 44; ((with_reducible refine (noteR2 g n dst true R _ HR.out.rg hRl v2).mono ?_); rintro e w2 ⟨⟨x2, rfl⟩, hd2, hc2⟩; have hh2 : Hid (isBlk w2 hb 4 (boolL H)) := Lib.hid ((hc2.block _ hhl (fun e => hhx.2.1 e.symm)).trans HH.out); have ch2 : w2.cell? ⟨hb, dst, none⟩ = some (.bool (H.getD dst false)) := (hh2.out.cell dst).trans (boolL_get H dst (by omega)); have fh2 := hh2.out.frozen dst; have hz2 := hc2.size))
                  have HR2 := Lib.hid (HR.out.go hd2 ⟨hc2.os, hc2.tape, hc2.output, hc2.size, hc2.block⟩)
                  go_roundg (gk - 1)
                  case measure => omega
                  case rel => exact ⟨k + 1, _, _, by omega, by go_num, HR2, hh2, H1⟩
            · have hle' : ¬ (v : Int) ≤ u := by omega
              by_cases h0 : v = 0
              · have h0' : ¬ (0 : Int) < (v : Int) := by omega
                exact absurd (by omega) hle
              · have h0' : (0 : Int) < (v : Int) := by omega
                obtain ⟨q, hq⟩ : ∃ q, (v - 1) % 18446744073709551616 = q := ⟨_, rfl⟩
                have hvw : IntKind.u64.wrap ((v : Int) - 1) = (q : Int) := by rw [IntKind.wrap_u64]; omega
                by_cases h1 : u = q
                · have h1' : ((u : Int) == (q : Int)) = true := by rw [beq_iff_eq]; omega
                  have H1 : Hid (TopR ss es n (k + 1) (noteL R dst 2 false) (H.set dst true)) := Lib.hid (HST.out false true (by unfold topoBad; rw [if_neg hu, beq_eq_false_iff_ne.2 hvv, decide_eq_false hle]; rfl) (by unfold topoHold; rw [hq, beq_eq_false_iff_ne.2 hvv, beq_eq_false_iff_ne.2 h0, beq_iff_eq.2 h1]; simp))
                  clear HST hu hvv hle h0 h1 hq
                  go_wp2_with (go_at_call 44; ((with_reducible refine (noteR2 g n dst false R _ HR.out.rg hRl v2).mono ?_); rintro e w2 ⟨⟨x2, rfl⟩, hd2, hc2⟩; have hh2 : Hid (isBlk w2 hb 4 (boolL H)) := Lib.hid ((hc2.block _ hhl (fun e => hhx.2.1 e.symm)).trans HH.out); have ch2 : w2.cell? ⟨hb, dst, none⟩ = some (.bool (H.getD dst false)) := (hh2.out.cell dst).trans (boolL_get H dst (by omega)); have fh2 := hh2.out.frozen dst; have hz2 := hc2.size))
                  have HR2 := Lib.hid (HR.out.go hd2 ⟨hc2.os, hc2.tape, hc2.output, hc2.size, hc2.block⟩)
                  go_roundg (gk - 1)
                  case measure => omega
                  case rel => exact ⟨k + 1, _, _, by omega, by go_num, Lib.hid (HR2.out.put _ hhx.1 hhx.2.1 hhx.2.2.1 hhx.2.2.2.1), Lib.hid (by rw [← boolL_set]; exact hh2.out.set dst _), H1⟩
                · have h1' : ((u : Int) == (q : Int)) = false := by rw [beq_eq_false_iff_ne]; omega
                  have H1 : Hid (TopR ss es n (k + 1) (noteL R dst 2 false) H) := Lib.hid (HST.out false false (by unfold topoBad; rw [if_neg hu, beq_eq_false_iff_ne.2 hvv, decide_eq_false hle]; rfl) (by unfold topoHold; rw [hq, beq_eq_false_iff_ne.2 hvv, beq_eq_false_iff_ne.2 h0, beq_eq_false_iff_ne.2 h1]; simp))
                  clear HST hu hvv hle h0 h1 hq
                  go_wp2_with (go_at_call 44; ((with_reducible refine (noteR2 g n dst false R _ HR.out.rg hRl v2).mono ?_); rintro e w2 ⟨⟨x2, rfl⟩, hd2, hc2⟩; have hh2 : Hid (isBlk w2 hb 4 (boolL H)) := Lib.hid ((hc2.block _ hhl (fun e => hhx.2.1 e.symm)).trans HH.out); have ch2 : w2.cell? ⟨hb, dst, none⟩ = some (.bool (H.getD dst false)) := (hh2.out.cell dst).trans (boolL_get H dst (by omega)); have fh2 := hh2.out.frozen dst; have hz2 := hc2.size))
                  have HR2 := Lib.hid (HR.out.go hd2 ⟨hc2.os, hc2.tape, hc2.output, hc2.size, hc2.block⟩)
                  go_roundg (gk - 1)
                  case measure => omega
                  case rel => exact ⟨k + 1, _, _, by omega, by go_num, HR2, hh2, H1⟩
      · have hke : k = es.length := by omega
        subst hke
        go_wp2
        go_meet
        exact ⟨R, H, HR, HH, HT⟩
  case rest =>
    obtain ⟨R1, H, HR2, HH, HT1⟩ := hcut
    clear HR1 HH1
    have HTk := HT1.out.t
    have hHl := HT1.out.hl
    have hup := HT1.out.h
    rw [List.take_length] at HTk hup
    have HT2 := Lib.hid HTk
    have HUP := Lib.hid hup
    have HH2 := HH
    clear HTk hup HT1 HH hE
    go_upto_block 2 with fail
    go_cut [13, 14] (fun _ _ wx => ∃ R, Hid (RefW w g fb vb n R wx) ∧ Hid (Tells R n (Btop ss es n)))
    case first =>
      go_wp2_with fail
      go_loopg [13, 14] n (fun gk i _ wr => ∃ (k : Nat) (R : List Nat), k + gk = n ∧ i = .int .i64 k ∧ Hid (RefW w g fb vb n R wr) ∧ Hid (isBlk wr hb 4 (boolL H)) ∧ Hid (Tells R n (fun v r => (r = 2 ∧ BadIn ss es v) ∨ (v < k ∧ ((r = 1 ∧ topoTop n (lab ss v) = true) ∨ (r = 3 ∧ lab ss v ≠ 0 ∧ ¬ HeldUp ss es v))))))
      case atStart => exact ⟨0, R1, by omega, rfl, HR2, HH2, Lib.hid (HT2.out.congr (fun v r => ⟨Or.inl, fun h => h.elim id (fun h => absurd h.1 (Nat.not_lt_zero v))⟩))⟩
      case round =>
        clear HR2 HH2 HT2
        obtain ⟨k, R, hk, rfl, HR, HH, HT⟩ := hrel
        have hRl := HT.out.1
        by_cases hlt : k < n
        · have i1 : (k : Int) < n := by omega
          have i2 : (0 : Int) ≤ k := Int.natCast_nonneg _
          have hgk : 0 < gk := by omega
          have hnw : IntKind.u64.wrap (n : Int) = (n : Int) := by rw [IntKind.wrap_u64]; omega
          have hbw := HR.out.rb
          have hsr := hs.below hbw (fun _ => hsl)
          have hslr := hsr.lt (by rw [HSS.out]; omega)
          have hfl := HR.out.rf.lt
          have hgl := HR.out.rg.lt
          have hfg := HR.out.n2.1
          have hhl := HH.out.lt
          have c0 : wr.cell? ⟨sb, so + k * 8, none⟩ = some (.int .u64 (lab ss k : Nat)) := by have := hsr.c0 k (by rw [HSS.out]; exact hlt); rwa [lab_get] at this
          have cf : wr.cell? ⟨fb, 0, none⟩ = some (.slice (some ⟨g, 0, none⟩) n n) := HR.out.rf.cell 0
          have ch : (boolL H)[k]? = some (.bool (H.getD k false)) := boolL_get H k (by omega)
          have hbl : ∀ b1 b3 : Bool, topoTop n (lab ss k) = b1 → (b3 = true ↔ (lab ss k ≠ 0 ∧ ¬ H.getD k false = true)) → Tells (noteL (noteL R k 1 b1) k 3 b3) n (fun v r => (r = 2 ∧ BadIn ss es v) ∨ (v < k + 1 ∧ ((r = 1 ∧ topoTop n (lab ss v) = true) ∨ (r = 3 ∧ lab ss v ≠ 0 ∧ ¬ HeldUp ss es v)))) := fun b1 b3 h1 h3 => HT.out.two (P := fun v => topoTop n (lab ss v) = true) (Q := fun v => lab ss v ≠ 0 ∧ ¬ HeldUp ss es v) hlt (topoTop_iff h1) (h3.trans (and_congr_right' (not_congr (HUP.out k hlt))))
          have HB := Lib.hid hbl
          have CH := Lib.hid ch
          clear hbl hbw hsr
          generalize lab ss k = u at *
          generalize H.getD k false = hq at *
          by_cases h0 : u = 0
          · have h0' : ((u : Int) != 0) = false := by rw [bne_eq_false_iff_eq]; omega
            have h1' : ¬ (n : Int) ≤ (u : Int) := by omega
            have H1 := Lib.hid (HB.out false false (by unfold topoTop; rw [decide_eq_false (by omega)]; rfl) (by simp [h0]))
            clear HB h0
            go_upto_region 17 with (go_at_call 44; ((with_reducible refine (noteR1 g n k false R _ HR.out.rg hRl hlt).mono ?_); rintro e w2 ⟨⟨x2, rfl⟩, hd2, hc2⟩; have hh2 : Hid (isBlk w2 hb 4 (boolL H)) := Lib.hid ((hc2.block _ hhl (fun e => hhx.2.1 e.symm)).trans HH.out); have ch2 : w2.cell? ⟨hb, k, none⟩ = some (.bool hq) := (hh2.out.cell k).trans CH.out; have cf2 : w2.cell? ⟨fb, 0, none⟩ = some (.slice (some ⟨g, 0, none⟩) n n) := (cell_heap (a := ⟨fb, 0, none⟩) (hc2.block _ hfl hfg)).trans cf; have hz2 := hc2.size))
            have HR2 := Lib.hid (HR.out.go hd2 ⟨hc2.os, hc2.tape, hc2.output, hc2.size, hc2.block⟩)
            have hRl2 : (noteL R k 1 false).length = n := (noteL_len ..).trans hRl
            have hfl2 : fb < w2.heap.size := by omega
            have hhl2 : hb < w2.heap.size := by omega
            have hgh : hb ≠ g := fun e => hhx.2.1 e.symm
            clear hc2 ch cf
            refine wp_region_held_drew (S := fun wz => ∀ b o, b ≠ g → b < w2.heap.size → wz.cell? ⟨b, o, none⟩ = w2.cell? ⟨b, o, none⟩) (by kernel_rfl) (fun b o _ _ => rfl) (fun hHeld => ?_)
            refine wpAnyH_take (i := 0) (oi := { dst := some 116, op := Op.load 82 (Operand.tmp 7), type := 82, pos := "ref.go:436", after := #[], guard := none }) (v := ?hdv1) rfl (by kernel_rfl) (by kernel_rfl) (by kernel_rfl) (fun _ _ _ h => h) (Or.inl ⟨by rfl, ?hdy1⟩) (by assumption) ?hdr1
            case hdy1 => (intro w hSw; (try dsimp only at hSw); go_simp; (try with_reducible rfl))
            try simp only [Act.put, List.setIfInBounds_toArray, List.set_cons_zero, List.set_cons_succ]
            refine wpAnyH_take (i := 1) (oi := { dst := some 117, op := Op.move (Operand.tmp 13), type := 3, pos := "ref.go:436", after := #[], guard := none }) (v := ?hdv2) rfl (by kernel_rfl) (by kernel_rfl) (by kernel_rfl) (fun _ _ _ h => h) (Or.inl ⟨by rfl, ?hdy2⟩) (by assumption) ?hdr2
            case hdy2 => (intro w hSw; (try dsimp only at hSw); go_simp; (try with_reducible rfl))
            try simp only [Act.put, List.setIfInBounds_toArray, List.set_cons_zero, List.set_cons_succ]
            refine wpAnyH_take (i := 2) (oi := { dst := some 118, op := Op.move (Operand.tmp 14), type := 28, pos := "ref.go:436", after := #[], guard := none }) (v := ?hdv3) rfl (by kernel_rfl) (by kernel_rfl) (by kernel_rfl) (fun _ _ _ h => h) (Or.inl ⟨by rfl, ?hdy3⟩) (by assumption) ?hdr3
            case hdy3 => (intro w hSw; (try dsimp only at hSw); go_simp; (try with_reducible rfl))
            try simp only [Act.put, List.setIfInBounds_toArray, List.set_cons_zero, List.set_cons_succ]
            refine wpAnyH_take (i := 3) (oi := { dst := some 119, op := Op.binOp BinOp.neq 28 (Operand.tmp 118) (Operand.const (Value.int IntKind.u64 0)) 28, type := 4, pos := "ref.go:436", after := #[{ on := 2, ground := Ground.data }], guard := none }) (v := ?hdv4) rfl (by kernel_rfl) (by kernel_rfl) (by kernel_rfl) (fun _ _ _ h => h) (Or.inl ⟨by rfl, ?hdy4⟩) (by assumption) ?hdr4
            case hdy4 => (intro w hSw; (try dsimp only at hSw); go_simp; (try with_reducible rfl))
            try simp only [Act.put, List.setIfInBounds_toArray, List.set_cons_zero, List.set_cons_succ]
            refine wpAnyH_take (i := 4) (oi := { dst := some 120, op := Op.move (Operand.tmp 119), type := 4, pos := "ref.go:436", after := #[{ on := 3, ground := Ground.data }], guard := none }) (v := ?hdv5) rfl (by kernel_rfl) (by kernel_rfl) (by kernel_rfl) (fun _ _ _ h => h) (Or.inl ⟨by rfl, ?hdy5⟩) (by assumption) ?hdr5
            case hdy5 => (intro w hSw; (try dsimp only at hSw); go_simp; (try with_reducible rfl))
            try simp only [Act.put, List.setIfInBounds_toArray, List.set_cons_zero, List.set_cons_succ]
            refine wpAnyH_take (i := 5) (oi := { dst := some 121, op := Op.move (Operand.tmp 8), type := 85, pos := "ref.go:436", after := #[{ on := 4, ground := Ground.guard }], guard := some (4, true) }) (v := undef) rfl (by kernel_rfl) (by kernel_rfl) (by kernel_rfl) (fun _ _ _ h => h) (Or.inr ⟨by rfl, rfl⟩) (by assumption) ?_
            try simp only [Act.put, List.setIfInBounds_toArray, List.set_cons_zero, List.set_cons_succ]
            refine wpAnyH_take (i := 6) (oi := { dst := some 122, op := Op.move (Operand.tmp 13), type := 3, pos := "ref.go:436", after := #[{ on := 4, ground := Ground.guard }], guard := some (4, true) }) (v := undef) rfl (by kernel_rfl) (by kernel_rfl) (by kernel_rfl) (fun _ _ _ h => h) (Or.inr ⟨by rfl, rfl⟩) (by assumption) ?_
            try simp only [Act.put, List.setIfInBounds_toArray, List.set_cons_zero, List.set_cons_succ]
            refine wpAnyH_take (i := 7) (oi := { dst := some 123, op := Op.indexAddr 85 (Operand.tmp 121) (Operand.tmp 122), type := 0, pos := "ref.go:436", after := #[{ on := 5, ground := Ground.data }, { on := 6, ground := Ground.data }, { on := 4, ground := Ground.guard }], guard := some (4, true) }) (v := undef) rfl (by kernel_rfl) (by kernel_rfl) (by kernel_rfl) (fun _ _ _ h => h) (Or.inr ⟨by rfl, rfl⟩) (by assumption) ?_
            try simp only [Act.put, List.setIfInBounds_toArray, List.set_cons_zero, List.set_cons_succ]
            refine wpAnyH_take (i := 8) (oi := { dst := some 124, op := Op.load 4 (Operand.tmp 123), type := 4, pos := "ref.go:436", after := #[{ on := 7, ground := Ground.data }, { on := 4, ground := Ground.guard }], guard := some (4, true) }) (v := undef) rfl (by kernel_rfl) (by kernel_rfl) (by kernel_rfl) (fun _ _ _ h => h) (Or.inr ⟨by rfl, rfl⟩) (by assumption) ?_
            try simp only [Act.put, List.setIfInBounds_toArray, List.set_cons_zero, List.set_cons_succ]
            refine wpAnyH_take (i := 9) (oi := { dst := some 125, op := Op.unOp UnOp.not 4 (Operand.tmp 124), type := 4, pos := "ref.go:436", after := #[{ on := 8, ground := Ground.data }, { on := 4, ground := Ground.guard }], guard := some (4, true) }) (v := undef) rfl (by kernel_rfl) (by kernel_rfl) (by kernel_rfl) (fun _ _ _ h => h) (Or.inr ⟨by rfl, rfl⟩) (by assumption) ?_
            try simp only [Act.put, List.setIfInBounds_toArray, List.set_cons_zero, List.set_cons_succ]
            refine wpAnyH_take (i := 10) (oi := { dst := some 126, op := Op.pick (Operand.tmp 120) (Operand.tmp 125) (Operand.const (Value.bool false)), type := 4, pos := "ref.go:436", after := #[{ on := 4, ground := Ground.data }, { on := 9, ground := Ground.data }], guard := none }) (v := ?hdv11) rfl (by kernel_rfl) (by kernel_rfl) (by kernel_rfl) (fun _ _ _ h => h) (Or.inl ⟨by rfl, ?hdy11⟩) (by assumption) ?hdr11
            case hdy11 => (intro w hSw; (try dsimp only at hSw); go_simp; (try with_reducible rfl))
            try simp only [Act.put, List.setIfInBounds_toArray, List.set_cons_zero, List.set_cons_succ]
            refine wpAnyH_ready (rs := [11]) (by kernel_rfl) (by simp) ?_
            refine AllReadyH.cons (o := { dst := some 127, op := Op.call { callee := Callee.value (Operand.func 44), args := #[Operand.tmp 116, Operand.tmp 117, Operand.const (Value.int IntKind.i64 3), Operand.tmp 126], argTypes := #[82, 3, 3, 4] }, type := 0, pos := "ref.go:436", after := #[{ on := 0, ground := Ground.data }, { on := 1, ground := Ground.data }, { on := 10, ground := Ground.data }, { on := 4, ground := Ground.chain }], guard := none }) rfl (fun K hK => ?_) AllReadyH.nil
            go_simp
            ((with_reducible refine Calls.mono (noteR3 g n k false (noteL R k 1 false) _ HR2.out.rg.drawn hRl2 hlt) ?_); rintro e w3 ⟨⟨x3, rfl⟩, hd3, hc3⟩; (try go_wp2_with fail))
            refine Shut.out hK _ _ ?_ (fun hHeldN => ?_)
            · (exact fun b o hg hb => cell_heap (w := World.drew w2) (a := ⟨b, o, none⟩) (hc3.block b hb hg))
            ((try clear hK K); (try clear hHeld))
            try simp only [Act.put, List.setIfInBounds_toArray, List.set_cons_zero, List.set_cons_succ]
            clear hHeldN
            refine wpAnyH_done (by kernel_rfl) ?_ _
            have hh3 : Hid (isBlk w3 hb 4 (boolL H)) := Lib.hid ((hc3.block _ hhl2 (fun e => hhx.2.1 e.symm)).trans hh2.out)
            go_wp2
            go_roundg (gk - 1)
            case measure => omega
            case rel => exact ⟨k + 1, _, by omega, by go_num, Lib.hid (HR2.out.go hd3 hc3), hh3, H1⟩
          · have h0' : ((u : Int) != 0) = true := by rw [bne_iff_ne]; omega
            by_cases h1 : n ≤ u
            · have h1' : (n : Int) ≤ (u : Int) := by omega
              by_cases h2 : u = 18446744073709551615
              · have h2' : ((u : Int) != 18446744073709551615) = false := by rw [bne_eq_false_iff_eq]; omega
                cases hq
                · have H1 := Lib.hid (HB.out false true (by unfold topoTop; rw [h2]; simp) (by simp [h0]))
                  clear HB h0 h1 h2
                  go_upto_region 17 with (go_at_call 44; ((with_reducible refine (noteR1 g n k false R _ HR.out.rg hRl hlt).mono ?_); rintro e w2 ⟨⟨x2, rfl⟩, hd2, hc2⟩; have hh2 : Hid (isBlk w2 hb 4 (boolL H)) := Lib.hid ((hc2.block _ hhl (fun e => hhx.2.1 e.symm)).trans HH.out); have ch2 : w2.cell? ⟨hb, k, none⟩ = some (.bool false) := (hh2.out.cell k).trans CH.out; have cf2 : w2.cell? ⟨fb, 0, none⟩ = some (.slice (some ⟨g, 0, none⟩) n n) := (cell_heap (a := ⟨fb, 0, none⟩) (hc2.block _ hfl hfg)).trans cf; have hz2 := hc2.size))
                  have HR2 := Lib.hid (HR.out.go hd2 ⟨hc2.os, hc2.tape, hc2.output, hc2.size, hc2.block⟩)
                  have hRl2 : (noteL R k 1 false).length = n := (noteL_len ..).trans hRl
                  have hfl2 : fb < w2.heap.size := by omega
                  have hhl2 : hb < w2.heap.size := by omega
                  have hgh : hb ≠ g := fun e => hhx.2.1 e.symm
                  clear hc2 ch cf
                  refine wp_region_held_drew (S := fun wz => ∀ b o, b ≠ g → b < w2.heap.size → wz.cell? ⟨b, o, none⟩ = w2.cell? ⟨b, o, none⟩) (by kernel_rfl) (fun b o _ _ => rfl) (fun hHeld => ?_)
                  refine wpAnyH_take (i := 0) (oi := { dst := some 116, op := Op.load 82 (Operand.tmp 7), type := 82, pos := "ref.go:436", after := #[], guard := none }) (v := ?hdv12) rfl (by kernel_rfl) (by kernel_rfl) (by kernel_rfl) (fun _ _ _ h => h) (Or.inl ⟨by rfl, ?hdy12⟩) (by assumption) ?hdr12
                  case hdy12 => (intro w hSw; (try dsimp only at hSw); go_simp; (try with_reducible rfl))
                  try simp only [Act.put, List.setIfInBounds_toArray, List.set_cons_zero, List.set_cons_succ]
                  refine wpAnyH_take (i := 1) (oi := { dst := some 117, op := Op.move (Operand.tmp 13), type := 3, pos := "ref.go:436", after := #[], guard := none }) (v := ?hdv13) rfl (by kernel_rfl) (by kernel_rfl) (by kernel_rfl) (fun _ _ _ h => h) (Or.inl ⟨by rfl, ?hdy13⟩) (by assumption) ?hdr13
                  case hdy13 => (intro w hSw; (try dsimp only at hSw); go_simp; (try with_reducible rfl))
                  try simp only [Act.put, List.setIfInBounds_toArray, List.set_cons_zero, List.set_cons_succ]
                  refine wpAnyH_take (i := 2) (oi := { dst := some 118, op := Op.move (Operand.tmp 14), type := 28, pos := "ref.go:436", after := #[], guard := none }) (v := ?hdv14) rfl (by kernel_rfl) (by kernel_rfl) (by kernel_rfl) (fun _ _ _ h => h) (Or.inl ⟨by rfl, ?hdy14⟩) (by assumption) ?hdr14
                  case hdy14 => (intro w hSw; (try dsimp only at hSw); go_simp; (try with_reducible rfl))
                  try simp only [Act.put, List.setIfInBounds_toArray, List.set_cons_zero, List.set_cons_succ]
                  refine wpAnyH_take (i := 3) (oi := { dst := some 119, op := Op.binOp BinOp.neq 28 (Operand.tmp 118) (Operand.const (Value.int IntKind.u64 0)) 28, type := 4, pos := "ref.go:436", after := #[{ on := 2, ground := Ground.data }], guard := none }) (v := ?hdv15) rfl (by kernel_rfl) (by kernel_rfl) (by kernel_rfl) (fun _ _ _ h => h) (Or.inl ⟨by rfl, ?hdy15⟩) (by assumption) ?hdr15
                  case hdy15 => (intro w hSw; (try dsimp only at hSw); go_simp; (try with_reducible rfl))
                  try simp only [Act.put, List.setIfInBounds_toArray, List.set_cons_zero, List.set_cons_succ]
                  refine wpAnyH_take (i := 4) (oi := { dst := some 120, op := Op.move (Operand.tmp 119), type := 4, pos := "ref.go:436", after := #[{ on := 3, ground := Ground.data }], guard := none }) (v := ?hdv16) rfl (by kernel_rfl) (by kernel_rfl) (by kernel_rfl) (fun _ _ _ h => h) (Or.inl ⟨by rfl, ?hdy16⟩) (by assumption) ?hdr16
                  case hdy16 => (intro w hSw; (try dsimp only at hSw); go_simp; (try with_reducible rfl))
                  try simp only [Act.put, List.setIfInBounds_toArray, List.set_cons_zero, List.set_cons_succ]
                  refine wpAnyH_take (i := 5) (oi := { dst := some 121, op := Op.move (Operand.tmp 8), type := 85, pos := "ref.go:436", after := #[{ on := 4, ground := Ground.guard }], guard := some (4, true) }) (v := ?hdv17) rfl (by kernel_rfl) (by kernel_rfl) (by kernel_rfl) (fun _ _ _ h => h) (Or.inl ⟨by rfl, ?hdy17⟩) (by assumption) ?hdr17
                  case hdy17 => (intro w hSw; (try dsimp only at hSw); go_simp; (try with_reducible rfl))
                  try simp only [Act.put, List.setIfInBounds_toArray, List.set_cons_zero, List.set_cons_succ]
                  refine wpAnyH_take (i := 6) (oi := { dst := some 122, op := Op.move (Operand.tmp 13), type := 3, pos := "ref.go:436", after := #[{ on := 4, ground := Ground.guard }], guard := some (4, true) }) (v := ?hdv18) rfl (by kernel_rfl) (by kernel_rfl) (by kernel_rfl) (fun _ _ _ h => h) (Or.inl ⟨by rfl, ?hdy18⟩) (by assumption) ?hdr18
                  case hdy18 => (intro w hSw; (try dsimp only at hSw); go_simp; (try with_reducible rfl))
                  try simp only [Act.put, List.setIfInBounds_toArray, List.set_cons_zero, List.set_cons_succ]
                  refine wpAnyH_take (i := 7) (oi := { dst := some 123, op := Op.indexAddr 85 (Operand.tmp 121) (Operand.tmp 122), type := 0, pos := "ref.go:436", after := #[{ on := 5, ground := Ground.data }, { on := 6, ground := Ground.data }, { on := 4, ground := Ground.guard }], guard := some (4, true) }) (v := ?hdv19) rfl (by kernel_rfl) (by kernel_rfl) (by kernel_rfl) (fun _ _ _ h => h) (Or.inl ⟨by rfl, ?hdy19⟩) (by assumption) ?hdr19
                  case hdy19 => (intro w hSw; (try dsimp only at hSw); go_simp; (try with_reducible rfl))
                  try simp only [Act.put, List.setIfInBounds_toArray, List.set_cons_zero, List.set_cons_succ]
                  refine wpAnyH_take (i := 8) (oi := { dst := some 124, op := Op.load 4 (Operand.tmp 123), type := 4, pos := "ref.go:436", after := #[{ on := 7, ground := Ground.data }, { on := 4, ground := Ground.guard }], guard := some (4, true) }) (v := ?hdv20) rfl (by kernel_rfl) (by kernel_rfl) (by kernel_rfl) (fun _ _ _ h => h) (Or.inl ⟨by rfl, ?hdy20⟩) (by assumption) ?hdr20
                  case hdy20 => (intro w hSw; (try dsimp only at hSw); go_simp; (try with_reducible rfl))
                  try simp only [Act.put, List.setIfInBounds_toArray, List.set_cons_zero, List.set_cons_succ]
                  refine wpAnyH_take (i := 9) (oi := { dst := some 125, op := Op.unOp UnOp.not 4 (Operand.tmp 124), type := 4, pos := "ref.go:436", after := #[{ on := 8, ground := Ground.data }, { on := 4, ground := Ground.guard }], guard := some (4, true) }) (v := ?hdv21) rfl (by kernel_rfl) (by kernel_rfl) (by kernel_rfl) (fun _ _ _ h => h) (Or.inl ⟨by rfl, ?hdy21⟩) (by assumption) ?hdr21
                  case hdy21 => (intro w hSw; (try dsimp only at hSw); go_simp; (try with_reducible rfl))
                  try simp only [Act.put, List.setIfInBounds_toArray, List.set_cons_zero, List.set_cons_succ]
                  refine wpAnyH_take (i := 10) (oi := { dst := some 126, op := Op.pick (Operand.tmp 120) (Operand.tmp 125) (Operand.const (Value.bool false)), type := 4, pos := "ref.go:436", after := #[{ on := 4, ground := Ground.data }, { on := 9, ground := Ground.data }], guard := none }) (v := ?hdv22) rfl (by kernel_rfl) (by kernel_rfl) (by kernel_rfl) (fun _ _ _ h => h) (Or.inl ⟨by rfl, ?hdy22⟩) (by assumption) ?hdr22
                  case hdy22 => (intro w hSw; (try dsimp only at hSw); go_simp; (try with_reducible rfl))
                  try simp only [Act.put, List.setIfInBounds_toArray, List.set_cons_zero, List.set_cons_succ]
                  refine wpAnyH_ready (rs := [11]) (by kernel_rfl) (by simp) ?_
                  refine AllReadyH.cons (o := { dst := some 127, op := Op.call { callee := Callee.value (Operand.func 44), args := #[Operand.tmp 116, Operand.tmp 117, Operand.const (Value.int IntKind.i64 3), Operand.tmp 126], argTypes := #[82, 3, 3, 4] }, type := 0, pos := "ref.go:436", after := #[{ on := 0, ground := Ground.data }, { on := 1, ground := Ground.data }, { on := 10, ground := Ground.data }, { on := 4, ground := Ground.chain }], guard := none }) rfl (fun K hK => ?_) AllReadyH.nil
                  go_simp
                  ((with_reducible refine Calls.mono (noteR3 g n k true (noteL R k 1 false) _ HR2.out.rg.drawn hRl2 hlt) ?_); rintro e w3 ⟨⟨x3, rfl⟩, hd3, hc3⟩; (try go_wp2_with fail))
                  refine Shut.out hK _ _ ?_ (fun hHeldN => ?_)
                  · (exact fun b o hg hb => cell_heap (w := World.drew w2) (a := ⟨b, o, none⟩) (hc3.block b hb hg))
                  ((try clear hK K); (try clear hHeld))
                  try simp only [Act.put, List.setIfInBounds_toArray, List.set_cons_zero, List.set_cons_succ]
                  clear hHeldN
                  refine wpAnyH_done (by kernel_rfl) ?_ _
                  have hh3 : Hid (isBlk w3 hb 4 (boolL H)) := Lib.hid ((hc3.block _ hhl2 (fun e => hhx.2.1 e.symm)).trans hh2.out)
                  go_wp2
                  go_roundg (gk - 1)
                  case measure => omega
                  case rel => exact ⟨k + 1, _, by omega, by go_num, Lib.hid (HR2.out.go hd3 hc3), hh3, H1⟩
                · have H1 := Lib.hid (HB.out false false (by unfold topoTop; rw [h2]; simp) (by simp [h0]))
                  clear HB h0 h1 h2
                  go_upto_region 17 with (go_at_call 44; ((with_reducible refine (noteR1 g n k false R _ HR.out.rg hRl hlt).mono ?_); rintro e w2 ⟨⟨x2, rfl⟩, hd2, hc2⟩; have hh2 : Hid (isBlk w2 hb 4 (boolL H)) := Lib.hid ((hc2.block _ hhl (fun e => hhx.2.1 e.symm)).trans HH.out); have ch2 : w2.cell? ⟨hb, k, none⟩ = some (.bool true) := (hh2.out.cell k).trans CH.out; have cf2 : w2.cell? ⟨fb, 0, none⟩ = some (.slice (some ⟨g, 0, none⟩) n n) := (cell_heap (a := ⟨fb, 0, none⟩) (hc2.block _ hfl hfg)).trans cf; have hz2 := hc2.size))
                  have HR2 := Lib.hid (HR.out.go hd2 ⟨hc2.os, hc2.tape, hc2.output, hc2.size, hc2.block⟩)
                  have hRl2 : (noteL R k 1 false).length = n := (noteL_len ..).trans hRl
                  have hfl2 : fb < w2.heap.size := by omega
                  have hhl2 : hb < w2.heap.size := by omega
                  have hgh : hb ≠ g := fun e => hhx.2.1 e.symm
                  clear hc2 ch cf
                  refine wp_region_held_drew (S := fun wz => ∀ b o, b ≠ g → b < w2.heap.size → wz.cell? ⟨b, o, none⟩ = w2.cell? ⟨b, o, none⟩) (by kernel_rfl) (fun b o _ _ => rfl) (fun hHeld => ?_)
                  refine wpAnyH_take (i := 0) (oi := { dst := some 116, op := Op.load 82 (Operand.tmp 7), type := 82, pos := "ref.go:436", after := #[], guard := none }) (v := ?hdv23) rfl (by kernel_rfl) (by kernel_rfl) (by kernel_rfl) (fun _ _ _ h => h) (Or.inl ⟨by rfl, ?hdy23⟩) (by assumption) ?hdr23
                  case hdy23 => (intro w hSw; (try dsimp only at hSw); go_simp; (try with_reducible rfl))
                  try simp only [Act.put, List.setIfInBounds_toArray, List.set_cons_zero, List.set_cons_succ]
                  refine wpAnyH_take (i := 1) (oi := { dst := some 117, op := Op.move (Operand.tmp 13), type := 3, pos := "ref.go:436", after := #[], guard := none }) (v := ?hdv24) rfl (by kernel_rfl) (by kernel_rfl) (by kernel_rfl) (fun _ _ _ h => h) (Or.inl ⟨by rfl, ?hdy24⟩) (by assumption) ?hdr24
                  case hdy24 => (intro w hSw; (try dsimp only at hSw); go_simp; (try with_reducible rfl))
                  try simp only [Act.put, List.setIfInBounds_toArray, List.set_cons_zero, List.set_cons_succ]
                  refine wpAnyH_take (i := 2) (oi := { dst := some 118, op := Op.move (Operand.tmp 14), type := 28, pos := "ref.go:436", after := #[], guard := none }) (v := ?hdv25) rfl (by kernel_rfl) (by kernel_rfl) (by kernel_rfl) (fun _ _ _ h => h) (Or.inl ⟨by rfl, ?hdy25⟩) (by assumption) ?hdr25
                  case hdy25 => (intro w hSw; (try dsimp only at hSw); go_simp; (try with_reducible rfl))
                  try simp only [Act.put, List.setIfInBounds_toArray, List.set_cons_zero, List.set_cons_succ]
                  refine wpAnyH_take (i := 3) (oi := { dst := some 119, op := Op.binOp BinOp.neq 28 (Operand.tmp 118) (Operand.const (Value.int IntKind.u64 0)) 28, type := 4, pos := "ref.go:436", after := #[{ on := 2, ground := Ground.data }], guard := none }) (v := ?hdv26) rfl (by kernel_rfl) (by kernel_rfl) (by kernel_rfl) (fun _ _ _ h => h) (Or.inl ⟨by rfl, ?hdy26⟩) (by assumption) ?hdr26
                  case hdy26 => (intro w hSw; (try dsimp only at hSw); go_simp; (try with_reducible rfl))
                  try simp only [Act.put, List.setIfInBounds_toArray, List.set_cons_zero, List.set_cons_succ]
                  refine wpAnyH_take (i := 4) (oi := { dst := some 120, op := Op.move (Operand.tmp 119), type := 4, pos := "ref.go:436", after := #[{ on := 3, ground := Ground.data }], guard := none }) (v := ?hdv27) rfl (by kernel_rfl) (by kernel_rfl) (by kernel_rfl) (fun _ _ _ h => h) (Or.inl ⟨by rfl, ?hdy27⟩) (by assumption) ?hdr27
                  case hdy27 => (intro w hSw; (try dsimp only at hSw); go_simp; (try with_reducible rfl))
                  try simp only [Act.put, List.setIfInBounds_toArray, List.set_cons_zero, List.set_cons_succ]
                  refine wpAnyH_take (i := 5) (oi := { dst := some 121, op := Op.move (Operand.tmp 8), type := 85, pos := "ref.go:436", after := #[{ on := 4, ground := Ground.guard }], guard := some (4, true) }) (v := ?hdv28) rfl (by kernel_rfl) (by kernel_rfl) (by kernel_rfl) (fun _ _ _ h => h) (Or.inl ⟨by rfl, ?hdy28⟩) (by assumption) ?hdr28
                  case hdy28 => (intro w hSw; (try dsimp only at hSw); go_simp; (try with_reducible rfl))
                  try simp only [Act.put, List.setIfInBounds_toArray, List.set_cons_zero, List.set_cons_succ]
                  refine wpAnyH_take (i := 6) (oi := { dst := some 122, op := Op.move (Operand.tmp 13), type := 3, pos := "ref.go:436", after := #[{ on := 4, ground := Ground.guard }], guard := some (4, true) }) (v := ?hdv29) rfl (by kernel_rfl) (by kernel_rfl) (by kernel_rfl) (fun _ _ _ h => h) (Or.inl ⟨by rfl, ?hdy29⟩) (by assumption) ?hdr29
                  case hdy29 => (intro w hSw; (try dsimp only at hSw); go_simp; (try with_reducible rfl))
                  try simp only [Act.put, List.setIfInBounds_toArray, List.set_cons_zero, List.set_cons_succ]
                  refine wpAnyH_take (i := 7) (oi := { dst := some 123, op := Op.indexAddr 85 (Operand.tmp 121) (Operand.tmp 122), type := 0, pos := "ref.go:436", after := #[{ on := 5, ground := Ground.data }, { on := 6, ground := Ground.data }, { on := 4, ground := Ground.guard }], guard := some (4, true) }) (v := ?hdv30) rfl (by kernel_rfl) (by kernel_rfl) (by kernel_rfl) (fun _ _ _ h => h) (Or.inl ⟨by rfl, ?hdy30⟩) (by assumption) ?hdr30
                  case hdy30 => (intro w hSw; (try dsimp only at hSw); go_simp; (try with_reducible rfl))
                  try simp only [Act.put, List.setIfInBounds_toArray, List.set_cons_zero, List.set_cons_succ]
                  refine wpAnyH_take (i := 8) (oi := { dst := some 124, op := Op.load 4 (Operand.tmp 123), type := 4, pos := "ref.go:436", after := #[{ on := 7, ground := Ground.data }, { on := 4, ground := Ground.guard }], guard := some (4, true) }) (v := ?hdv31) rfl (by kernel_rfl) (by kernel_rfl) (by kernel_rfl) (fun _ _ _ h => h) (Or.inl ⟨by rfl, ?hdy31⟩) (by assumption) ?hdr31
                  case hdy31 => (intro w hSw; (try dsimp only at hSw); go_simp; (try with_reducible rfl))
                  try simp only [Act.put, List.setIfInBounds_toArray, List.set_cons_zero, List.set_cons_succ]
                  refine wpAnyH_take (i := 9) (oi := { dst := some 125, op := Op.unOp UnOp.not 4 (Operand.tmp 124), type := 4, pos := "ref.go:436", after := #[{ on := 8, ground := Ground.data }, { on := 4, ground := Ground.guard }], guard := some (4, true) }) (v := ?hdv32) rfl (by kernel_rfl) (by kernel_rfl) (by kernel_rfl) (fun _ _ _ h => h) (Or.inl ⟨by rfl, ?hdy32⟩) (by assumption) ?hdr32
                  case hdy32 => (intro w hSw; (try dsimp only at hSw); go_simp; (try with_reducible rfl))
                  try simp only [Act.put, List.setIfInBounds_toArray, List.set_cons_zero, List.set_cons_succ]
                  refine wpAnyH_take (i := 10) (oi := { dst := some 126, op := Op.pick (Operand.tmp 120) (Operand.tmp 125) (Operand.const (Value.bool false)), type := 4, pos := "ref.go:436", after := #[{ on := 4, ground := Ground.data }, { on := 9, ground := Ground.data }], guard := none }) (v := ?hdv33) rfl (by kernel_rfl) (by kernel_rfl) (by kernel_rfl) (fun _ _ _ h => h) (Or.inl ⟨by rfl, ?hdy33⟩) (by assumption) ?hdr33
                  case hdy33 => (intro w hSw; (try dsimp only at hSw); go_simp; (try with_reducible rfl))
                  try simp only [Act.put, List.setIfInBounds_toArray, List.set_cons_zero, List.set_cons_succ]
                  refine wpAnyH_ready (rs := [11]) (by kernel_rfl) (by simp) ?_
                  refine AllReadyH.cons (o := { dst := some 127, op := Op.call { callee := Callee.value (Operand.func 44), args := #[Operand.tmp 116, Operand.tmp 117, Operand.const (Value.int IntKind.i64 3), Operand.tmp 126], argTypes := #[82, 3, 3, 4] }, type := 0, pos := "ref.go:436", after := #[{ on := 0, ground := Ground.data }, { on := 1, ground := Ground.data }, { on := 10, ground := Ground.data }, { on := 4, ground := Ground.chain }], guard := none }) rfl (fun K hK => ?_) AllReadyH.nil
                  go_simp
                  ((with_reducible refine Calls.mono (noteR3 g n k false (noteL R k 1 false) _ HR2.out.rg.drawn hRl2 hlt) ?_); rintro e w3 ⟨⟨x3, rfl⟩, hd3, hc3⟩; (try go_wp2_with fail))
                  refine Shut.out hK _ _ ?_ (fun hHeldN => ?_)
                  · (exact fun b o hg hb => cell_heap (w := World.drew w2) (a := ⟨b, o, none⟩) (hc3.block b hb hg))
                  ((try clear hK K); (try clear hHeld))
                  try simp only [Act.put, List.setIfInBounds_toArray, List.set_cons_zero, List.set_cons_succ]
                  clear hHeldN
                  refine wpAnyH_done (by kernel_rfl) ?_ _
                  have hh3 : Hid (isBlk w3 hb 4 (boolL H)) := Lib.hid ((hc3.block _ hhl2 (fun e => hhx.2.1 e.symm)).trans hh2.out)
                  go_wp2
                  go_roundg (gk - 1)
                  case measure => omega
                  case rel => exact ⟨k + 1, _, by omega, by go_num, Lib.hid (HR2.out.go hd3 hc3), hh3, H1⟩
              · have h2' : ((u : Int) != 18446744073709551615) = true := by rw [bne_iff_ne]; omega
                cases hq
                · have H1 := Lib.hid (HB.out true true (by unfold topoTop; rw [decide_eq_true h1, beq_eq_false_iff_ne.2 h2]; rfl) (by simp [h0]))
                  clear HB h0 h1 h2
                  go_upto_region 17 with (go_at_call 44; ((with_reducible refine (noteR1 g n k true R _ HR.out.rg hRl hlt).mono ?_); rintro e w2 ⟨⟨x2, rfl⟩, hd2, hc2⟩; have hh2 : Hid (isBlk w2 hb 4 (boolL H)) := Lib.hid ((hc2.block _ hhl (fun e => hhx.2.1 e.symm)).trans HH.out); have ch2 : w2.cell? ⟨hb, k, none⟩ = some (.bool false) := (hh2.out.cell k).trans CH.out; have cf2 : w2.cell? ⟨fb, 0, none⟩ = some (.slice (some ⟨g, 0, none⟩) n n) := (cell_heap (a := ⟨fb, 0, none⟩) (hc2.block _ hfl hfg)).trans cf; have hz2 := hc2.size))
                  have HR2 := Lib.hid (HR.out.go hd2 ⟨hc2.os, hc2.tape, hc2.output, hc2.size, hc2.block⟩)
                  have hRl2 : (noteL R k 1 true).length = n := (noteL_len ..).trans hRl
                  have hfl2 : fb < w2.heap.size := by omega
                  have hhl2 : hb < w2.heap.size := by omega
                  have hgh : hb ≠ g := fun e => hhx.2.1 e.symm
                  clear hc2 ch cf
                  refine wp_region_held_drew (S := fun wz => ∀ b o, b ≠ g → b < w2.heap.size → wz.cell? ⟨b, o, none⟩ = w2.cell? ⟨b, o, none⟩) (by kernel_rfl) (fun b o _ _ => rfl) (fun hHeld => ?_)
                  refine wpAnyH_take (i := 0) (oi := { dst := some 116, op := Op.load 82 (Operand.tmp 7), type := 82, pos := "ref.go:436", after := #[], guard := none }) (v := ?hdv34) rfl (by kernel_rfl) (by kernel_rfl) (by kernel_rfl) (fun _ _ _ h => h) (Or.inl ⟨by rfl, ?hdy34⟩) (by assumption) ?hdr34
                  case hdy34 => (intro w hSw; (try dsimp only at hSw); go_simp; (try with_reducible rfl))
                  try simp only [Act.put, List.setIfInBounds_toArray, List.set_cons_zero, List.set_cons_succ]
                  refine wpAnyH_take (i := 1) (oi := { dst := some 117, op := Op.move (Operand.tmp 13), type := 3, pos := "ref.go:436", after := #[], guard := none }) (v := ?hdv35) rfl (by kernel_rfl) (by kernel_rfl) (by kernel_rfl) (fun _ _ _ h => h) (Or.inl ⟨by rfl, ?hdy35⟩) (by assumption) ?hdr35
                  case hdy35 => (intro w hSw; (try dsimp only at hSw); go_simp; (try with_reducible rfl))
                  try simp only [Act.put, List.setIfInBounds_toArray, List.set_cons_zero, List.set_cons_succ]
                  refine wpAnyH_take (i := 2) (oi := { dst := some 118, op := Op.move (Operand.tmp 14), type := 28, pos := "ref.go:436", after := #[], guard := none }) (v := ?hdv36) rfl (by kernel_rfl) (by kernel_rfl) (by kernel_rfl) (fun _ _ _ h => h) (Or.inl ⟨by rfl, ?hdy36⟩) (by assumption) ?hdr36
                  case hdy36 => (intro w hSw; (try dsimp only at hSw); go_simp; (try with_reducible rfl))
                  try simp only [Act.put, List.setIfInBounds_toArray, List.set_cons_zero, List.set_cons_succ]
                  refine wpAnyH_take (i := 3) (oi := { dst := some 119, op := Op.binOp BinOp.neq 28 (Operand.tmp 118) (Operand.const (Value.int IntKind.u64 0)) 28, type := 4, pos := "ref.go:436", after := #[{ on := 2, ground := Ground.data }], guard := none }) (v := ?hdv37) rfl (by kernel_rfl) (by kernel_rfl) (by kernel_rfl) (fun _ _ _ h => h) (Or.inl ⟨by rfl, ?hdy37⟩) (by assumption) ?hdr37
                  case hdy37 => (intro w hSw; (try dsimp only at hSw); go_simp; (try with_reducible rfl))
                  try simp only [Act.put, List.setIfInBounds_toArray, List.set_cons_zero, List.set_cons_succ]
                  refine wpAnyH_take (i := 4) (oi := { dst := some 120, op := Op.move (Operand.tmp 119), type := 4, pos := "ref.go:436", after := #[{ on := 3, ground := Ground.data }], guard := none }) (v := ?hdv38) rfl (by kernel_rfl) (by kernel_rfl) (by kernel_rfl) (fun _ _ _ h => h) (Or.inl ⟨by rfl, ?hdy38⟩) (by assumption) ?hdr38
                  case hdy38 => (intro w hSw; (try dsimp only at hSw); go_simp; (try with_reducible rfl))
                  try simp only [Act.put, List.setIfInBounds_toArray, List.set_cons_zero, List.set_cons_succ]
                  refine wpAnyH_take (i := 5) (oi := { dst := some 121, op := Op.move (Operand.tmp 8), type := 85, pos := "ref.go:436", after := #[{ on := 4, ground := Ground.guard }], guard := some (4, true) }) (v := ?hdv39) rfl (by kernel_rfl) (by kernel_rfl) (by kernel_rfl) (fun _ _ _ h => h) (Or.inl ⟨by rfl, ?hdy39⟩) (by assumption) ?hdr39
                  case hdy39 => (intro w hSw; (try dsimp only at hSw); go_simp; (try with_reducible rfl))
                  try simp only [Act.put, List.setIfInBounds_toArray, List.set_cons_zero, List.set_cons_succ]
                  refine wpAnyH_take (i := 6) (oi := { dst := some 122, op := Op.move (Operand.tmp 13), type := 3, pos := "ref.go:436", after := #[{ on := 4, ground := Ground.guard }], guard := some (4, true) }) (v := ?hdv40) rfl (by kernel_rfl) (by kernel_rfl) (by kernel_rfl) (fun _ _ _ h => h) (Or.inl ⟨by rfl, ?hdy40⟩) (by assumption) ?hdr40
                  case hdy40 => (intro w hSw; (try dsimp only at hSw); go_simp; (try with_reducible rfl))
                  try simp only [Act.put, List.setIfInBounds_toArray, List.set_cons_zero, List.set_cons_succ]
                  refine wpAnyH_take (i := 7) (oi := { dst := some 123, op := Op.indexAddr 85 (Operand.tmp 121) (Operand.tmp 122), type := 0, pos := "ref.go:436", after := #[{ on := 5, ground := Ground.data }, { on := 6, ground := Ground.data }, { on := 4, ground := Ground.guard }], guard := some (4, true) }) (v := ?hdv41) rfl (by kernel_rfl) (by kernel_rfl) (by kernel_rfl) (fun _ _ _ h => h) (Or.inl ⟨by rfl, ?hdy41⟩) (by assumption) ?hdr41
                  case hdy41 => (intro w hSw; (try dsimp only at hSw); go_simp; (try with_reducible rfl))
                  try simp only [Act.put, List.setIfInBounds_toArray, List.set_cons_zero, List.set_cons_succ]
                  refine wpAnyH_take (i := 8) (oi := { dst := some 124, op := Op.load 4 (Operand.tmp 123), type := 4, pos := "ref.go:436", after := #[{ on := 7, ground := Ground.data }, { on := 4, ground := Ground.guard }], guard := some (4, true) }) (v := ?hdv42) rfl (by kernel_rfl) (by kernel_rfl) (by kernel_rfl) (fun _ _ _ h => h) (Or.inl ⟨by rfl, ?hdy42⟩) (by assumption) ?hdr42
                  case hdy42 => (intro w hSw; (try dsimp only at hSw); go_simp; (try with_reducible rfl))
                  try simp only [Act.put, List.setIfInBounds_toArray, List.set_cons_zero, List.set_cons_succ]
                  refine wpAnyH_take (i := 9) (oi := { dst := some 125, op := Op.unOp UnOp.not 4 (Operand.tmp 124), type := 4, pos := "ref.go:436", after := #[{ on := 8, ground := Ground.data }, { on := 4, ground := Ground.guard }], guard := some (4, true) }) (v := ?hdv43) rfl (by kernel_rfl) (by kernel_rfl) (by kernel_rfl) (fun _ _ _ h => h) (Or.inl ⟨by rfl, ?hdy43⟩) (by assumption) ?hdr43
                  case hdy43 => (intro w hSw; (try dsimp only at hSw); go_simp; (try with_reducible rfl))
                  try simp only [Act.put, List.setIfInBounds_toArray, List.set_cons_zero, List.set_cons_succ]
                  refine wpAnyH_take (i := 10) (oi := { dst := some 126, op := Op.pick (Operand.tmp 120) (Operand.tmp 125) (Operand.const (Value.bool false)), type := 4, pos := "ref.go:436", after := #[{ on := 4, ground := Ground.data }, { on := 9, ground := Ground.data }], guard := none }) (v := ?hdv44) rfl (by kernel_rfl) (by kernel_rfl) (by kernel_rfl) (fun _ _ _ h => h) (Or.inl ⟨by rfl, ?hdy44⟩) (by assumption) ?hdr44
                  case hdy44 => (intro w hSw; (try dsimp only at hSw); go_simp; (try with_reducible rfl))
                  try simp only [Act.put, List.setIfInBounds_toArray, List.set_cons_zero, List.set_cons_succ]
                  refine wpAnyH_ready (rs := [11]) (by kernel_rfl) (by simp) ?_
                  refine AllReadyH.cons (o := { dst := some 127, op := Op.call { callee := Callee.value (Operand.func 44), args := #[Operand.tmp 116, Operand.tmp 117, Operand.const (Value.int IntKind.i64 3), Operand.tmp 126], argTypes := #[82, 3, 3, 4] }, type := 0, pos := "ref.go:436", after := #[{ on := 0, ground := Ground.data }, { on := 1, ground := Ground.data }, { on := 10, ground := Ground.data }, { on := 4, ground := Ground.chain }], guard := none }) rfl (fun K hK => ?_) AllReadyH.nil
                  go_simp
                  ((with_reducible refine Calls.mono (noteR3 g n k true (noteL R k 1 true) _ HR2.out.rg.drawn hRl2 hlt) ?_); rintro e w3 ⟨⟨x3, rfl⟩, hd3, hc3⟩; (try go_wp2_with fail))
                  refine Shut.out hK _ _ ?_ (fun hHeldN => ?_)
                  · (exact fun b o hg hb => cell_heap (w := World.drew w2) (a := ⟨b, o, none⟩) (hc3.block b hb hg))
                  ((try clear hK K); (try clear hHeld))
                  try simp only [Act.put, List.setIfInBounds_toArray, List.set_cons_zero, List.set_cons_succ]
                  clear hHeldN
                  refine wpAnyH_done (by kernel_rfl) ?_ _
                  have hh3 : Hid (isBlk w3 hb 4 (boolL H)) := Lib.hid ((hc3.block _ hhl2 (fun e => hhx.2.1 e.symm)).trans hh2.out)
                  go_wp2
                  go_roundg (gk - 1)
                  case measure => omega
                  case rel => exact ⟨k + 1, _, by omega, by go_num, Lib.hid (HR2.out.go hd3 hc3), hh3, H1⟩
                · have H1 := Lib.hid (HB.out true false (by unfold topoTop; rw [decide_eq_true h1, beq_eq_false_iff_ne.2 h2]; rfl) (by simp [h0]))
                  clear HB h0 h1 h2
                  go_upto_region 17 with (go_at_call 44; ((with_reducible refine (noteR1 g n k true R _ HR.out.rg hRl hlt).mono ?_); rintro e w2 ⟨⟨x2, rfl⟩, hd2, hc2⟩; have hh2 : Hid (isBlk w2 hb 4 (boolL H)) := Lib.hid ((hc2.block _ hhl (fun e => hhx.2.1 e.symm)).trans HH.out); have ch2 : w2.cell? ⟨hb, k, none⟩ = some (.bool true) := (hh2.out.cell k).trans CH.out; have cf2 : w2.cell? ⟨fb, 0, none⟩ = some (.slice (some ⟨g, 0, none⟩) n n) := (cell_heap (a := ⟨fb, 0, none⟩) (hc2.block _ hfl hfg)).trans cf; have hz2 := hc2.size))
                  have HR2 := Lib.hid (HR.out.go hd2 ⟨hc2.os, hc2.tape, hc2.output, hc2.size, hc2.block⟩)
                  have hRl2 : (noteL R k 1 true).length = n := (noteL_len ..).trans hRl
                  have hfl2 : fb < w2.heap.size := by omega
                  have hhl2 : hb < w2.heap.size := by omega
                  have hgh : hb ≠ g := fun e => hhx.2.1 e.symm
                  clear hc2 ch cf
                  refine wp_region_held_drew (S := fun wz => ∀ b o, b ≠ g → b < w2.heap.size → wz.cell? ⟨b, o, none⟩ = w2.cell? ⟨b, o, none⟩) (by kernel_rfl) (fun b o _ _ => rfl) (fun hHeld => ?_)
                  refine wpAnyH_take (i := 0) (oi := { dst := some 116, op := Op.load 82 (Operand.tmp 7), type := 82, pos := "ref.go:436", after := #[], guard := none }) (v := ?hdv45) rfl (by kernel_rfl) (by kernel_rfl) (by kernel_rfl) (fun _ _ _ h => h) (Or.inl ⟨by rfl, ?hdy45⟩) (by assumption) ?hdr45
                  case hdy45 => (intro w hSw; (try dsimp only at hSw); go_simp; (try with_reducible rfl))
                  try simp only [Act.put, List.setIfInBounds_toArray, List.set_cons_zero, List.set_cons_succ]
                  refine wpAnyH_take (i := 1) (oi := { dst := some 117, op := Op.move (Operand.tmp 13), type := 3, pos := "ref.go:436", after := #[], guard := none }) (v := ?hdv46) rfl (by kernel_rfl) (by kernel_rfl) (by kernel_rfl) (fun _ _ _ h => h) (Or.inl ⟨by rfl, ?hdy46⟩) (by assumption) ?hdr46
                  case hdy46 => (intro w hSw; (try dsimp only at hSw); go_simp; (try with_reducible rfl))
                  try simp only [Act.put, List.setIfInBounds_toArray, List.set_cons_zero, List.set_cons_succ]
                  refine wpAnyH_take (i := 2) (oi := { dst := some 118, op := Op.move (Operand.tmp 14), type := 28, pos := "ref.go:436", after := #[], guard := none }) (v := ?hdv47) rfl (by kernel_rfl) (by kernel_rfl) (by kernel_rfl) (fun _ _ _ h => h) (Or.inl ⟨by rfl, ?hdy47⟩) (by assumption) ?hdr47
                  case hdy47 => (intro w hSw; (try dsimp only at hSw); go_simp; (try with_reducible rfl))
                  try simp only [Act.put, List.setIfInBounds_toArray, List.set_cons_zero, List.set_cons_succ]
                  refine wpAnyH_take (i := 3) (oi := { dst := some 119, op := Op.binOp BinOp.neq 28 (Operand.tmp 118) (Operand.const (Value.int IntKind.u64 0)) 28, type := 4, pos := "ref.go:436", after := #[{ on := 2, ground := Ground.data }], guard := none }) (v := ?hdv48) rfl (by kernel_rfl) (by kernel_rfl) (by kernel_rfl) (fun _ _ _ h => h) (Or.inl ⟨by rfl, ?hdy48⟩) (by assumption) ?hdr48
                  case hdy48 => (intro w hSw; (try dsimp only at hSw); go_simp; (try with_reducible rfl))
                  try simp only [Act.put, List.setIfInBounds_toArray, List.set_cons_zero, List.set_cons_succ]
                  refine wpAnyH_take (i := 4) (oi := { dst := some 120, op := Op.move (Operand.tmp 119), type := 4, pos := "ref.go:436", after := #[{ on := 3, ground := Ground.data }], guard := none }) (v := ?hdv49) rfl (by kernel_rfl) (by kernel_rfl) (by kernel_rfl) (fun _ _ _ h => h) (Or.inl ⟨by rfl, ?hdy49⟩) (by assumption) ?hdr49
                  case hdy49 => (intro w hSw; (try dsimp only at hSw); go_simp; (try with_reducible rfl))
                  try simp only [Act.put, List.setIfInBounds_toArray, List.set_cons_zero, List.set_cons_succ]
                  refine wpAnyH_take (i := 5) (oi := { dst := some 121, op := Op.move (Operand.tmp 8), type := 85, pos := "ref.go:436", after := #[{ on := 4, ground := Ground.guard }], guard := some (4, true) }) (v := ?hdv50) rfl (by kernel_rfl) (by kernel_rfl) (by kernel_rfl) (fun _ _ _ h => h) (Or.inl ⟨by rfl, ?hdy50⟩) (by assumption) ?hdr50
                  case hdy50 => (intro w hSw; (try dsimp only at hSw); go_simp; (try with_reducible rfl))
                  try simp only [Act.put, List.setIfInBounds_toArray, List.set_cons_zero, List.set_cons_succ]
                  refine wpAnyH_take (i := 6) (oi := { dst := some 122, op := Op.move (Operand.tmp 13), type := 3, pos := "ref.go:436", after := #[{ on := 4, ground := Ground.guard }], guard := some (4, true) }) (v := ?hdv51) rfl (by kernel_rfl) (by kernel_rfl) (by kernel_rfl) (fun _ _ _ h => h) (Or.inl ⟨by rfl, ?hdy51⟩) (by assumption) ?hdr51
                  case hdy51 => (intro w hSw; (try dsimp only at hSw); go_simp; (try with_reducible rfl))
                  try simp only [Act.put, List.setIfInBounds_toArray, List.set_cons_zero, List.set_cons_succ]
                  refine wpAnyH_take (i := 7) (oi := { dst := some 123, op := Op.indexAddr 85 (Operand.tmp 121) (Operand.tmp 122), type := 0, pos := "ref.go:436", after := #[{ on := 5, ground := Ground.data }, { on := 6, ground := Ground.data }, { on := 4, ground := Ground.guard }], guard := some (4, true) }) (v := ?hdv52) rfl (by kernel_rfl) (by kernel_rfl) (by kernel_rfl) (fun _ _ _ h => h) (Or.inl ⟨by rfl, ?hdy52⟩) (by assumption) ?hdr52
                  case hdy52 => (intro w hSw; (try dsimp only at hSw); go_simp; (try with_reducible rfl))
                  try simp only [Act.put, List.setIfInBounds_toArray, List.set_cons_zero, List.set_cons_succ]
                  refine wpAnyH_take (i := 8) (oi := { dst := some 124, op := Op.load 4 (Operand.tmp 123), type := 4, pos := "ref.go:436", after := #[{ on := 7, ground := Ground.data }, { on := 4, ground := Ground.guard }], guard := some (4, true) }) (v := ?hdv53) rfl (by kernel_rfl) (by kernel_rfl) (by kernel_rfl) (fun _ _ _ h => h) (Or.inl ⟨by rfl, ?hdy53⟩) (by assumption) ?hdr53
                  case hdy53 => (intro w hSw; (try dsimp only at hSw); go_simp; (try with_reducible rfl))
                  try simp only [Act.put, List.setIfInBounds_toArray, List.set_cons_zero, List.set_cons_succ]
                  refine wpAnyH_take (i := 9) (oi := { dst := some 125, op := Op.unOp UnOp.not 4 (Operand.tmp 124), type := 4, pos := "ref.go:436", after := #[{ on := 8, ground := Ground.data }, { on := 4, ground := Ground.guard }], guard := some (4, true) }) (v := ?hdv54) rfl (by kernel_rfl) (by kernel_rfl) (by kernel_rfl) (fun _ _ _ h => h) (Or.inl ⟨by rfl, ?hdy54⟩) (by assumption) ?hdr54
                  case hdy54 => (intro w hSw; (try dsimp only at hSw); go_simp; (try with_reducible rfl))
                  try simp only [Act.put, List.setIfInBounds_toArray, List.set_cons_zero, List.set_cons_succ]
                  refine wpAnyH_take (i := 10) (oi := { dst := some 126, op := Op.pick (Operand.tmp 120) (Operand.tmp 125) (Operand.const (Value.bool false)), type := 4, pos := "ref.go:436", after := #[{ on := 4, ground := Ground.data }, { on := 9, ground := Ground.data }], guard := none }) (v := ?hdv55) rfl (by kernel_rfl) (by kernel_rfl) (by kernel_rfl) (fun _ _ _ h => h) (Or.inl ⟨by rfl, ?hdy55⟩) (by assumption) ?hdr55
                  case hdy55 => (intro w hSw; (try dsimp only at hSw); go_simp; (try with_reducible rfl))
                  try simp only [Act.put, List.setIfInBounds_toArray, List.set_cons_zero, List.set_cons_succ]
                  refine wpAnyH_ready (rs := [11]) (by kernel_rfl) (by simp) ?_
                  refine AllReadyH.cons (o := { dst := some 127, op := Op.call { callee := Callee.value (Operand.func 44), args := #[Operand.tmp 116, Operand.tmp 117, Operand.const (Value.int IntKind.i64 3), Operand.tmp 126], argTypes := #[82, 3, 3, 4] }, type := 0, pos := "ref.go:436", after := #[{ on := 0, ground := Ground.data }, { on := 1, ground := Ground.data }, { on := 10, ground := Ground.data }, { on := 4, ground := Ground.chain }], guard := none }) rfl (fun K hK => ?_) AllReadyH.nil
                  go_simp
                  ((with_reducible refine Calls.mono (noteR3 g n k false (noteL R k 1 true) _ HR2.out.rg.drawn hRl2 hlt) ?_); rintro e w3 ⟨⟨x3, rfl⟩, hd3, hc3⟩; (try go_wp2_with fail))
                  refine Shut.out hK _ _ ?_ (fun hHeldN => ?_)
                  · (exact fun b o hg hb => cell_heap (w := World.drew w2) (a := ⟨b, o, none⟩) (hc3.block b hb hg))
                  ((try clear hK K); (try clear hHeld))
                  try simp only [Act.put, List.setIfInBounds_toArray, List.set_cons_zero, List.set_cons_succ]
                  clear hHeldN
                  refine wpAnyH_done (by kernel_rfl) ?_ _
                  have hh3 : Hid (isBlk w3 hb 4 (boolL H)) := Lib.hid ((hc3.block _ hhl2 (fun e => hhx.2.1 e.symm)).trans hh2.out)
                  go_wp2
                  go_roundg (gk - 1)
                  case measure => omega
                  case rel => exact ⟨k + 1, _, by omega, by go_num, Lib.hid (HR2.out.go hd3 hc3), hh3, H1⟩
            · have h1' : ¬ (n : Int) ≤ (u : Int) := by omega
              cases hq
              · have H1 := Lib.hid (HB.out false true (by unfold topoTop; rw [decide_eq_false h1]; rfl) (by simp [h0]))
                clear HB h0 h1
                go_upto_region 17 with (go_at_call 44; ((with_reducible refine (noteR1 g n k false R _ HR.out.rg hRl hlt).mono ?_); rintro e w2 ⟨⟨x2, rfl⟩, hd2, hc2⟩; have hh2 : Hid (isBlk w2 hb 4 (boolL H)) := Lib.hid ((hc2.block _ hhl (fun e => hhx.2.1 e.symm)).trans HH.out); have ch2 : w2.cell? ⟨hb, k, none⟩ = some (.bool false) := (hh2.out.cell k).trans CH.out; have cf2 : w2.cell? ⟨fb, 0, none⟩ = some (.slice (some ⟨g, 0, none⟩) n n) := (cell_heap (a := ⟨fb, 0, none⟩) (hc2.block _ hfl hfg)).trans cf; have hz2 := hc2.size))
                have HR2 := Lib.hid (HR.out.go hd2 ⟨hc2.os, hc2.tape, hc2.output, hc2.size, hc2.block⟩)
                have hRl2 : (noteL R k 1 false).length = n := (noteL_len ..).trans hRl
                have hfl2 : fb < w2.heap.size := by omega
                have hhl2 : hb < w2.heap.size := by omega
                have hgh : hb ≠ g := fun e => hhx.2.1 e.symm
                clear hc2 ch cf
                refine wp_region_held_drew (S := fun wz => ∀ b o, b ≠ g → b < w2.heap.size → wz.cell? ⟨b, o, none⟩ = w2.cell? ⟨b, o, none⟩) (by kernel_rfl) (fun b o _ _ => rfl) (fun hHeld => ?_)
                refine wpAnyH_take (i := 0) (oi := { dst := some 116, op := Op.load 82 (Operand.tmp 7), type := 82, pos := "ref.go:436", after := #[], guard := none }) (v := ?hdv56) rfl (by kernel_rfl) (by kernel_rfl) (by kernel_rfl) (fun _ _ _ h => h) (Or.inl ⟨by rfl, ?hdy56⟩) (by assumption) ?hdr56
                case hdy56 => (intro w hSw; (try dsimp only at hSw); go_simp; (try with_reducible rfl))
                try simp only [Act.put, List.setIfInBounds_toArray, List.set_cons_zero, List.set_cons_succ]
                refine wpAnyH_take (i := 1) (oi := { dst := some 117, op := Op.move (Operand.tmp 13), type := 3, pos := "ref.go:436", after := #[], guard := none }) (v := ?hdv57) rfl (by kernel_rfl) (by kernel_rfl) (by kernel_rfl) (fun _ _ _ h => h) (Or.inl ⟨by rfl, ?hdy57⟩) (by assumption) ?hdr57
                case hdy57 => (intro w hSw; (try dsimp only at hSw); go_simp; (try with_reducible rfl))
                try simp only [Act.put, List.setIfInBounds_toArray, List.set_cons_zero, List.set_cons_succ]
                refine wpAnyH_take (i := 2) (oi := { dst := some 118, op := Op.move (Operand.tmp 14), type := 28, pos := "ref.go:436", after := #[], guard := none }) (v := ?hdv58) rfl (by kernel_rfl) (by kernel_rfl) (by kernel_rfl) (fun _ _ _ h => h) (Or.inl ⟨by rfl, ?hdy58⟩) (by assumption) ?hdr58
                case hdy58 => (intro w hSw; (try dsimp only at hSw); go_simp; (try with_reducible rfl))
                try simp only [Act.put, List.setIfInBounds_toArray, List.set_cons_zero, List.set_cons_succ]
                refine wpAnyH_take (i := 3) (oi := { dst := some 119, op := Op.binOp BinOp.neq 28 (Operand.tmp 118) (Operand.const (Value.int IntKind.u64 0)) 28, type := 4, pos := "ref.go:436", after := #[{ on := 2, ground := Ground.data }], guard := none }) (v := ?hdv59) rfl (by kernel_rfl) (by kernel_rfl) (by kernel_rfl) (fun _ _ _ h => h) (Or.inl ⟨by rfl, ?hdy59⟩) (by assumption) ?hdr59
                case hdy59 => (intro w hSw; (try dsimp only at hSw); go_simp; (try with_reducible rfl))
                try simp only [Act.put, List.setIfInBounds_toArray, List.set_cons_zero, List.set_cons_succ]
                refine wpAnyH_take (i := 4) (oi := { dst := some 120, op := Op.move (Operand.tmp 119), type := 4, pos := "ref.go:436", after := #[{ on := 3, ground := Ground.data }], guard := none }) (v := ?hdv60) rfl (by kernel_rfl) (by kernel_rfl) (by kernel_rfl) (fun _ _ _ h => h) (Or.inl ⟨by rfl, ?hdy60⟩) (by assumption) ?hdr60
                case hdy60 => (intro w hSw; (try dsimp only at hSw); go_simp; (try with_reducible rfl))
                try simp only [Act.put, List.setIfInBounds_toArray, List.set_cons_zero, List.set_cons_succ]
                refine wpAnyH_take (i := 5) (oi := { dst := some 121, op := Op.move (Operand.tmp 8), type := 85, pos := "ref.go:436", after := #[{ on := 4, ground := Ground.guard }], guard := some (4, true) }) (v := ?hdv61) rfl (by kernel_rfl) (by kernel_rfl) (by kernel_rfl) (fun _ _ _ h => h) (Or.inl ⟨by rfl, ?hdy61⟩) (by assumption) ?hdr61
                case hdy61 => (intro w hSw; (try dsimp only at hSw); go_simp; (try with_reducible rfl))
                try simp only [Act.put, List.setIfInBounds_toArray, List.set_cons_zero, List.set_cons_succ]
                refine wpAnyH_take (i := 6) (oi := { dst := some 122, op := Op.move (Operand.tmp 13), type := 3, pos := "ref.go:436", after := #[{ on := 4, ground := Ground.guard }], guard := some (4, true) }) (v := ?hdv62) rfl (by kernel_rfl) (by kernel_rfl) (by kernel_rfl) (fun _ _ _ h => h) (Or.inl ⟨by rfl, ?hdy62⟩) (by assumption) ?hdr62
                case hdy62 => (intro w hSw; (try dsimp only at hSw); go_simp; (try with_reducible rfl))
                try simp only [Act.put, List.setIfInBounds_toArray, List.set_cons_zero, List.set_cons_succ]
                refine wpAnyH_take (i := 7) (oi := { dst := some 123, op := Op.indexAddr 85 (Operand.tmp 121) (Operand.tmp 122), type := 0, pos := "ref.go:436", after := #[{ on := 5, ground := Ground.data }, { on := 6, ground := Ground.data }, { on := 4, ground := Ground.guard }], guard := some (4, true) }) (v := ?hdv63) rfl (by kernel_rfl) (by kernel_rfl) (by kernel_rfl) (fun _ _ _ h => h) (Or.inl ⟨by rfl, ?hdy63⟩) (by assumption) ?hdr63
                case hdy63 => (intro w hSw; (try dsimp only at hSw); go_simp; (try with_reducible rfl))
                try simp only [Act.put, List.setIfInBounds_toArray, List.set_cons_zero, List.set_cons_succ]
                refine wpAnyH_take (i := 8) (oi := { dst := some 124, op := Op.load 4 (Operand.tmp 123), type := 4, pos := "ref.go:436", after := #[{ on := 7, ground := Ground.data }, { on := 4, ground := Ground.guard }], guard := some (4, true) }) (v := ?hdv64) rfl (by kernel_rfl) (by kernel_rfl) (by kernel_rfl) (fun _ _ _ h => h) (Or.inl ⟨by rfl, ?hdy64⟩) (by assumption) ?hdr64
                case hdy64 => (intro w hSw; (try dsimp only at hSw); go_simp; (try with_reducible rfl))
                try simp only [Act.put, List.setIfInBounds_toArray, List.set_cons_zero, List.set_cons_succ]
                refine wpAnyH_take (i := 9) (oi := { dst := some 125, op := Op.unOp UnOp.not 4 (Operand.tmp 124), type := 4, pos := "ref.go:436", after := #[{ on := 8, ground := Ground.data }, { on := 4, ground := Ground.guard }], guard := some (4, true) }) (v := ?hdv65) rfl (by kernel_rfl) (by kernel_rfl) (by kernel_rfl) (fun _ _ _ h => h) (Or.inl ⟨by rfl, ?hdy65⟩) (by assumption) ?hdr65
                case hdy65 => (intro w hSw; (try dsimp only at hSw); go_simp; (try with_reducible rfl))
                try simp only [Act.put, List.setIfInBounds_toArray, List.set_cons_zero, List.set_cons_succ]
                refine wpAnyH_take (i := 10) (oi := { dst := some 126, op := Op.pick (Operand.tmp 120) (Operand.tmp 125) (Operand.const (Value.bool false)), type := 4, pos := "ref.go:436", after := #[{ on := 4, ground := Ground.data }, { on := 9, ground := Ground.data }], guard := none }) (v := ?hdv66) rfl (by kernel_rfl) (by kernel_rfl) (by kernel_rfl) (fun _ _ _ h => h) (Or.inl ⟨by rfl, ?hdy66⟩) (by assumption) ?hdr66
                case hdy66 => (intro w hSw; (try dsimp only at hSw); go_simp; (try with_reducible rfl))
                try simp only [Act.put, List.setIfInBounds_toArray, List.set_cons_zero, List.set_cons_succ]
                refine wpAnyH_ready (rs := [11]) (by kernel_rfl) (by simp) ?_
                refine AllReadyH.cons (o := { dst := some 127, op := Op.call { callee := Callee.value (Operand.func 44), args := #[Operand.tmp 116, Operand.tmp 117, Operand.const (Value.int IntKind.i64 3), Operand.tmp 126], argTypes := #[82, 3, 3, 4] }, type := 0, pos := "ref.go:436", after := #[{ on := 0, ground := Ground.data }, { on := 1, ground := Ground.data }, { on := 10, ground := Ground.data }, { on := 4, ground := Ground.chain }], guard := none }) rfl (fun K hK => ?_) AllReadyH.nil
                go_simp
                ((with_reducible refine Calls.mono (noteR3 g n k true (noteL R k 1 false) _ HR2.out.rg.drawn hRl2 hlt) ?_); rintro e w3 ⟨⟨x3, rfl⟩, hd3, hc3⟩; (try go_wp2_with fail))
                refine Shut.out hK _ _ ?_ (fun hHeldN => ?_)
                · (exact fun b o hg hb => cell_heap (w := World.drew w2) (a := ⟨b, o, none⟩) (hc3.block b hb hg))
                ((try clear hK K); (try clear hHeld))
                try simp only [Act.put, List.setIfInBounds_toArray, List.set_cons_zero, List.set_cons_succ]
                clear hHeldN
                refine wpAnyH_done (by kernel_rfl) ?_ _
                have hh3 : Hid (isBlk w3 hb 4 (boolL H)) := Lib.hid ((hc3.block _ hhl2 (fun e => hhx.2.1 e.symm)).trans hh2.out)
                go_wp2
                go_roundg (gk - 1)
                case measure => omega
                case rel => exact ⟨k + 1, _, by omega, by go_num, Lib.hid (HR2.out.go hd3 hc3), hh3, H1⟩
              · have H1 := Lib.hid (HB.out false false (by unfold topoTop; rw [decide_eq_false h1]; rfl) (by simp [h0]))
                clear HB h0 h1
                go_upto_region 17 with (go_at_call 44; ((with_reducible refine (noteR1 g n k false R _ HR.out.rg hRl hlt).mono ?_); rintro e w2 ⟨⟨x2, rfl⟩, hd2, hc2⟩; have hh2 : Hid (isBlk w2 hb 4 (boolL H)) := Lib.hid ((hc2.block _ hhl (fun e => hhx.2.1 e.symm)).trans HH.out); have ch2 : w2.cell? ⟨hb, k, none⟩ = some (.bool true) := (hh2.out.cell k).trans CH.out; have cf2 : w2.cell? ⟨fb, 0, none⟩ = some (.slice (some ⟨g, 0, none⟩) n n) := (cell_heap (a := ⟨fb, 0, none⟩) (hc2.block _ hfl hfg)).trans cf; have hz2 := hc2.size))
                have HR2 := Lib.hid (HR.out.go hd2 ⟨hc2.os, hc2.tape, hc2.output, hc2.size, hc2.block⟩)
                have hRl2 : (noteL R k 1 false).length = n := (noteL_len ..).trans hRl
                have hfl2 : fb < w2.heap.size := by omega
                have hhl2 : hb < w2.heap.size := by omega
                have hgh : hb ≠ g := fun e => hhx.2.1 e.symm
                clear hc2 ch cf
                refine wp_region_held_drew (S := fun wz => ∀ b o, b ≠ g → b < w2.heap.size → wz.cell? ⟨b, o, none⟩ = w2.cell? ⟨b, o, none⟩) (by kernel_rfl) (fun b o _ _ => rfl) (fun hHeld => ?_)
                refine wpAnyH_take (i := 0) (oi := { dst := some 116, op := Op.load 82 (Operand.tmp 7), type := 82, pos := "ref.go:436", after := #[], guard := none }) (v := ?hdv67) rfl (by kernel_rfl) (by kernel_rfl) (by kernel_rfl) (fun _ _ _ h => h) (Or.inl ⟨by rfl, ?hdy67⟩) (by assumption) ?hdr67
                case hdy67 => (intro w hSw; (try dsimp only at hSw); go_simp; (try with_reducible rfl))
                try simp only [Act.put, List.setIfInBounds_toArray, List.set_cons_zero, List.set_cons_succ]
                refine wpAnyH_take (i := 1) (oi := { dst := some 117, op := Op.move (Operand.tmp 13), type := 3, pos := "ref.go:436", after := #[], guard := none }) (v := ?hdv68) rfl (by kernel_rfl) (by kernel_rfl) (by kernel_rfl) (fun _ _ _ h => h) (Or.inl ⟨by rfl, ?hdy68⟩) (by assumption) ?hdr68
                case hdy68 => (intro w hSw; (try dsimp only at hSw); go_simp; (try with_reducible rfl))
                try simp only [Act.put, List.setIfInBounds_toArray, List.set_cons_zero, List.set_cons_succ]
                refine wpAnyH_take (i := 2) (oi := { dst := some 118, op := Op.move (Operand.tmp 14), type := 28, pos := "ref.go:436", after := #[], guard := none }) (v := ?hdv69) rfl (by kernel_rfl) (by kernel_rfl) (by kernel_rfl) (fun _ _ _ h => h) (Or.inl ⟨by rfl, ?hdy69⟩) (by assumption) ?hdr69
                case hdy69 => (intro w hSw; (try dsimp only at hSw); go_simp; (try with_reducible rfl))
                try simp only [Act.put, List.setIfInBounds_toArray, List.set_cons_zero, List.set_cons_succ]
                refine wpAnyH_take (i := 3) (oi := { dst := some 119, op := Op.binOp BinOp.neq 28 (Operand.tmp 118) (Operand.const (Value.int IntKind.u64 0)) 28, type := 4, pos := "ref.go:436", after := #[{ on := 2, ground := Ground.data }], guard := none }) (v := ?hdv70) rfl (by kernel_rfl) (by kernel_rfl) (by kernel_rfl) (fun _ _ _ h => h) (Or.inl ⟨by rfl, ?hdy70⟩) (by assumption) ?hdr70
                case hdy70 => (intro w hSw; (try dsimp only at hSw); go_simp; (try with_reducible rfl))
                try simp only [Act.put, List.setIfInBounds_toArray, List.set_cons_zero, List.set_cons_succ]
                refine wpAnyH_take (i := 4) (oi := { dst := some 120, op := Op.move (Operand.tmp 119), type := 4, pos := "ref.go:436", after := #[{ on := 3, ground := Ground.data }], guard := none }) (v := ?hdv71) rfl (by kernel_rfl) (by kernel_rfl) (by kernel_rfl) (fun _ _ _ h => h) (Or.inl ⟨by rfl, ?hdy71⟩) (by assumption) ?hdr71
                case hdy71 => (intro w hSw; (try dsimp only at hSw); go_simp; (try with_reducible rfl))
                try simp only [Act.put, List.setIfInBounds_toArray, List.set_cons_zero, List.set_cons_succ]
                refine wpAnyH_take (i := 5) (oi := { dst := some 121, op := Op.move (Operand.tmp 8), type := 85, pos := "ref.go:436", after := #[{ on := 4, ground := Ground.guard }], guard := some (4, true) }) (v := ?hdv72) rfl (by kernel_rfl) (by kernel_rfl) (by kernel_rfl) (fun _ _ _ h => h) (Or.inl ⟨by rfl, ?hdy72⟩) (by assumption) ?hdr72
                case hdy72 => (intro w hSw; (try dsimp only at hSw); go_simp; (try with_reducible rfl))
                try simp only [Act.put, List.setIfInBounds_toArray, List.set_cons_zero, List.set_cons_succ]
                refine wpAnyH_take (i := 6) (oi := { dst := some 122, op := Op.move (Operand.tmp 13), type := 3, pos := "ref.go:436", after := #[{ on := 4, ground := Ground.guard }], guard := some (4, true) }) (v := ?hdv73) rfl (by kernel_rfl) (by kernel_rfl) (by kernel_rfl) (fun _ _ _ h => h) (Or.inl ⟨by rfl, ?hdy73⟩) (by assumption) ?hdr73
                case hdy73 => (intro w hSw; (try dsimp only at hSw); go_simp; (try with_reducible rfl))
                try simp only [Act.put, List.setIfInBounds_toArray, List.set_cons_zero, List.set_cons_succ]
                refine wpAnyH_take (i := 7) (oi := { dst := some 123, op := Op.indexAddr 85 (Operand.tmp 121) (Operand.tmp 122), type := 0, pos := "ref.go:436", after := #[{ on := 5, ground := Ground.data }, { on := 6, ground := Ground.data }, { on := 4, ground := Ground.guard }], guard := some (4, true) }) (v := ?hdv74) rfl (by kernel_rfl) (by kernel_rfl) (by kernel_rfl) (fun _ _ _ h => h) (Or.inl ⟨by rfl, ?hdy74⟩) (by assumption) ?hdr74
                case hdy74 => (intro w hSw; (try dsimp only at hSw); go_simp; (try with_reducible rfl))
                try simp only [Act.put, List.setIfInBounds_toArray, List.set_cons_zero, List.set_cons_succ]
                refine wpAnyH_take (i := 8) (oi := { dst := some 124, op := Op.load 4 (Operand.tmp 123), type := 4, pos := "ref.go:436", after := #[{ on := 7, ground := Ground.data }, { on := 4, ground := Ground.guard }], guard := some (4, true) }) (v := ?hdv75) rfl (by kernel_rfl) (by kernel_rfl) (by kernel_rfl) (fun _ _ _ h => h) (Or.inl ⟨by rfl, ?hdy75⟩) (by assumption) ?hdr75
                case hdy75 => (intro w hSw; (try dsimp only at hSw); go_simp; (try with_reducible rfl))
                try simp only [Act.put, List.setIfInBounds_toArray, List.set_cons_zero, List.set_cons_succ]
                refine wpAnyH_take (i := 9) (oi := { dst := some 125, op := Op.unOp UnOp.not 4 (Operand.tmp 124), type := 4, pos := "ref.go:436", after := #[{ on := 8, ground := Ground.data }, { on := 4, ground := Ground.guard }], guard := some (4, true) }) (v := ?hdv76) rfl (by kernel_rfl) (by kernel_rfl) (by kernel_rfl) (fun _ _ _ h => h) (Or.inl ⟨by rfl, ?hdy76⟩) (by assumption) ?hdr76
                case hdy76 => (intro w hSw; (try dsimp only at hSw); go_simp; (try with_reducible rfl))
                try simp only [Act.put, List.setIfInBounds_toArray, List.set_cons_zero, List.set_cons_succ]
                refine wpAnyH_take (i := 10) (oi := { dst := some 126, op := Op.pick (Operand.tmp 120) (Operand.tmp 125) (Operand.const (Value.bool false)), type := 4, pos := "ref.go:436", after := #[{ on := 4, ground := Ground.data }, { on := 9, ground := Ground.data }], guard := none }) (v := ?hdv77) rfl (by kernel_rfl) (by kernel_rfl) (by kernel_rfl) (fun _ _ _ h => h) (Or.inl ⟨by rfl, ?hdy77⟩) (by assumption) ?hdr77
                case hdy77 => (intro w hSw; (try dsimp only at hSw); go_simp; (try with_reducible rfl))
                try simp only [Act.put, List.setIfInBounds_toArray, List.set_cons_zero, List.set_cons_succ]
                refine wpAnyH_ready (rs := [11]) (by kernel_rfl) (by simp) ?_
                refine AllReadyH.cons (o := { dst := some 127, op := Op.call { callee := Callee.value (Operand.func 44), args := #[Operand.tmp 116, Operand.tmp 117, Operand.const (Value.int IntKind.i64 3), Operand.tmp 126], argTypes := #[82, 3, 3, 4] }, type := 0, pos := "ref.go:436", after := #[{ on := 0, ground := Ground.data }, { on := 1, ground := Ground.data }, { on := 10, ground := Ground.data }, { on := 4, ground := Ground.chain }], guard := none }) rfl (fun K hK => ?_) AllReadyH.nil
                go_simp
                ((with_reducible refine Calls.mono (noteR3 g n k false (noteL R k 1 false) _ HR2.out.rg.drawn hRl2 hlt) ?_); rintro e w3 ⟨⟨x3, rfl⟩, hd3, hc3⟩; (try go_wp2_with fail))
                refine Shut.out hK _ _ ?_ (fun hHeldN => ?_)
                · (exact fun b o hg hb => cell_heap (w := World.drew w2) (a := ⟨b, o, none⟩) (hc3.block b hb hg))
                ((try clear hK K); (try clear hHeld))
                try simp only [Act.put, List.setIfInBounds_toArray, List.set_cons_zero, List.set_cons_succ]
                clear hHeldN
                refine wpAnyH_done (by kernel_rfl) ?_ _
                have hh3 : Hid (isBlk w3 hb 4 (boolL H)) := Lib.hid ((hc3.block _ hhl2 (fun e => hhx.2.1 e.symm)).trans hh2.out)
                go_wp2
                go_roundg (gk - 1)
                case measure => omega
                case rel => exact ⟨k + 1, _, by omega, by go_num, Lib.hid (HR2.out.go hd3 hc3), hh3, H1⟩
        · obtain rfl : k = n := by omega
          go_wp2
          go_meet
          exact ⟨R, HR, HT⟩
    case rest =>
      obtain ⟨R7, HR7, HT7⟩ := hcut
      have hRl7 := HT7.out.1
      have cf : wc.cell? ⟨fb, 0, none⟩ = some (.slice (some ⟨g, 0, none⟩) n n) := HR7.out.rf.cell 0
      clear HR2 HH2 HT2 HUP
      go_wp2_with (go_at_call 46; ((with_reducible refine (verdictR_any g n R7 _ HR7.out.rg hRl7 (by omega)).mono ?_); rintro e wv ⟨x, y, z, rfl, hv, hbv⟩; have HV := Lib.hid hv; clear hv; have hv5 := (HR7.out.below hbv).rv; have v0 : wv.cell? ⟨vb, 0, none⟩ = some (.bool false) := hv5.cell 0; have v1 : wv.cell? ⟨vb, 1, none⟩ = some (.int .u32 0) := hv5.cell 1; have v2 : wv.cell? ⟨vb, 2, none⟩ = some (.int .i64 0) := hv5.cell 2; have f0 := hv5.frozen 0; have f1 := hv5.frozen 1; have f2 := hv5.frozen 2))
      obtain ⟨hk9, hg9⟩ := set3 hv5 (.bool x) (.int .u32 y) (.int .i64 z)
      have r0 := hk9.cell 0
      have r1 := hk9.cell 1
      have r2 := hk9.cell 2
      refine bodyPost_ret (v := .agg #[.bool x, .int .u32 y, .int .i64 z]) (by simp (maxDischargeDepth := 8) [results, Try.results18, go_sem, r0, r1, r2]) rfl ?_
      have hle := HT7.out.least HV.out
      exact ⟨x, y, z, rfl, ⟨⟨y, z⟩, hle.1, hle.2.1⟩, Bset hvz (Bset hvz (Bset hvz (HR7.out.below hbv).rb))⟩
end Go.Proofs.Ytohmeobfiomfdaa
