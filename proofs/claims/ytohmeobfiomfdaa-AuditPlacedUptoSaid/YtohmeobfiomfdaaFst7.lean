/-
  The document's words held against a truth: the walk.
-/
import Derived.Test.YtohmeobfiomfdaaTopo7
namespace Go.Proofs.Ytohmeobfiomfdaa
open Go.RowKit Go.Shelf
set_option maxRecDepth 100000

/-- The words that are not the truth. -/
def Bword (ss : List St) (T : Nat → Nat) (n v r : Nat) : Prop := v < n ∧ r = 1 ∧ lab ss v ≠ T v
theorem neq_natW (a b : Nat) : ((a : Int) != (b : Int)) = !(a == b) := by
  by_cases h : a = b
  · subst h; simp
  · rw [beq_eq_false_iff_ne.2 h, bne_iff_ne.2 (by omega)]; rfl

set_option maxHeartbeats 8000000 in
theorem refWords_any (n sb so sc tb tc : Nat) (a : Option Addr) (ss : List St) (T : List Nat) (w : World) (hs : IsSts w a sb so ss) (hss : ss.length = n) (hn : n ≤ 5000) (hn1 : 1 ≤ n) (hT : Wds w tb T) (hTl : n ≤ T.length) :
    Calls Try.prog 20 #[.int .u32 n, .slice a n sc, .int .i64 0, .slice (some ⟨tb, 0, none⟩) n tc] w fun e w' => ∃ (x : Bool) (y z : Nat), e = .returned (.agg #[.bool x, .int .u32 y, .int .i64 z]) ∧ (∃ f, verdC 0 f = #[.bool x, .int .u32 y, .int .i64 z] ∧ Least f (Bword ss (fun v => T.getD v 0) n)) ∧ Below w.heap.size w w' := by
  have HSS := Lib.hid hss
  obtain rfl := hs.ad (by omega)
  have hsl := hs.lt (by omega)
  have htl := hT.lt
  clear hss
  go_enter Try.func20, Try.ntmps20
  go_upto_block 0 with (go_at_call 43; ((with_reducible refine (begin_any n _ (by omega)).mono ?_); rintro e w1 ⟨g, rfl, hg1, hgz, hb1⟩))
  have hvk := (isBlk.new w 35 [.bool false, .int .u32 0, .int .i64 0]).below hb1 (by simp)
  have hz1 := hb1.size
  simp only [World.size_alloc] at hz1 hgz
  have HR1 : Hid (RefW w g w1.heap.size w.heap.size n (List.replicate n 0) (w1.alloc (.cells #[.slice (some ⟨g, 0, none⟩) n n] 82))) := Lib.hid ⟨hg1.old _, isBlk.new w1 82 [_], hvk.old _, Ball (by omega) (Below.trans (Ball (Nat.le_refl _) (Below.refl _ _)) (hb1.mono (by simp))), ⟨by omega, by omega, Nat.le_refl _⟩, ⟨by have := hg1.lt; omega, by omega, by omega⟩⟩
  obtain ⟨W1, hW1⟩ : ∃ W1, w1.alloc (.cells #[.slice (some ⟨g, 0, none⟩) n n] 82) = W1 := ⟨_, rfl⟩
  obtain ⟨fb, hfb⟩ : ∃ fb, fb = w1.heap.size := ⟨_, rfl⟩
  obtain ⟨vb, hvb⟩ : ∃ vb, vb = w.heap.size := ⟨_, rfl⟩
  have hsg : sb ≠ g := by omega
  have htg : tb ≠ g := by omega
  have hgw : w.heap.size ≤ g := by omega
  rw [hW1, ← hfb, ← hvb] at HR1
  rw [hW1, ← hfb, ← hvb]
  have hvz : w.heap.size ≤ vb := by omega
  clear hW1 hfb hvb hvk hz1 hgz hg1 hb1
  go_cut [10] (fun _ wx => ∃ R, Hid (RefW w g fb vb n R wx) ∧ Hid (Tells R n (fun v r => False ∨ (v < n ∧ r = 1 ∧ lab ss v ≠ T.getD v 0))))
  case first =>
    go_wp2_with fail
    go_loopg [10] n (fun gk i wr => ∃ (k : Nat) (R : List Nat), k + gk = n ∧ i = .int .i64 k ∧ Hid (RefW w g fb vb n R wr) ∧ Hid (Tells R n (fun v r => False ∨ (v < k ∧ r = 1 ∧ lab ss v ≠ T.getD v 0))))
    case atStart => exact ⟨0, _, by omega, rfl, HR1, Lib.hid ((Tells.none n).congr (fun v r => ⟨fun h => h.elim, fun h => h.elim id (fun h => absurd h.1 (Nat.not_lt_zero v))⟩))⟩
    case round =>
      clear HR1
      obtain ⟨k, R, hk, rfl, HR, HT⟩ := hrel
      have hRl := HT.out.1
      by_cases hlt : k < n
      · have i1 : (k : Int) < n := by omega
        have i2 : (0 : Int) ≤ k := Int.natCast_nonneg _
        have hgk : 0 < gk := by omega
        have hbw := HR.out.rb
        have hsr := hs.below hbw (fun _ => hsl)
        have hslr := hsr.lt (by rw [HSS.out]; omega)
        have hTr := hT.keep (hbw.block _ htl) hbw.size
        have htlr := hTr.lt
        have hfl := HR.out.rf.lt
        have hgl := HR.out.rg.lt
        have hfg := HR.out.n2.1
        have c0 : wr.cell? ⟨sb, so + k * 8, none⟩ = some (.int .u64 (lab ss k : Nat)) := by have := hsr.c0 k (by rw [HSS.out]; exact hlt); rwa [lab_get] at this
        have ct := hTr.c k (by omega)
        rw [getD_get (by omega)] at ct
        have cf : wr.cell? ⟨fb, 0, none⟩ = some (.slice (some ⟨g, 0, none⟩) n n) := HR.out.rf.cell 0
        have hbl : ∀ b : Bool, (b = true ↔ lab ss k ≠ T.getD k 0) → Tells (noteL R k 1 b) n (fun v r => False ∨ (v < k + 1 ∧ r = 1 ∧ lab ss v ≠ T.getD v 0)) := fun b hb => HT.out.next (by decide) hlt hb
        have HB := Lib.hid hbl
        clear hbl hbw hsr hTr
        generalize lab ss k = u at *
        generalize T.getD k 0 = t at *
        obtain ⟨bv, hbv⟩ : ∃ bv, (!(u == t)) = bv := ⟨_, rfl⟩
        have h1 : ((u : Int) != (t : Int)) = bv := by rw [← hbv]; exact neq_natW u t
        have H1 := Lib.hid (HB.out bv (by rw [← hbv]; simp))
        clear HB hbv
        go_upto_region 5 with fail
        go_region_held3 (fun wz => ∀ b o, b ≠ g → b < wr.heap.size → wz.cell? ⟨b, o, none⟩ = wr.cell? ⟨b, o, none⟩)
          (first | (intro b o _ _; rfl) | (intro b o hg hb; exact cell_heap (w := World.drew wr) (a := ⟨b, o, none⟩) (hc2.block b hb hg)))
          (((with_reducible refine Calls.mono (noteR1 g n k bv R _ HR.out.rg.drawn hRl hlt) ?_); rintro e w2 ⟨⟨x2, rfl⟩, hd2, hc2⟩))
        all_goals
          repeat (rename (∀ b o, b ≠ g → b < wr.heap.size → World.cell? _ ⟨b, o, none⟩ = _) => hSS; clear hSS)
          go_wp2
          go_roundg (gk - 1)
          case measure => omega
          case rel => exact ⟨k + 1, _, by omega, by go_num, Lib.hid (HR.out.go hd2 hc2), H1⟩
      · obtain rfl : k = n := by omega
        go_wp2
        go_meet
        exact ⟨R, HR, HT⟩
  case rest =>
    obtain ⟨R7, HR7, HT7⟩ := hcut
    have hRl7 := HT7.out.1
    have cf : wc.cell? ⟨fb, 0, none⟩ = some (.slice (some ⟨g, 0, none⟩) n n) := HR7.out.rf.cell 0
    clear HR1
    go_wp2_with (go_at_call 46; ((with_reducible refine (verdictR_any g n R7 _ HR7.out.rg hRl7 (by omega)).mono ?_); rintro e wv ⟨x, y, z, rfl, hv, hbv⟩; have HV := Lib.hid hv; clear hv; have hv5 := (HR7.out.below hbv).rv; have v0 : wv.cell? ⟨vb, 0, none⟩ = some (.bool false) := hv5.cell 0; have v1 : wv.cell? ⟨vb, 1, none⟩ = some (.int .u32 0) := hv5.cell 1; have v2 : wv.cell? ⟨vb, 2, none⟩ = some (.int .i64 0) := hv5.cell 2; have f0 := hv5.frozen 0; have f1 := hv5.frozen 1; have f2 := hv5.frozen 2))
    obtain ⟨hk9, hg9⟩ := set3 hv5 (.bool x) (.int .u32 y) (.int .i64 z)
    have r0 := hk9.cell 0
    have r1 := hk9.cell 1
    have r2 := hk9.cell 2
    refine bodyPost_ret (v := .agg #[.bool x, .int .u32 y, .int .i64 z]) (by simp (maxDischargeDepth := 8) [results, Try.results20, go_sem, r0, r1, r2]) rfl ?_
    have hle := HT7.out.least HV.out
    exact ⟨x, y, z, rfl, ⟨⟨y, z⟩, hle.1, Least.congr hle.2.1 (fun v r => ⟨fun h => h.elim (fun h => h.elim) id, Or.inr⟩)⟩, Bset hvz (Bset hvz (Bset hvz (HR7.out.below hbv).rb))⟩

end Go.Proofs.Ytohmeobfiomfdaa
