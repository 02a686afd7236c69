/-
  The document's knots: has, knots.
-/
import Derived.Test.YtohmeobfiomfdaaRef1
import Derived.Deep.AppendLies
namespace Go.Proofs.Ytohmeobfiomfdaa
open Go.RowKit Go.Shelf
set_option maxRecDepth 100000

/-- A row of words that is read. -/
structure IsU (w : World) (a : Option Addr) (gb : Nat) (l : List Nat) : Prop where
  ad : 0 < l.length → a = some ⟨gb, 0, none⟩
  lt : 0 < l.length → gb < w.heap.size
  c : ∀ j, j < l.length → w.cell? ⟨gb, j, none⟩ = some (.int .u64 (l.getD j 0 : Nat))
theorem IsU.below {w w' : World} {a : Option Addr} {gb B : Nat} {l : List Nat} (h : IsU w a gb l) (hb : Below B w w') (hB : 0 < l.length → gb < B) : IsU w' a gb l where
  ad := h.ad
  lt := fun h0 => Nat.lt_of_lt_of_le (h.lt h0) hb.size
  c := fun j hj => by rw [hb.cell (p := ⟨gb, j, none⟩) (hB (by omega))]; exact h.c j hj
theorem u64L_len (l : List Nat) : (u64L l).length = l.length := by simp [u64L]
theorem u64L_app (l m : List Nat) : u64L (l ++ m) = u64L l ++ u64L m := by simp [u64L]
theorem IsU.of_own {w : World} {base n cap : Nat} {a : Option Addr} {l : List Nat} (h : w.ownsRow base 28 1 (.slice a n cap) n (u64L l)) (hn : n = l.length) : ∃ gb, IsU w a gb l ∧ (0 < l.length → base ≤ gb) := by
  subst hn
  rcases h.2 with ⟨h1, h2⟩ | ⟨g, cap', cur, h1, h2, h3, h4, h5, h6, h7⟩
  · exact ⟨0, ⟨fun h => by omega, fun h => by omega, fun j hj => by omega⟩, fun h => by omega⟩
  · cases h1
    refine ⟨g, ⟨fun _ => rfl, fun _ => (h.lt g rfl).2, fun j hj => ?_⟩, fun _ => h2⟩
    rw [h.cellAt _ (by omega)]
    exact u64L_get l j hj

set_option maxHeartbeats 1000000 in
theorem has_any (a : Option Addr) (cap gb : Nat) (l : List Nat) (x : Nat) (w : World) (h : IsU w a gb l) (hl : l.length ≤ 4611686018427387904) :
    Calls Try.prog 69 #[.slice a l.length cap, .int .u64 x] w fun e w' => e = .returned (.bool (decide (x ∈ l))) ∧ w = w' := by
  go_enter Try.func69, Try.ntmps69
  go_wp2
  go_loopg [5] l.length (fun gk i wr => ∃ k : Nat, k + gk = l.length ∧ i = .int .i64 k ∧ (∀ j, j < k → l.getD j 0 ≠ x) ∧ w = wr)
  case atStart => exact ⟨0, by omega, rfl, fun j hj => absurd hj (Nat.not_lt_zero j), rfl⟩
  case round =>
    obtain ⟨k, hk, rfl, hno, rfl⟩ := hrel
    have HN := Lib.hid hno
    clear hno
    by_cases hlt : k < l.length
    · have i1 : (k : Int) < l.length := by omega
      have i2 : (0 : Int) ≤ k := Int.natCast_nonneg _
      have hgk : 0 < gk := by omega
      obtain rfl := h.ad (by omega)
      have c := h.c k hlt
      obtain ⟨y, hy⟩ : ∃ y, l.getD k 0 = y := ⟨_, rfl⟩
      rw [hy] at c
      have HY := Lib.hid hy
      clear hy
      by_cases h1 : y = x
      · have h1' : ((y : Int) == (x : Int)) = true := by rw [beq_iff_eq]; omega
        have HX : Hid (x ∈ l) := Lib.hid (by
          have := HY.out
          rw [List.getD_eq_getElem?_getD, List.getElem?_eq_getElem hlt, Option.getD_some] at this
          rw [← h1, ← this]
          exact List.getElem_mem hlt)
        clear h1
        go_wp2
        go_ret
        exact ⟨by rw [decide_eq_true HX.out]; rfl, rfl⟩
      · have h1' : ((y : Int) == (x : Int)) = false := by rw [beq_eq_false_iff_ne]; omega
        have H1 := Lib.hid h1
        clear h1
        go_wp2
        go_roundg (gk - 1)
        case measure => omega
        case rel => exact ⟨k + 1, by omega, by go_num, fun j hj => by
          by_cases e : j = k
          · rw [e, HY.out]; exact H1.out
          · exact HN.out j (by omega), rfl⟩
    · obtain rfl : k = l.length := by omega
      have HX : Hid (¬ x ∈ l) := Lib.hid (by
        intro hx
        obtain ⟨j, hj, hjx⟩ := List.mem_iff_getElem.1 hx
        refine HN.out j hj ?_
        rw [List.getD_eq_getElem?_getD, List.getElem?_eq_getElem hj]
        exact hjx)
      go_wp2
      go_ret
      exact ⟨by rw [decide_eq_false HX.out]; rfl, rfl⟩

/-- A list that the knots are looked for in. -/
structure KRow (w0 : World) (base : Nat) (W : World) (a : Option Addr) (cap : Nat) (l : List Nat) : Prop where
  own : W.ownsRow base 28 1 (.slice a l.length cap) l.length (u64L l)
  b : Below w0.heap.size w0 W

set_option maxHeartbeats 4000000 in
theorem labels_step (n sb so sc ec eb eo : Nat) (a ea : Option Addr) (es : List Ed) (ss : List St) (w : World) (hs : IsSts w a sb so ss) (hE : IsEds w ea eb eo es) (hss : ss.length = n) (hn : n ≤ 5000) (hn1 : 1 ≤ n) (hlen : es.length ≤ 1048576) (hva : ∀ e, e ∈ es → Valid n e) :
    Calls Try.prog 47 #[.slice ea es.length ec, .slice a n sc] w fun e w' => ∃ ka kc kb l, e = .returned (.slice ka l.length kc) ∧ IsU w' ka kb l ∧ (0 < l.length → w.heap.size ≤ kb) ∧ l.length ≤ 5000 ∧ (∀ v, v < n → (lab ss v ∈ l ↔ InKnot ss es (lab ss v))) ∧ Below w.heap.size w w' := by
  obtain ⟨i0, hi, hz0, hz1, hz2⟩ := info_parts Try.info28
  have HSS := Lib.hid hss
  obtain rfl := hs.ad (by omega)
  have hsl := hs.lt (by omega)
  clear hss
  go_enter Try.func47, Try.ntmps47
  go_upto_block 0 with fail
  go_cut [5, 6, 7] (fun v5 _ _ wx => ∃ a5 c5 l, v5 = .slice a5 (List.length l) c5 ∧ KRow w w.heap.size wx a5 c5 l ∧ l.length ≤ n ∧ (∀ v, v < n → lab ss v ∈ l) ∧ (∀ x, x ∈ l → ∃ v, v < n ∧ lab ss v = x))
  case first =>
    go_wp2_with fail
    go_loopg [5, 6, 7] n (fun gk v5 i _ wr => ∃ (k : Nat) (a5 : Option Addr) (c5 : Nat) (l : List Nat), k + gk = n ∧ i = .int .i64 k ∧ v5 = .slice a5 l.length c5 ∧ KRow w w.heap.size wr a5 c5 l ∧ l.length ≤ k ∧ (∀ v, v < k → lab ss v ∈ l) ∧ (∀ x, x ∈ l → ∃ v, v < n ∧ lab ss v = x))
    case atStart => exact ⟨0, none, 0, [], by omega, rfl, rfl, ⟨World.ownsRow_nil _ _ _ _, Below.refl _ _⟩, Nat.le_refl _, fun v hv => absurd hv (Nat.not_lt_zero v), fun x hx => absurd hx (by simp)⟩
    case round =>
      obtain ⟨k, a5, c5, l, hk, rfl, rfl, hkr, hll, hl1, hl2⟩ := hrel
      have HL := Lib.hid (And.intro hl1 hl2)
      have hown := hkr.own
      have hbw := hkr.b
      clear hl1 hl2
      by_cases hlt : k < n
      · have i1 : (k : Int) < n := by omega
        have i2 : (0 : Int) ≤ k := Int.natCast_nonneg _
        have hgk : 0 < gk := by omega
        have hbz := hbw.size
        obtain ⟨gb, hu, _⟩ := IsU.of_own hown rfl
        have hsr := hs.below hbw (fun _ => hsl)
        have c0 : wr.cell? ⟨sb, so + k * 8, none⟩ = some (.int .u64 (lab ss k : Nat)) := by have := hsr.c0 k (by rw [HSS.out]; exact hlt); rwa [lab_get] at this
        have hsl2 := hsr.lt (by rw [HSS.out]; omega)
        obtain ⟨x, hx⟩ : ∃ x, lab ss k = x := ⟨_, rfl⟩
        rw [hx] at c0
        have HX := Lib.hid hx
        clear hx hsr
        cases hd : decide (x ∈ l)
        · have HD := Lib.hid hd
          clear hd
          go_wp2_with (first | (go_at_call 69; ((with_reducible refine (has_any a5 c5 gb l x _ hu (by omega)).mono ?_); rintro e w1 ⟨rfl, rfl⟩; rw [HD.out])) | (at_builtin; refine wpList_append_lies _ rfl _ _ 32 rfl (w.heap.size) 28 i0 _ 1 8 Try.underlying32 hi hz0 hz1 hz2 rfl (by omega) _ (l.length) _ rfl (hown.alloc _) ⟨wr.heap.size, 0, none⟩ 1 1 [.int .u64 x] rfl rfl (World.news_of_block (fr := (0, 0)) (heap_alloc_new wr _)) (by simp [Value.oneCell']) (by omega) (by unfold maxLen; omega) (by omega) (by simp; omega) (wr.heap.size + 1) (by simp) ?_; intro g cap2 w2 hown2 hgrow hat hlt2))
          go_roundg (gk - 1)
          case measure => omega
          case rel =>
            refine ⟨k + 1, some ⟨g, 0, none⟩, cap2, l ++ [x], by omega, by go_num, by simp, ⟨?_, ?_⟩, by simp; omega, fun v hv => ?_, fun y hy => ?_⟩
            · rw [u64L_app, List.length_append]; exact hown2
            · exact Below.grown (by repeat (first | with_reducible exact Below.refl _ _ | with_reducible assumption | with_reducible refine below_drewN ?_ _ | with_reducible refine Below.drew ?_ | ((with_reducible refine Bset ?_ ?_); focus (first | omega | (simp; done) | (simp; omega))) | ((with_reducible refine Ball ?_ ?_); focus (first | omega | (simp; done) | (simp; omega))))) hgrow (by simp; omega) (fun j hj => (hown.lt j hj).1)
            · by_cases e : v = k
              · rw [e, HX.out]; simp
              · have := HL.out.1 v (by omega); simp [this]
            · rcases List.mem_append.1 hy with hy | hy
              · exact HL.out.2 y hy
              · rw [List.mem_singleton] at hy; exact ⟨k, hlt, by rw [HX.out, hy]⟩
        · have HD := Lib.hid hd
          clear hd
          go_wp2_with (go_at_call 69; ((with_reducible refine (has_any a5 c5 gb l x _ hu (by omega)).mono ?_); rintro e w1 ⟨rfl, rfl⟩; rw [HD.out]))
          go_roundg (gk - 1)
          case measure => omega
          case rel =>
            refine ⟨k + 1, a5, c5, l, by omega, by go_num, rfl, hkr, by omega, fun v hv => ?_, HL.out.2⟩
            by_cases e : v = k
            · rw [e, HX.out]; exact of_decide_eq_true HD.out
            · exact HL.out.1 v (by omega)
      · obtain rfl : k = n := by omega
        go_wp2
        go_meet
        exact ⟨a5, c5, l, rfl, hkr, hll, HL.out⟩
  case rest =>
    obtain ⟨a5, c5, l0, rfl, hkr, hll, hl1, hl2⟩ := hcut
    have HQ := Lib.hid (And.intro hkr (And.intro hll (And.intro (fun v hv (_ : InKnot ss es (lab ss v)) => hl1 v hv) hl2)))
    clear hkr hll hl1 hl2
    go_upto_block 2 with fail
    go_wp2_with fail
    go_loopg [5, 8, 9, 10, 11, 12, 13, 14, 15, 16] l0.length (fun gk v5 _ _ _ _ _ _ _ _ _ wr => ∃ (a5 : Option Addr) (c5 : Nat) (l : List Nat), v5 = .slice a5 l.length c5 ∧ l.length ≤ gk ∧ Hid (KRow w w.heap.size wr a5 c5 l ∧ l.length ≤ n ∧ (∀ v, v < n → InKnot ss es (lab ss v) → lab ss v ∈ l) ∧ (∀ x, x ∈ l → ∃ v, v < n ∧ lab ss v = x)))
    case atStart => exact ⟨a5, c5, l0, rfl, Nat.le_refl _, HQ⟩
    case round =>
      clear HQ
      obtain ⟨a5, c5, l, rfl, hlg, HQ⟩ := hrel
      obtain ⟨gq, rfl⟩ : ∃ gq : Nat, gq = gk := ⟨_, rfl⟩
      obtain ⟨wo, rfl⟩ : ∃ wo : World, wo = wr := ⟨_, rfl⟩
      obtain ⟨gb, hu, hgb⟩ := IsU.of_own HQ.out.1.own rfl
      have hln : l.length ≤ n := HQ.out.2.1
      have hbw := HQ.out.1.b
      have hbz := hbw.size
      have hsr := hs.below hbw (fun _ => hsl)
      have hEr := hE.below hbw hE.lt
      have hslr := hsr.lt (by rw [HSS.out]; omega)
      go_upto_block 4 with fail
      go_cut [8, 9, 10, 11, 12, 13] (fun v8 _ _ _ _ _ wx => ∃ a8 c8 D, v8 = .slice a8 (List.length D) c8 ∧ Hid (KRow wo wo.heap.size wx a8 c8 D ∧ D.length ≤ es.length ∧ ∀ x, x ∈ D ↔ ∃ e, e ∈ es ∧ lab ss e.src ≠ lab ss e.dst ∧ lab ss e.src ∈ l ∧ lab ss e.dst ∈ l ∧ lab ss e.dst = x))
      case first =>
        go_wp2_with fail
        go_loopg [8, 9, 10, 11, 12, 13] es.length (fun gk v8 i _ _ _ _ wx => ∃ (k : Nat) (a8 : Option Addr) (c8 : Nat) (D : List Nat), k + gk = es.length ∧ i = .int .i64 k ∧ v8 = .slice a8 D.length c8 ∧ KRow wo wo.heap.size wx a8 c8 D ∧ D.length ≤ k ∧ Hid (∀ x, x ∈ D ↔ ∃ j, ∃ h : j < es.length, j < k ∧ lab ss es[j].src ≠ lab ss es[j].dst ∧ lab ss es[j].src ∈ l ∧ lab ss es[j].dst ∈ l ∧ lab ss es[j].dst = x))
        case atStart => exact ⟨0, none, 0, [], by omega, rfl, rfl, ⟨World.ownsRow_nil _ _ _ _, Below.refl _ _⟩, Nat.le_refl _, Lib.hid (fun x => ⟨fun h => absurd h (by simp), fun ⟨j, _, h, _⟩ => absurd h (Nat.not_lt_zero j)⟩)⟩
        case round =>
          obtain ⟨k, a8, c8, D, hk, rfl, rfl, hkr, hDl, HD⟩ := hrel
          have hown := hkr.own
          have hbx := hkr.b
          have hbxz := hbx.size
          by_cases hlt : k < es.length
          · have i1 : (k : Int) < es.length := by omega
            have i2 : (0 : Int) ≤ k := Int.natCast_nonneg _
            have hgk : 0 < gk := by omega
            have hux := hu.below hbx hu.lt
            have hsx := hsr.below hbx (fun _ => hslr)
            have hEx := hEr.below hbx hEr.lt
            have hslx := hsx.lt (by rw [HSS.out]; omega)
            obtain rfl := hEx.ad (by omega)
            have helx := hEx.lt (by omega)
            have c0 := hEx.c0 k hlt
            have c1 := hEx.c1 k hlt
            have hvk := hva es[k] (List.getElem_mem hlt)
            have hstep : ∀ D' : List Nat, (∀ x, x ∈ D' ↔ x ∈ D ∨ (lab ss es[k].src ≠ lab ss es[k].dst ∧ lab ss es[k].src ∈ l ∧ lab ss es[k].dst ∈ l ∧ lab ss es[k].dst = x)) → ∀ x, x ∈ D' ↔ ∃ j, ∃ h : j < es.length, j < k + 1 ∧ lab ss es[j].src ≠ lab ss es[j].dst ∧ lab ss es[j].src ∈ l ∧ lab ss es[j].dst ∈ l ∧ lab ss es[j].dst = x := by
              intro D' hD' x
              rw [hD', HD.out]
              constructor
              · rintro (⟨j, h1, h2, h3⟩ | h)
                · exact ⟨j, h1, by omega, h3⟩
                · exact ⟨k, hlt, by omega, h⟩
              · rintro ⟨j, h1, h2, h3⟩
                by_cases e : j = k
                · subst e; exact Or.inr h3
                · exact Or.inl ⟨j, h1, by omega, h3⟩
            have HST := Lib.hid hstep
            clear hstep
            generalize es[k] = x at *
            obtain ⟨src, dst, x3⟩ := x
            obtain ⟨v1, v2⟩ := hvk
            simp only [] at c0 c1 v1 v2
            have cS : wr.cell? ⟨sb, so + src * 8, none⟩ = some (.int .u64 (lab ss src : Nat)) := by have := hsx.c0 src (by rw [HSS.out]; exact v1); rwa [lab_get] at this
            have cD : wr.cell? ⟨sb, so + dst * 8, none⟩ = some (.int .u64 (lab ss dst : Nat)) := by have := hsx.c0 dst (by rw [HSS.out]; exact v2); rwa [lab_get] at this
            have j1 : (src : Int) < n := by omega
            have j2 : (dst : Int) < n := by omega
            have j3 : (0 : Int) ≤ src := Int.natCast_nonneg _
            have j4 : (0 : Int) ≤ dst := Int.natCast_nonneg _
            clear hsx hEx
            have HST2 : Hid (∀ D' : List Nat, (∀ x, x ∈ D' ↔ x ∈ D ∨ (lab ss src ≠ lab ss dst ∧ lab ss src ∈ l ∧ lab ss dst ∈ l ∧ lab ss dst = x)) → Hid (∀ x, x ∈ D' ↔ ∃ j, ∃ h : j < es.length, j < k + 1 ∧ lab ss es[j].src ≠ lab ss es[j].dst ∧ lab ss es[j].src ∈ l ∧ lab ss es[j].dst ∈ l ∧ lab ss es[j].dst = x)) := Lib.hid (fun D' h => Lib.hid (HST.out D' h))
            clear HST
            generalize lab ss src = ya at *
            generalize lab ss dst = yb at *
            cases h1 : decide (ya ∈ l)
            · have H1 := Lib.hid h1
              clear h1
              have HS := Lib.hid (HST2.out D (fun x => ⟨Or.inl, fun h => h.elim id (fun h => absurd h.2.1 (of_decide_eq_false H1.out))⟩))
              clear HST2
              cases h2 : decide (yb ∈ l)
              all_goals
                have H2 := Lib.hid h2
                clear h2
                by_cases h3 : ya = yb
                all_goals
                  first
                    | (have h3' : ((ya : Int) != (yb : Int)) = false := by rw [bne_eq_false_iff_eq]; omega)
                    | (have h3' : ((ya : Int) != (yb : Int)) = true := by rw [bne_iff_ne]; omega)
                  have H3 := Lib.hid h3
                  clear h3
                  go_wp2_with (first | (go_at_call 69; ((with_reducible refine (has_any a5 c5 gb l ya _ hux (by omega)).mono ?_); rintro e w1 ⟨rfl, rfl⟩; rw [H1.out])) | (go_at_call 69; ((with_reducible refine (has_any a5 c5 gb l yb _ hux (by omega)).mono ?_); rintro e w1 ⟨rfl, rfl⟩; rw [H2.out])))
                  go_roundg (gk - 1)
                  case measure => omega
                  case rel => exact ⟨k + 1, a8, c8, D, by omega, by go_num, rfl, hkr, by omega, HS.out⟩
            · have H1 := Lib.hid h1
              clear h1
              cases h2 : decide (yb ∈ l)
              · have H2 := Lib.hid h2
                have HS := Lib.hid (HST2.out D (fun x => ⟨Or.inl, fun h => h.elim id (fun h => absurd h.2.2.1 (of_decide_eq_false H2.out))⟩))
                clear HST2 h2
                by_cases h3 : ya = yb
                all_goals
                  first
                    | (have h3' : ((ya : Int) != (yb : Int)) = false := by rw [bne_eq_false_iff_eq]; omega)
                    | (have h3' : ((ya : Int) != (yb : Int)) = true := by rw [bne_iff_ne]; omega)
                  have H3 := Lib.hid h3
                  clear h3
                  go_wp2_with (first | (go_at_call 69; ((with_reducible refine (has_any a5 c5 gb l ya _ hux (by omega)).mono ?_); rintro e w1 ⟨rfl, rfl⟩; rw [H1.out])) | (go_at_call 69; ((with_reducible refine (has_any a5 c5 gb l yb _ hux (by omega)).mono ?_); rintro e w1 ⟨rfl, rfl⟩; rw [H2.out])))
                  go_roundg (gk - 1)
                  case measure => omega
                  case rel => exact ⟨k + 1, a8, c8, D, by omega, by go_num, rfl, hkr, by omega, HS.out⟩
              · have H2 := Lib.hid h2
                clear h2
                by_cases h3 : ya = yb
                · have h3' : ((ya : Int) != (yb : Int)) = false := by rw [bne_eq_false_iff_eq]; omega
                  have HS := Lib.hid (HST2.out D (fun x => ⟨Or.inl, fun h => h.elim id (fun h => absurd h3 h.1)⟩))
                  clear HST2 h3
                  go_wp2_with (first | (go_at_call 69; ((with_reducible refine (has_any a5 c5 gb l ya _ hux (by omega)).mono ?_); rintro e w1 ⟨rfl, rfl⟩; rw [H1.out])) | (go_at_call 69; ((with_reducible refine (has_any a5 c5 gb l yb _ hux (by omega)).mono ?_); rintro e w1 ⟨rfl, rfl⟩; rw [H2.out])))
                  go_roundg (gk - 1)
                  case measure => omega
                  case rel => exact ⟨k + 1, a8, c8, D, by omega, by go_num, rfl, hkr, by omega, HS.out⟩
                · have h3' : ((ya : Int) != (yb : Int)) = true := by rw [bne_iff_ne]; omega
                  have HS := Lib.hid (HST2.out (D ++ [yb]) (fun x => by
                    rw [List.mem_append, List.mem_singleton]
                    exact ⟨fun h => h.imp id (fun h => ⟨h3, of_decide_eq_true H1.out, of_decide_eq_true H2.out, h.symm⟩), fun h => h.imp id (fun h => h.2.2.2.symm)⟩))
                  clear HST2 h3
                  go_wp2_with (first | (go_at_call 69; ((with_reducible refine (has_any a5 c5 gb l ya _ hux (by omega)).mono ?_); rintro e w1 ⟨rfl, rfl⟩; rw [H1.out])) | (go_at_call 69; ((with_reducible refine (has_any a5 c5 gb l yb _ hux (by omega)).mono ?_); rintro e w1 ⟨rfl, rfl⟩; rw [H2.out])) | (at_builtin; refine wpList_append_lies _ rfl _ _ 32 rfl (wo.heap.size) 28 i0 _ 1 8 Try.underlying32 hi hz0 hz1 hz2 rfl (by omega) _ (D.length) _ rfl (hown.alloc _) ⟨wr.heap.size, 0, none⟩ 1 1 [.int .u64 yb] rfl rfl (World.news_of_block (fr := (0, 0)) (heap_alloc_new wr _)) (by simp [Value.oneCell']) (by omega) (by unfold maxLen; omega) (by omega) (by simp; omega) (wr.heap.size + 1) (by simp) ?_; intro g cap2 w2 hown2 hgrow hat hlt2))
                  go_roundg (gk - 1)
                  case measure => omega
                  case rel =>
                    refine ⟨k + 1, some ⟨g, 0, none⟩, cap2, D ++ [yb], by omega, by go_num, by simp, ⟨?_, ?_⟩, by simp; omega, HS.out⟩
                    · rw [u64L_app, List.length_append]; exact hown2
                    · exact Below.grown (by repeat (first | with_reducible exact Below.refl _ _ | with_reducible assumption | with_reducible refine below_drewN ?_ _ | with_reducible refine Below.drew ?_ | ((with_reducible refine Bset ?_ ?_); focus (first | omega | (simp; done) | (simp; omega))) | ((with_reducible refine Ball ?_ ?_); focus (first | omega | (simp; done) | (simp; omega))))) hgrow (by simp; omega) (fun j hj => (hown.lt j hj).1)
          · obtain rfl : k = es.length := by omega
            have HF : Hid (∀ x, x ∈ D ↔ ∃ e, e ∈ es ∧ lab ss e.src ≠ lab ss e.dst ∧ lab ss e.src ∈ l ∧ lab ss e.dst ∈ l ∧ lab ss e.dst = x) := Lib.hid (fun x => by
              rw [HD.out]
              constructor
              · rintro ⟨j, h, _, h3⟩; exact ⟨_, List.getElem_mem h, h3⟩
              · rintro ⟨e, he, h3⟩
                obtain ⟨j, hj, rfl⟩ := List.mem_iff_getElem.1 he
                exact ⟨j, hj, hj, h3⟩)
            go_wp2
            go_meet
            exact ⟨a8, c8, D, rfl, Lib.hid ⟨hkr, hDl, HF.out⟩⟩
      case rest =>
        obtain ⟨a8, c8, D, rfl, HD⟩ := hcut
        obtain ⟨w8, rfl⟩ : ∃ w8 : World, w8 = wc := ⟨_, rfl⟩
        have hb8 := HD.out.1.b
        have hbz8 := hb8.size
        have hu8 := hu.below hb8 hu.lt
        have hDl := HD.out.2.1
        obtain ⟨db, hud, hdb⟩ := IsU.of_own HD.out.1.own rfl
        clear hsr hEr hu hslr
        go_upto_block 6 with fail
        go_cut [14, 15, 16] (fun v14 _ _ wx => ∃ a9 c9 X, v14 = .slice a9 (List.length X) c9 ∧ Hid (KRow w8 w8.heap.size wx a9 c9 X ∧ X = l.filter (fun x => decide (x ∈ D))))
        case first =>
          go_wp2_with fail
          go_loopg [14, 15, 16] l.length (fun gk v14 i _ wx => ∃ (k : Nat) (a9 : Option Addr) (c9 : Nat) (X : List Nat), k + gk = l.length ∧ i = .int .i64 k ∧ v14 = .slice a9 X.length c9 ∧ KRow w8 w8.heap.size wx a9 c9 X ∧ X.length ≤ k ∧ Hid (X = (l.take k).filter (fun x => decide (x ∈ D))))
          case atStart => exact ⟨0, none, 0, [], by omega, rfl, rfl, ⟨World.ownsRow_nil _ _ _ _, Below.refl _ _⟩, Nat.le_refl _, Lib.hid rfl⟩
          case round =>
            obtain ⟨k, a9, c9, X, hk, rfl, rfl, hkr, hXl, HX⟩ := hrel
            have hown := hkr.own
            have hbx := hkr.b
            have hbxz := hbx.size
            by_cases hlt : k < l.length
            · have i1 : (k : Int) < l.length := by omega
              have i2 : (0 : Int) ≤ k := Int.natCast_nonneg _
              have hgk : 0 < gk := by omega
              have hux := hu8.below hbx hu8.lt
              have hudx := hud.below hbx hud.lt
              obtain rfl := hux.ad (by omega)
              have hgl := hux.lt (by omega)
              have c0 := hux.c k hlt
              have hst : (l.take (k + 1)).filter (fun x => decide (x ∈ D)) = X ++ (if decide (l.getD k 0 ∈ D) = true then [l.getD k 0] else []) := by
                rw [List.take_succ_eq_append_getElem hlt, List.filter_append, ← HX.out, List.getD_eq_getElem?_getD, List.getElem?_eq_getElem hlt, Option.getD_some]
                simp only [List.filter_cons, List.filter_nil]
              have HS := Lib.hid hst
              clear hst
              generalize l.getD k 0 = x at *
              cases hd : decide (x ∈ D)
              · have H1 := Lib.hid hd
                clear hd
                go_wp2_with (go_at_call 69; ((with_reducible refine (has_any a8 c8 db D x _ hudx (by omega)).mono ?_); rintro e w1 ⟨rfl, rfl⟩; rw [H1.out]))
                go_roundg (gk - 1)
                case measure => omega
                case rel => exact ⟨k + 1, a9, c9, X, by omega, by go_num, rfl, hkr, by omega, Lib.hid (by rw [HS.out, H1.out]; simp)⟩
              · have H1 := Lib.hid hd
                clear hd
                go_wp2_with (first | (go_at_call 69; ((with_reducible refine (has_any a8 c8 db D x _ hudx (by omega)).mono ?_); rintro e w1 ⟨rfl, rfl⟩; rw [H1.out])) | (at_builtin; refine wpList_append_lies _ rfl _ _ 32 rfl (w8.heap.size) 28 i0 _ 1 8 Try.underlying32 hi hz0 hz1 hz2 rfl (by omega) _ (X.length) _ rfl (hown.alloc _) ⟨wr.heap.size, 0, none⟩ 1 1 [.int .u64 x] rfl rfl (World.news_of_block (fr := (0, 0)) (heap_alloc_new wr _)) (by simp [Value.oneCell']) (by omega) (by unfold maxLen; omega) (by omega) (by simp; omega) (wr.heap.size + 1) (by simp) ?_; intro g cap2 w2 hown2 hgrow hat hlt2))
                go_roundg (gk - 1)
                case measure => omega
                case rel =>
                  refine ⟨k + 1, some ⟨g, 0, none⟩, cap2, X ++ [x], by omega, by go_num, by simp, ⟨?_, ?_⟩, by simp; omega, Lib.hid (by rw [HS.out, H1.out]; simp)⟩
                  · rw [u64L_app, List.length_append]; exact hown2
                  · exact Below.grown (by repeat (first | with_reducible exact Below.refl _ _ | with_reducible assumption | with_reducible refine below_drewN ?_ _ | with_reducible refine Below.drew ?_ | ((with_reducible refine Bset ?_ ?_); focus (first | omega | (simp; done) | (simp; omega))) | ((with_reducible refine Ball ?_ ?_); focus (first | omega | (simp; done) | (simp; omega))))) hgrow (by simp; omega) (fun j hj => (hown.lt j hj).1)
            · obtain rfl : k = l.length := by omega
              have HF : Hid (X = l.filter (fun x => decide (x ∈ D))) := Lib.hid (by have := HX.out; rwa [List.take_length] at this)
              go_wp2
              go_meet
              exact ⟨a9, c9, X, rfl, Lib.hid ⟨hkr, HF.out⟩⟩
        case rest =>
          obtain ⟨a9, c9, X, rfl, HX⟩ := hcut
          have hXl : X.length ≤ l.length := by rw [HX.out.2]; exact List.length_filter_le _ _
          have hDm := HD.out.2.2
          have hq := HQ.out
          have hXm : ∀ x, x ∈ X ↔ x ∈ l ∧ ∃ e, e ∈ es ∧ lab ss e.src ≠ lab ss e.dst ∧ lab ss e.src ∈ l ∧ lab ss e.dst ∈ l ∧ lab ss e.dst = x := fun x => by
            rw [HX.out.2, List.mem_filter, decide_eq_true_iff, hDm]
          by_cases hle : X.length = l.length
          · have heq : X = l := by rw [HX.out.2]; rw [HX.out.2] at hle; exact List.filter_eq_self.2 (List.length_filter_eq_length_iff.1 hle)
            have hfin : ∀ v, v < n → (lab ss v ∈ l ↔ InKnot ss es (lab ss v)) := fun v hv => by
              refine ⟨fun h => ⟨fun x => x ∈ l, fun b hb => ?_, h⟩, hq.2.2.1 v hv⟩
              rw [← heq] at hb
              obtain ⟨_, e, he, h1, h2, _, h4⟩ := (hXm b).1 hb
              exact ⟨e, he, h1, h4, h2⟩
            have HF := Lib.hid (And.intro hfin (And.intro hq.2.1 (And.intro (hu8.below HX.out.1.b hu8.lt) (hbw.trans ((hb8.mono hbz).trans (HX.out.1.b.mono (Nat.le_trans hbz hbz8)))))))
            have hle' : ((X.length : Int) == (l.length : Int)) = true := by rw [beq_iff_eq]; omega
            clear hq hXm hDm hfin hu8 hud hle heq
            go_wp2
            go_ret
            exact ⟨a5, c5, gb, l, rfl, HF.out.2.2.1, hgb, by have := HF.out.2.1; omega, HF.out.1, HF.out.2.2.2⟩
          · have hle' : ((X.length : Int) == (l.length : Int)) = false := by rw [beq_eq_false_iff_ne]; omega
            have hgq : X.length ≤ gq - 1 ∧ 0 < gq := by omega
            have hnew : KRow w w.heap.size wc a9 c9 X ∧ X.length ≤ n ∧ (∀ v, v < n → InKnot ss es (lab ss v) → lab ss v ∈ X) ∧ (∀ x, x ∈ X → ∃ v, v < n ∧ lab ss v = x) := by
              refine ⟨⟨own_lower HX.out.1.own (Nat.le_trans hbz hbz8), hbw.trans ((hb8.mono hbz).trans (HX.out.1.b.mono (Nat.le_trans hbz hbz8)))⟩, by omega, fun v hv hk => ?_, fun x hx => hq.2.2.2 x ((hXm x).1 hx).1⟩
              rw [hXm]
              refine ⟨hq.2.2.1 v hv hk, ?_⟩
              obtain ⟨S, hS, hSv⟩ := hk
              obtain ⟨e, he, h1, h2, h3⟩ := hS _ hSv
              have he1 := hva e he
              exact ⟨e, he, h1, hq.2.2.1 _ he1.1 ⟨S, hS, h3⟩, by rw [h2]; exact hq.2.2.1 v hv ⟨S, hS, hSv⟩, h2⟩
            have HN := Lib.hid hnew
            clear hq hXm hDm hnew hu8 hud hle
            go_wp2
            go_roundg (gq - 1)
            case measure => omega
            case rel => exact ⟨a9, c9, X, rfl, hgq.1, HN⟩

end Go.Proofs.Ytohmeobfiomfdaa
