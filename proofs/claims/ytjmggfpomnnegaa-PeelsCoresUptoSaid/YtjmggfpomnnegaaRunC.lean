/-
  run: the loop over the edges: scatter.
-/
import Derived.Test.YtjmggfpomnnegaaRunA
namespace Go.Proofs.Ytjmggfpomnnegaa
open Go.RowKit
set_option maxRecDepth 100000

set_option maxHeartbeats 4000000 in
theorem run_part2 : run_split.P2 := by
  intro pr I n hpr pb eb eo cap a es flip limit w hlen hn hlim hs i0 hi hz0 hz1 hz2 z0 w1 db hb1 hdb hzw hp1 hE1 hpb1 D hD1 HDG hDl wc u18 u19 u20 u46 u47 u48 u49 u50 u51 u52 u53 u54 u55 u56 u57 u58 u59 u60 u61 u62 u63 u64 u65 u66 u67 z1 HSS hz hCl w2 w3 kb hlt2 gb HKB hlt3 hz4 HGB HR0 z2 gk u10 u11 u12 u13 u24 u25 u26 u27 u28 u29 u30 u31 u32 u33 u34 u35 u36 u37 u38 u39 u40 u78 u79 u80 u81 u82 u83 u84 u85 u86 u87 u88 u89 u90 u91 u92 u93 u94 u95 u96 u97 u98 u99 u100 u101 u102 u103 u104 u105 u106 u107 u108 u109 u110 u111 u112 u113 u114 u115 u116 u117 u118 u119 u120 u121 u122 u123 u124 u125 u126 u127 u128 u129 u130 u131 u132 u133 u134 u135 u136 u137 u138 u139 u140 u141 u142 u143 u144 u145 u146 u147 u148 u149 u150 u151 u152 u153 u154 u155 u156 u157 u158 u159 u160 u161 u162 u163 u164 u165 u166 u167 u168 u169 u170 u171 u172 u173 u174 u175 u176 u177 u178 u179 u180 u181 u182 u183 u184 u185 u186 u187 u188 u189 u190 u191 u192 u193 u194 u195 u196 u197 u198 u199 u200 u201 u202 u203 u204 u205 u206 u207 u208 u209 u210 u211 u212 u213 u214 u215 u216 u217 u218 u219 u220 u221 u222 u223 u224 u225 u226 u227 u228 u229 u230 u231 u232 u233 u234 u235 u236 u237 u238 u239 u240 u241 u242 u243 u244 u245 u246 u247 u248 u249 u250 u251 u252 u253 u254 u255 u256 u257 u258 u259 z4 z5 r hr wo HDN hlt h1 ss c g hM hRl HR i1 hi1 hz10 hz11 hz12 bu hgl hkl hcl HBU z9 z11 z13 z14 z15 z16
  go_wp2_with fail
  go_loopg [17, 24, 25, 26, 27, 28, 29, 30] es.length (fun gk bad v i _ _ _ _ _ wx => ∃ k : Nat, k + gk = es.length ∧ i = .int .i64 k ∧ bad = .int .i64 0 ∧ Below bu wo wx ∧
    wx.ownsRow bu 112 3 v (sends pr c ss (es.take k)).length (upCells (sends pr c ss (es.take k))))
  case atStart => exact ⟨0, by omega, rfl, rfl, Below.refl _ _, World.ownsRow_nil _ _ _ _⟩
  case round =>
    obtain ⟨k, hk, rfl, rfl, hbx, hus⟩ := hrel
    have hzx := hbx.size
    rw [← HBU.out] at hzx
    by_cases hlt2 : k < es.length
    · have hk0 : (k : Int) < (es.length : Int) := by omega
      have hk1 : (0 : Int) ≤ (k : Int) := Int.natCast_nonneg _
      have hEx := (hE1.below hM.bel hE1.lt).below hbx (fun h => by have := hE1.lt h; omega)
      obtain rfl := hE1.ad (by omega)
      have c0 := hEx.c0 k hlt2
      have c1 := hEx.c1 k hlt2
      have c2 := hEx.c2 k hlt2
      have hsd := hs es[k] (List.getElem_mem _)
      have hst := sends_take pr c ss es k hlt2
      have HST := Lib.hid hst
      have hul : (sends pr c ss (es.take k)).length ≤ 2 * (es.take k).length := sends_len _ _ _ _
      have hlk : (es.take k).length ≤ k := List.length_take_le _ _
      clear hst hEx
      generalize sends pr c ss (es.take k) = U at *
      have hes : ∃ src dst x, es[k] = ⟨src, dst, x⟩ := ⟨_, _, _, rfl⟩
      obtain ⟨src, dst, x, hes⟩ := hes
      rw [hes] at c0 c1 c2 hsd HST
      simp only [] at c0 c1 c2 hsd
      have HES := Lib.hid hes
      clear hes
      go_upto_region 21 with fail
      have hub := hus.lt
      have hMW := (hM.below hbx hcl hkl hgl).below (B := wr.heap.size) (Ball (Nat.le_refl _) (Below.refl _ _)) (by omega) (by omega) (by omega) (wx := wr.alloc (.cells #[.int .u32 src, .int .u32 dst, .int .u32 x] 37))
      have hEB := isBlk.new wr 37 [.int .u32 src, .int .u32 dst, .int .u32 x]
      have hBW := Ball (o := .cells #[.int .u32 src, .int .u32 dst, .int .u32 x] 37) hzx hbx
      have hUW := hus.alloc (.cells #[.int .u32 src, .int .u32 dst, .int .u32 x] 37)
      have hne : u24.ownBlock ≠ some wr.heap.size := fun h => by have := hub _ h; omega
      have hWs : (wr.alloc (.cells #[.int .u32 src, .int .u32 dst, .int .u32 x] 37)).heap.size = wr.heap.size + 1 := World.size_alloc _ _
      obtain ⟨be, hbe⟩ : ∃ be, be = wr.heap.size := ⟨_, rfl⟩
      rw [← hbe] at hEB hne hWs hzx ⊢
      have HBE := Lib.hid hbe
      clear c0 c1 c2 hus hub hbx
      generalize wr.alloc (.cells #[.int .u32 src, .int .u32 dst, .int .u32 x] 37) = W at *
      clear hbe
      have hprW : W.cell? ⟨pb, 0, none⟩ = some I := by rw [hMW.bel.cell (p := ⟨pb, 0, none⟩) hpb1]; exact hp1
      obtain ⟨q0, q1, q2, q3⟩ := hMW.c.ct
      obtain ⟨e0, e1, e2⟩ := hEB.ed
      have s0 : W.cell? ⟨w1.heap.size, src * 8, none⟩ = some (.int .u64 (stAt ss src).a0) := by rw [hMW.own.cellAt _ (by omega), stAt_get ss src (by omega)]; exact (stCells_get ss src (by omega)).1
      have s1 : W.cell? ⟨w1.heap.size, src * 8 + 1, none⟩ = some (.int .u64 (stAt ss src).a1) := by rw [hMW.own.cellAt _ (by omega), stAt_get ss src (by omega)]; exact (stCells_get ss src (by omega)).2.1
      have s2 : W.cell? ⟨w1.heap.size, src * 8 + 2, none⟩ = some (.int .u64 (stAt ss src).a2) := by rw [hMW.own.cellAt _ (by omega), stAt_get ss src (by omega)]; exact (stCells_get ss src (by omega)).2.2.1
      have s3 : W.cell? ⟨w1.heap.size, src * 8 + 3, none⟩ = some (.int .u64 (stAt ss src).a3) := by rw [hMW.own.cellAt _ (by omega), stAt_get ss src (by omega)]; exact (stCells_get ss src (by omega)).2.2.2.1
      have s4 : W.cell? ⟨w1.heap.size, src * 8 + 4, none⟩ = some (.int .u64 (stAt ss src).a4) := by rw [hMW.own.cellAt _ (by omega), stAt_get ss src (by omega)]; exact (stCells_get ss src (by omega)).2.2.2.2.1
      have s5 : W.cell? ⟨w1.heap.size, src * 8 + 5, none⟩ = some (.int .u64 (stAt ss src).a5) := by rw [hMW.own.cellAt _ (by omega), stAt_get ss src (by omega)]; exact (stCells_get ss src (by omega)).2.2.2.2.2.1
      have s6 : W.cell? ⟨w1.heap.size, src * 8 + 6, none⟩ = some (.int .u64 (stAt ss src).a6) := by rw [hMW.own.cellAt _ (by omega), stAt_get ss src (by omega)]; exact (stCells_get ss src (by omega)).2.2.2.2.2.2.1
      have s7 : W.cell? ⟨w1.heap.size, src * 8 + 7, none⟩ = some (.int .u64 (stAt ss src).a7) := by rw [hMW.own.cellAt _ (by omega), stAt_get ss src (by omega)]; exact (stCells_get ss src (by omega)).2.2.2.2.2.2.2
      have hs1 : (src : Int) < n := by omega
      have hs0 : (0 : Int) ≤ (src : Int) := Int.natCast_nonneg _
      have g1 : w1.heap.size + 1 < W.heap.size := by omega
      have g2 : be < W.heap.size := by omega
      have g3 : w1.heap.size < W.heap.size := by omega
      have hWb : bu ≤ W.heap.size := by omega
      have HWS := Lib.hid hWs
      clear hWs
      go_region_held3 (fun wz => ∀ b o, b < W.heap.size → wz.cell? ⟨b, o, none⟩ = W.cell? ⟨b, o, none⟩)
        ((intro b o hb; (repeat first | rw [World.cell?_setCell_far _ _ _ _ (by first | omega | (simp; omega) | (simp; done))] | rw [cell_drew] | rw [World.cell?_alloc_past _ _ _ (by first | omega | (simp; omega) | (simp; done))] | rw [hb2.cell (p := ⟨b, o, none⟩) (by first | omega | (simp; omega) | (simp; done))]); done))
        (((with_reducible refine Calls.mono (hpr.scat pb c (stAt ss src) src dst x false _ ?_ hsd.1 hsd.2) ?_); (focus (exact hprW)); rintro e w2 ⟨rfl, hb2⟩))
      repeat (rename (∀ b o, b < W.heap.size → World.cell? _ ⟨b, o, none⟩ = _) => hSS; clear hSS)
      have hb3 : Below W.heap.size W w2 := Below.trans (Below.drew (Below.refl W.heap.size W)) hb2
      have hMW2 := hMW.below hb3 (by omega) (by omega) (by omega)
      have hEB2 := hEB.below hb3 g2
      have hBW2 := hBW.trans (hb3.mono hWb)
      have hUW2 : w2.ownsRow bu 112 3 u24 U.length (upCells U) := by
        refine hUW.kept (row := none) ⟨hb3.os, hb3.tape, hb3.output, hb3.size, fun j hj _ => hb3.block j hj⟩ ?_
        cases u24.ownBlock <;> simp
      have hz2 : W.heap.size ≤ w2.heap.size := hb3.size
      clear hb2 hb3 hMW hEB hBW hUW hprW q0 q1 q2 q3 e0 e1 e2 s0 s1 s2 s3 s4 s5 s6 s7 g1 g3
      go_upto_if 114 with (first | (go_at_call 45; refine (worse_ok 0 rfl _).mono ?_; rintro e w3 ⟨rfl, rfl⟩))
      go_cut [17, 24, 27, 28, 29] (fun bad v _ _ _ wx => bad = .int .i64 0 ∧ Below bu wo wx ∧ isBlk wx be 37 [.int .u32 src, .int .u32 dst, .int .u32 x] ∧ wx.ownsRow bu 112 3 v (U ++ sendF pr c ss ⟨src, dst, x⟩).length (upCells (U ++ sendF pr c ss ⟨src, dst, x⟩)) ∧ v.ownBlock ≠ some be)
      case first =>
        obtain ⟨e0, e1, e2⟩ := hEB2.ed
        cases hsn : (pr.scat c (stAt ss src) src dst false).2.2
        · have hF0 : sendF pr c ss ⟨src, dst, x⟩ = [] := by unfold sendF; rw [if_neg (by simp [hsn])]
          have HF0 := Lib.hid hF0
          clear hsn hF0
          go_wp2
          go_meet
          rw [HF0.out, List.append_nil]
          exact ⟨rfl, hBW2, hEB2, hUW2, hne⟩
        · have hF1 : sendF pr c ss ⟨src, dst, x⟩ = [⟨dst, (pr.scat c (stAt ss src) src dst false).1, (pr.scat c (stAt ss src) src dst false).2.1⟩] := by unfold sendF; rw [if_pos hsn]
          have HF1 := Lib.hid hF1
          clear hsn hF1
          go_wp2_with (at_builtin; refine wpList_append_lies _ rfl _ _ 110 rfl bu 112 i1 _ 3 24 Try.underlying110 hi1 hz10 hz11 hz12 rfl (by omega) _ U.length _ rfl (hUW2.alloc _) ⟨w2.heap.size, 0, none⟩ 1 1 [.int .u32 dst, .int .u64 (pr.scat c (stAt ss src) src dst false).1, .int .u64 (pr.scat c (stAt ss src) src dst false).2.1] rfl rfl (World.news_of_block (fr := (0, 0)) (heap_alloc_new w2 _)) (by simp [Value.oneCell']) (by omega) (by unfold maxLen; omega) (by omega) (by simp; omega) (w2.heap.size + 1) (by simp) ?_; intro gg cp w3 hown3 hgrow hat _)
          go_meet
          rw [HF1.out, upCells_snoc, List.length_append, List.length_cons, List.length_nil]
          refine ⟨rfl, ?_, ?_, hown3, ?_⟩
          · exact (Ball (o := .cells #[.int .u32 dst, .int .u64 (pr.scat c (stAt ss src) src dst false).1, .int .u64 (pr.scat c (stAt ss src) src dst false).2.1] 112) (by omega) hBW2).grown hgrow (by simp; omega) (fun j h => (hUW2.lt j h).1)
          · exact (hEB2.old _).grown hgrow (fun h => hne h.symm)
          · intro h
            have h1 : gg = be := by simpa [Value.ownBlock] using h
            subst h1
            rcases hat with hat | hat
            · exact hne hat
            · omega
      case rest =>
        obtain ⟨rfl, hBx, hEx, hUx, hnx⟩ := hcut
        clear hMW2 hEB2 hBW2 hUW2
        have hMW := hM.below hBx hcl hkl hgl
        have hprW : wc.cell? ⟨pb, 0, none⟩ = some I := by rw [hMW.bel.cell (p := ⟨pb, 0, none⟩) hpb1]; exact hp1
        obtain ⟨q0, q1, q2, q3⟩ := hMW.c.ct
        obtain ⟨e0, e1, e2⟩ := hEx.ed
        have s0 : wc.cell? ⟨w1.heap.size, dst * 8, none⟩ = some (.int .u64 (stAt ss dst).a0) := by rw [hMW.own.cellAt _ (by omega), stAt_get ss dst (by omega)]; exact (stCells_get ss dst (by omega)).1
        have s1 : wc.cell? ⟨w1.heap.size, dst * 8 + 1, none⟩ = some (.int .u64 (stAt ss dst).a1) := by rw [hMW.own.cellAt _ (by omega), stAt_get ss dst (by omega)]; exact (stCells_get ss dst (by omega)).2.1
        have s2 : wc.cell? ⟨w1.heap.size, dst * 8 + 2, none⟩ = some (.int .u64 (stAt ss dst).a2) := by rw [hMW.own.cellAt _ (by omega), stAt_get ss dst (by omega)]; exact (stCells_get ss dst (by omega)).2.2.1
        have s3 : wc.cell? ⟨w1.heap.size, dst * 8 + 3, none⟩ = some (.int .u64 (stAt ss dst).a3) := by rw [hMW.own.cellAt _ (by omega), stAt_get ss dst (by omega)]; exact (stCells_get ss dst (by omega)).2.2.2.1
        have s4 : wc.cell? ⟨w1.heap.size, dst * 8 + 4, none⟩ = some (.int .u64 (stAt ss dst).a4) := by rw [hMW.own.cellAt _ (by omega), stAt_get ss dst (by omega)]; exact (stCells_get ss dst (by omega)).2.2.2.2.1
        have s5 : wc.cell? ⟨w1.heap.size, dst * 8 + 5, none⟩ = some (.int .u64 (stAt ss dst).a5) := by rw [hMW.own.cellAt _ (by omega), stAt_get ss dst (by omega)]; exact (stCells_get ss dst (by omega)).2.2.2.2.2.1
        have s6 : wc.cell? ⟨w1.heap.size, dst * 8 + 6, none⟩ = some (.int .u64 (stAt ss dst).a6) := by rw [hMW.own.cellAt _ (by omega), stAt_get ss dst (by omega)]; exact (stCells_get ss dst (by omega)).2.2.2.2.2.2.1
        have s7 : wc.cell? ⟨w1.heap.size, dst * 8 + 7, none⟩ = some (.int .u64 (stAt ss dst).a7) := by rw [hMW.own.cellAt _ (by omega), stAt_get ss dst (by omega)]; exact (stCells_get ss dst (by omega)).2.2.2.2.2.2.2
        have hs1 : (dst : Int) < n := by omega
        have hs0 : (0 : Int) ≤ (dst : Int) := Int.natCast_nonneg _
        have g2 := hEx.lt
        have hWb : bu ≤ wc.heap.size := by have := hBx.size; rw [← HBU.out] at this; exact this
        have g1 : w1.heap.size + 1 < wc.heap.size := by omega
        have g3 : w1.heap.size < wc.heap.size := by omega
        go_upto_region 25 with fail
        go_region_held3 (fun wz => ∀ b o, b < wc.heap.size → wz.cell? ⟨b, o, none⟩ = wc.cell? ⟨b, o, none⟩)
          ((intro b o hb; (repeat first | rw [World.cell?_setCell_far _ _ _ _ (by first | omega | (simp; omega) | (simp; done))] | rw [cell_drew] | rw [World.cell?_alloc_past _ _ _ (by first | omega | (simp; omega) | (simp; done))] | rw [hb2.cell (p := ⟨b, o, none⟩) (by first | omega | (simp; omega) | (simp; done))]); done))
          (((with_reducible refine Calls.mono (hpr.scat pb c (stAt ss dst) src dst x true _ ?_ hsd.1 hsd.2) ?_); (focus (exact hprW)); rintro e w2 ⟨rfl, hb2⟩))
        repeat (rename (∀ b o, b < wc.heap.size → World.cell? _ ⟨b, o, none⟩ = _) => hSS; clear hSS)
        have hb3 : Below wc.heap.size wc w2 := Below.trans (Below.drew (Below.refl wc.heap.size wc)) hb2
        have hEB2 := hEx.below hb3 g2
        have hBW2 := hBx.trans (hb3.mono hWb)
        have hUW2 : w2.ownsRow bu 112 3 u24 (U ++ sendF pr c ss ⟨src, dst, x⟩).length (upCells (U ++ sendF pr c ss ⟨src, dst, x⟩)) := by
          refine hUx.kept (row := none) ⟨hb3.os, hb3.tape, hb3.output, hb3.size, fun j hj _ => hb3.block j hj⟩ ?_
          cases u24.ownBlock <;> simp
        have hz2 : wc.heap.size ≤ w2.heap.size := hb3.size
        clear hb2 hb3 hMW hBx hUx hprW q0 q1 q2 q3 e0 e1 e2 s0 s1 s2 s3 s4 s5 s6 s7 g1 g3
        obtain ⟨e0, e1, e2⟩ := hEB2.ed
        have hul2 : (U ++ sendF pr c ss ⟨src, dst, x⟩).length ≤ 2 * es.length := by
          have := sendF_len pr c ss ⟨src, dst, x⟩
          rw [List.length_append]; omega
        generalize hUU : U ++ sendF pr c ss ⟨src, dst, x⟩ = UU at *
        have HUU := Lib.hid hUU
        clear hUU
        cases hsn : (pr.scat c (stAt ss dst) src dst true).2.2
        · have hF0 : sendB pr c ss ⟨src, dst, x⟩ = [] := by unfold sendB; rw [if_neg (by simp [hsn])]
          have HF0 := Lib.hid hF0
          clear hsn hF0
          go_wp2_with (first | (go_at_call 45; refine (worse_ok 0 rfl _).mono ?_; rintro e w3 ⟨rfl, rfl⟩))
          go_roundg (gk - 1)
          case measure => omega
          case rel => exact ⟨k + 1, by omega, by go_num, rfl, hBW2, by rw [HST.out, HF0.out, List.append_nil]; exact hUW2⟩
        · have hF1 : sendB pr c ss ⟨src, dst, x⟩ = [⟨src, (pr.scat c (stAt ss dst) src dst true).1, (pr.scat c (stAt ss dst) src dst true).2.1⟩] := by unfold sendB; rw [if_pos hsn]
          have HF1 := Lib.hid hF1
          clear hsn hF1
          go_wp2_with (first | (at_builtin; refine wpList_append_lies _ rfl _ _ 110 rfl bu 112 i1 _ 3 24 Try.underlying110 hi1 hz10 hz11 hz12 rfl (by omega) _ UU.length _ rfl (hUW2.alloc _) ⟨w2.heap.size, 0, none⟩ 1 1 [.int .u32 src, .int .u64 (pr.scat c (stAt ss dst) src dst true).1, .int .u64 (pr.scat c (stAt ss dst) src dst true).2.1] rfl rfl (World.news_of_block (fr := (0, 0)) (heap_alloc_new w2 _)) (by simp [Value.oneCell']) (by omega) (by unfold maxLen; omega) (by omega) (by simp; omega) (w2.heap.size + 1) (by simp) ?_; intro gg cp w3 hown3 hgrow hat _) | (go_at_call 45; refine (worse_ok 0 rfl _).mono ?_; rintro e w3 ⟨rfl, rfl⟩))
          go_roundg (gk - 1)
          case measure => omega
          case rel =>
            refine ⟨k + 1, by omega, by go_num, rfl, (Ball (o := .cells #[.int .u32 src, .int .u64 (pr.scat c (stAt ss dst) src dst true).1, .int .u64 (pr.scat c (stAt ss dst) src dst true).2.1] 112) (by omega) hBW2).grown hgrow (by simp; omega) (fun j h => (hUW2.lt j h).1), ?_⟩
            rw [HST.out, HF1.out, upCells_snoc, List.length_append, List.length_cons, List.length_nil]
            exact hown3
    · have hke : k = es.length := by omega
      rw [hke, List.take_length] at hus
      go_wp2
      go_meet
      exact ⟨rfl, hbx, hus⟩

end Go.Proofs.Ytjmggfpomnnegaa
