/-
  run: the loop over the updates: gather.
-/
import Derived.Test.YtjmggfpomnnegaaRunA
namespace Go.Proofs.Ytjmggfpomnnegaa
open Go.RowKit
set_option maxRecDepth 100000

set_option maxHeartbeats 4000000 in
theorem run_part3 : run_split.P3 := by
  intro pr I n hpr pb eb eo cap a es flip limit w hlen hn hlim hs i0 hi hz0 hz1 hz2 z0 w1 db hb1 hdb hzw hp1 hE1 hpb1 D hD1 HDG hDl z1 u18 u19 u20 u46 u47 u48 u49 u50 u51 u52 u53 u54 u55 u56 u57 u58 u59 u60 u61 u62 u63 u64 u65 u66 u67 z2 HSS hz hCl w2 w3 kb hlt2 gb HKB hlt3 hz4 HGB HR0 z3 gk u10 u11 u12 u13 z5 z6 z7 z8 z9 z10 z11 u31 u32 u33 u34 u35 u36 u37 u38 u39 u40 u78 u79 u80 u81 u82 u83 u84 u85 u86 z12 z13 z14 z15 z16 z17 z18 z19 z20 z21 z22 z23 z24 z25 z26 z27 z28 z29 z30 z31 z32 z33 z34 z35 z36 z37 z38 z39 z40 z41 z42 z43 z44 z45 z46 z47 z48 z49 z50 z51 z52 z53 z54 z55 z56 z57 z58 z59 z60 z61 z62 z63 z64 z65 z66 z67 z68 z69 z70 z71 z72 z73 u149 u150 u151 u152 u153 u154 u155 u156 u157 u158 u159 u160 u161 u162 u163 u164 u165 u166 u167 u168 u169 u170 u171 u172 u173 u174 u175 u176 u177 u178 u179 u180 u181 u182 u183 u184 u185 u186 u187 u188 u189 u190 u191 u192 u193 u194 u195 u196 u197 u198 u199 u200 u201 u202 u203 u204 u205 u206 u207 u208 u209 u210 u211 u212 u213 u214 u215 u216 u217 u218 u219 u220 u221 u222 u223 u224 u225 u226 u227 u228 u229 u230 u231 u232 u233 u234 u235 u236 u237 u238 u239 u240 u241 u242 u243 u244 u245 u246 u247 u248 u249 u250 u251 u252 u253 u254 u255 u256 u257 u258 u259 z74 z75 r hr wo HDN hlt h1 ss c g hRl HR i1 hi1 hz10 hz11 hz12 bu hgl hkl hcl HBU z79 wc u24 u25 u26 u27 u28 u29 u30 u87 u88 u89 u90 u91 u92 u93 u94 u95 u96 u97 u98 u99 u100 u101 u102 u103 u104 u105 u106 u107 u108 u109 u110 u111 u112 u113 u114 u115 u116 u117 u118 u119 u120 u121 u122 u123 u124 u125 u126 u127 u128 u129 u130 u131 u132 u133 u134 u135 u136 u137 u138 u139 u140 u141 u142 u143 u144 u145 u146 u147 u148 hzc hMc U hus hUl hUt HU z81 z83 z84 z85 z86
  go_wp2_with fail
  go_loopg [31, 32] U.length (fun gk i _ wx => ∃ k : Nat, k + gk = U.length ∧ i = .int .i64 k ∧ RunMem pr n w1 wx kb gb ⟨gatherU pr ss ((turned (flOf flip r) U).take k), c, g⟩ ∧ bu ≤ wx.heap.size ∧ wx.ownsRow bu 112 3 u24 U.length (upCells U))
  case atStart => exact ⟨0, by omega, rfl, hMc, hzc, hus⟩
  case round =>
    obtain ⟨k, hk, rfl, hMx, hzx, hux⟩ := hrel
    clear hMc hzc hus
    by_cases hlt2 : k < U.length
    · have hk0 : (k : Int) < (U.length : Int) := by omega
      have hk1 : (0 : Int) ≤ (k : Int) := Int.natCast_nonneg _
      obtain ⟨ug, ucap, rfl, hug⟩ := hux.form (by omega)
      have hm : U.length - 1 - k < U.length := by omega
      have c0 : wr.cell? ⟨ug, k * 3, none⟩ = some (.int .u32 U[k].t) := by rw [hux.cellAt _ (by omega)]; exact (upCells_get U k hlt2).1
      have c1 : wr.cell? ⟨ug, k * 3 + 1, none⟩ = some (.int .u64 U[k].a) := by rw [hux.cellAt _ (by omega)]; exact (upCells_get U k hlt2).2.1
      have c2 : wr.cell? ⟨ug, k * 3 + 2, none⟩ = some (.int .u64 U[k].b) := by rw [hux.cellAt _ (by omega)]; exact (upCells_get U k hlt2).2.2
      have c3 : wr.cell? ⟨ug, (U.length - 1 - k) * 3, none⟩ = some (.int .u32 U[U.length - 1 - k].t) := by rw [hux.cellAt _ (by omega)]; exact (upCells_get U _ hm).1
      have c4 : wr.cell? ⟨ug, (U.length - 1 - k) * 3 + 1, none⟩ = some (.int .u64 U[U.length - 1 - k].a) := by rw [hux.cellAt _ (by omega)]; exact (upCells_get U _ hm).2.1
      have c5 : wr.cell? ⟨ug, (U.length - 1 - k) * 3 + 2, none⟩ = some (.int .u64 U[U.length - 1 - k].b) := by rw [hux.cellAt _ (by omega)]; exact (upCells_get U _ hm).2.2
      have htk : (turned (flOf flip r) U)[k]'(by rw [turned_len]; exact hlt2) = if flOf flip r then U[U.length - 1 - k] else U[k] := by
        unfold turned
        cases flOf flip r
        · rfl
        · simp [List.getElem_reverse]
      have hgt := gatherU_take pr ss (turned (flOf flip r) U) k (by rw [turned_len]; exact hlt2)
      rw [htk] at hgt
      have HGT := Lib.hid hgt
      clear hgt htk
      have hidx : ((U.length : Int) - 1 - k) = ((U.length - 1 - k : Nat) : Int) := by omega
      go_upto_if 163 with fail
      have hMW := hMx.below (B := wr.heap.size) (Ball (Nat.le_refl _) (Below.refl _ _)) (by omega) (by omega) (by omega) (wx := wr.alloc (.cells #[.int .u32 U[k].t, .int .u64 U[k].a, .int .u64 U[k].b] 112))
      have hEB := isBlk.new wr 112 [.int .u32 U[k].t, .int .u64 U[k].a, .int .u64 U[k].b]
      have hUW := hux.alloc (.cells #[.int .u32 U[k].t, .int .u64 U[k].a, .int .u64 U[k].b] 112)
      have hug2 : ug < wr.heap.size := hug.2
      have hne : ¬ ug = wr.heap.size := by omega
      go_cut [] (fun wx => RunMem pr n w1 wx kb gb ⟨gatherU pr ss ((turned (flOf flip r) U).take k), c, g⟩ ∧ isBlk wx wr.heap.size 112 (if flOf flip r then U[U.length - 1 - k] else U[k]).cells ∧
        wx.ownsRow bu 112 3 (.slice (some ⟨ug, 0, none⟩) U.length ucap) U.length (upCells U))
      case first =>
        have hf0 := fun j => hEB.frozen j
        cases hfl : flOf flip r
        · have ht : ((wrap64 (flip + ((r : Int) + 1))).tmod 2 != 0) = false := hfl
          have HFL := Lib.hid hfl
          clear hfl
          go_wp2
          go_meet
          rw [HFL.out]
          exact ⟨by have := hMW; rw [HFL.out] at this; exact this, hEB, hUW⟩
        · have ht : ((wrap64 (flip + ((r : Int) + 1))).tmod 2 != 0) = true := hfl
          have HFL := Lib.hid hfl
          clear hfl
          go_wp2
          go_meet
          rw [HFL.out]
          exact ⟨by have h := hMx.below (B := wr.heap.size) (Ball (Nat.le_refl _) (Below.refl _ _)) (by omega) (by omega) (by omega) (wx := wr.alloc (.cells #[.int .u32 U[U.length-1-k].t, .int .u64 U[U.length-1-k].a, .int .u64 U[U.length-1-k].b] 112)); rw [HFL.out] at h; exact h, isBlk.new wr 112 [.int .u32 U[U.length-1-k].t, .int .u64 U[U.length-1-k].a, .int .u64 U[U.length-1-k].b], hux.alloc _⟩
      case rest =>
        obtain ⟨hMy, hEy, hUy⟩ := hcut
        generalize hUu : (if flOf flip r then U[U.length - 1 - k] else U[k]) = u at *
        have hut : u.t < n := by rw [← hUu]; split <;> exact hUt _ (List.getElem_mem _)
        have HUU := Lib.hid hUu
        clear hUu
        obtain ⟨t, ua, ub⟩ := u
        change t < n at hut
        have hbq : ¬ wr.heap.size = w1.heap.size := by have := hMx.bel.size; have := hMx.own.lt; omega
        generalize hbw : wr.heap.size = bw at *
        have HBW := Lib.hid hbw
        clear hbw
        clear hMx hux hMW hEB hUW c0 c1 c2 c3 c4 c5
        have hkq : ¬ kb = w1.heap.size := by omega
        have hgq : ¬ gb = w1.heap.size := by omega
        have hugs : (Value.slice (some ⟨ug, 0, none⟩) U.length ucap).ownBlock ≠ some w1.heap.size := fun h => absurd (show ug = w1.heap.size by simpa [Value.ownBlock] using h) (by have := (hUy.lt _ rfl).1; omega)
        generalize hGG : gatherU pr ss ((turned (flOf flip r) U).take k) = SS at *
        have HGG := Lib.hid hGG
        clear hGG
        have hln : SS.length = n := hMy.len
        have ht1 : (t : Int) < n := by omega
        have ht0 : (0 : Int) ≤ (t : Int) := Int.natCast_nonneg _
        go_upto_region 35 with fail
        go_cut [] (fun wx => RunMem pr n w1 wx kb gb ⟨SS.set t (pr.monA (stAt SS t) ua), c, g⟩ ∧ isBlk wx bw 112 [.int .u32 t, .int .u64 ua, .int .u64 ub] ∧
          wx.ownsRow bu 112 3 (.slice (some ⟨ug, 0, none⟩) U.length ucap) U.length (upCells U))
        case first =>
          have hbq2 : bw < wc.heap.size := hEy.lt
          have e0 : wc.cell? ⟨bw, 0, none⟩ = some (.int .u32 t) := hEy.cell 0
          have e1 : wc.cell? ⟨bw, 1, none⟩ = some (.int .u64 ua) := hEy.cell 1
          have e2 : wc.cell? ⟨bw, 2, none⟩ = some (.int .u64 ub) := hEy.cell 2
          have k0 : wc.cell? ⟨kb, 0, none⟩ = some (.int .i64 pr.sA) := hMy.k.cell 0
          have k1 : wc.cell? ⟨kb, 1, none⟩ = some (.int .i64 pr.mA) := hMy.k.cell 1
          have k2 : wc.cell? ⟨kb, 2, none⟩ = some (.int .i64 pr.sB) := hMy.k.cell 2
          have k3 : wc.cell? ⟨kb, 3, none⟩ = some (.int .i64 pr.mB) := hMy.k.cell 3
          have hkq2 : kb < wc.heap.size := hMy.k.lt
          have hgq2 : gb < wc.heap.size := hMy.g.lt
          have hcq2 : w1.heap.size + 1 < wc.heap.size := hMy.c.lt
          have hln : SS.length = n := hMy.len
          have s0 : wc.cell? ⟨w1.heap.size, t * 8, none⟩ = some (.int .u64 (stAt SS t).a0) := by rw [hMy.own.cellAt _ (by omega), stAt_get SS t (by omega)]; exact (stCells_get SS t (by omega)).1
          have s1 : wc.cell? ⟨w1.heap.size, t * 8 + 1, none⟩ = some (.int .u64 (stAt SS t).a1) := by rw [hMy.own.cellAt _ (by omega), stAt_get SS t (by omega)]; exact (stCells_get SS t (by omega)).2.1
          have s2 : wc.cell? ⟨w1.heap.size, t * 8 + 2, none⟩ = some (.int .u64 (stAt SS t).a2) := by rw [hMy.own.cellAt _ (by omega), stAt_get SS t (by omega)]; exact (stCells_get SS t (by omega)).2.2.1
          have s3 : wc.cell? ⟨w1.heap.size, t * 8 + 3, none⟩ = some (.int .u64 (stAt SS t).a3) := by rw [hMy.own.cellAt _ (by omega), stAt_get SS t (by omega)]; exact (stCells_get SS t (by omega)).2.2.2.1
          have s4 : wc.cell? ⟨w1.heap.size, t * 8 + 4, none⟩ = some (.int .u64 (stAt SS t).a4) := by rw [hMy.own.cellAt _ (by omega), stAt_get SS t (by omega)]; exact (stCells_get SS t (by omega)).2.2.2.2.1
          have s5 : wc.cell? ⟨w1.heap.size, t * 8 + 5, none⟩ = some (.int .u64 (stAt SS t).a5) := by rw [hMy.own.cellAt _ (by omega), stAt_get SS t (by omega)]; exact (stCells_get SS t (by omega)).2.2.2.2.2.1
          have s6 : wc.cell? ⟨w1.heap.size, t * 8 + 6, none⟩ = some (.int .u64 (stAt SS t).a6) := by rw [hMy.own.cellAt _ (by omega), stAt_get SS t (by omega)]; exact (stCells_get SS t (by omega)).2.2.2.2.2.2.1
          have s7 : wc.cell? ⟨w1.heap.size, t * 8 + 7, none⟩ = some (.int .u64 (stAt SS t).a7) := by rw [hMy.own.cellAt _ (by omega), stAt_get SS t (by omega)]; exact (stCells_get SS t (by omega)).2.2.2.2.2.2.2
          have hugw : ug < wc.heap.size := (hUy.lt _ rfl).2
          refine wp_region_held_drew (S := fun wz => ∀ b o, b < wc.heap.size → b ≠ w1.heap.size → wz.cell? ⟨b, o, none⟩ = wc.cell? ⟨b, o, none⟩) (by kernel_rfl) (fun b o _ _ => by rw [cell_drew]) (fun hHeld => ?_)
          refine wpAnyH_take (i := 0) (oi := { dst := some 172, op := Op.move (Operand.tmp 15), type := 74, pos := "outright.go:66", after := #[], guard := none }) (v := ?v0) rfl (by kernel_rfl) (by kernel_rfl) (by kernel_rfl) (fun _ _ _ h => h) (Or.inl ⟨by rfl, ?y0⟩) (by assumption) ?r0
          case y0 => (intro w hSw; (try dsimp only at hSw); go_simp; (try with_reducible rfl))
          try simp only [Act.put, List.setIfInBounds_toArray, List.set_cons_zero, List.set_cons_succ]
          refine wpAnyH_take (i := 1) (oi := { dst := some 173, op := Op.fieldAddr 112 (Operand.tmp 32) 0, type := 0, pos := "outright.go:66", after := #[], guard := none }) (v := ?v1) rfl (by kernel_rfl) (by kernel_rfl) (by kernel_rfl) (fun _ _ _ h => h) (Or.inl ⟨by rfl, ?y1⟩) (by assumption) ?r1
          case y1 => (intro w hSw; (try dsimp only at hSw); go_simp; (try with_reducible rfl))
          try simp only [Act.put, List.setIfInBounds_toArray, List.set_cons_zero, List.set_cons_succ]
          refine wpAnyH_take (i := 2) (oi := { dst := some 174, op := Op.load 29 (Operand.tmp 173), type := 29, pos := "outright.go:66", after := #[{ on := 1, ground := Ground.data }], guard := none }) (v := ?v2) rfl (by kernel_rfl) (by kernel_rfl) (by kernel_rfl) (fun _ _ _ h => h) (Or.inl ⟨by rfl, ?y2⟩) (by assumption) ?r2
          case y2 => (intro w hSw; (try dsimp only at hSw); go_simp; (try with_reducible rfl))
          try simp only [Act.put, List.setIfInBounds_toArray, List.set_cons_zero, List.set_cons_succ]
          refine wpAnyH_take (i := 3) (oi := { dst := some 175, op := Op.fieldAddr 48 (Operand.tmp 21) 1, type := 0, pos := "outright.go:66", after := #[], guard := none }) (v := ?v3) rfl (by kernel_rfl) (by kernel_rfl) (by kernel_rfl) (fun _ _ _ h => h) (Or.inl ⟨by rfl, ?y3⟩) (by assumption) ?r3
          case y3 => (intro w hSw; (try dsimp only at hSw); go_simp; (try with_reducible rfl))
          try simp only [Act.put, List.setIfInBounds_toArray, List.set_cons_zero, List.set_cons_succ]
          refine wpAnyH_take (i := 4) (oi := { dst := some 176, op := Op.load 46 (Operand.tmp 175), type := 46, pos := "outright.go:66", after := #[{ on := 3, ground := Ground.data }], guard := none }) (v := ?v4) rfl (by kernel_rfl) (by kernel_rfl) (by kernel_rfl) (fun _ _ _ h => h) (Or.inl ⟨by rfl, ?y4⟩) (by assumption) ?r4
          case y4 => (intro w hSw; (try dsimp only at hSw); go_simp; (try with_reducible rfl))
          try simp only [Act.put, List.setIfInBounds_toArray, List.set_cons_zero, List.set_cons_succ]
          refine wpAnyH_take (i := 5) (oi := { dst := some 177, op := Op.move (Operand.tmp 15), type := 74, pos := "outright.go:66", after := #[], guard := none }) (v := ?v5) rfl (by kernel_rfl) (by kernel_rfl) (by kernel_rfl) (fun _ _ _ h => h) (Or.inl ⟨by rfl, ?y5⟩) (by assumption) ?r5
          case y5 => (intro w hSw; (try dsimp only at hSw); go_simp; (try with_reducible rfl))
          try simp only [Act.put, List.setIfInBounds_toArray, List.set_cons_zero, List.set_cons_succ]
          refine wpAnyH_take (i := 6) (oi := { dst := some 178, op := Op.fieldAddr 112 (Operand.tmp 32) 0, type := 0, pos := "outright.go:66", after := #[], guard := none }) (v := ?v6) rfl (by kernel_rfl) (by kernel_rfl) (by kernel_rfl) (fun _ _ _ h => h) (Or.inl ⟨by rfl, ?y6⟩) (by assumption) ?r6
          case y6 => (intro w hSw; (try dsimp only at hSw); go_simp; (try with_reducible rfl))
          try simp only [Act.put, List.setIfInBounds_toArray, List.set_cons_zero, List.set_cons_succ]
          refine wpAnyH_take (i := 7) (oi := { dst := some 179, op := Op.load 29 (Operand.tmp 178), type := 29, pos := "outright.go:66", after := #[{ on := 6, ground := Ground.data }], guard := none }) (v := ?v7) rfl (by kernel_rfl) (by kernel_rfl) (by kernel_rfl) (fun _ _ _ h => h) (Or.inl ⟨by rfl, ?y7⟩) (by assumption) ?r7
          case y7 => (intro w hSw; (try dsimp only at hSw); go_simp; (try with_reducible rfl))
          try simp only [Act.put, List.setIfInBounds_toArray, List.set_cons_zero, List.set_cons_succ]
          refine wpAnyH_take (i := 8) (oi := { dst := some 180, op := Op.indexAddr 74 (Operand.tmp 177) (Operand.tmp 179), type := 0, pos := "outright.go:66", after := #[{ on := 5, ground := Ground.data }, { on := 7, ground := Ground.data }], guard := none }) (v := ?v8) rfl (by kernel_rfl) (by kernel_rfl) (by kernel_rfl) (fun _ _ _ h => h) (Or.inl ⟨by rfl, ?y8⟩) (by assumption) ?r8
          case y8 => (intro w hSw; (try dsimp only at hSw); go_simp; (try with_reducible rfl))
          try simp only [Act.put, List.setIfInBounds_toArray, List.set_cons_zero, List.set_cons_succ]
          refine wpAnyH_take (i := 10) (oi := { dst := some 182, op := Op.fieldAddr 48 (Operand.tmp 21) 0, type := 0, pos := "outright.go:66", after := #[], guard := none }) (v := ?v10) rfl (by kernel_rfl) (by kernel_rfl) (by kernel_rfl) (fun _ _ _ h => h) (Or.inl ⟨by rfl, ?y10⟩) (by assumption) ?r10
          case y10 => (intro w hSw; (try dsimp only at hSw); go_simp; (try with_reducible rfl))
          try simp only [Act.put, List.setIfInBounds_toArray, List.set_cons_zero, List.set_cons_succ]
          refine wpAnyH_take (i := 11) (oi := { dst := some 183, op := Op.load 3 (Operand.tmp 182), type := 3, pos := "outright.go:66", after := #[{ on := 10, ground := Ground.data }], guard := none }) (v := ?v11) rfl (by kernel_rfl) (by kernel_rfl) (by kernel_rfl) (fun _ _ _ h => h) (Or.inl ⟨by rfl, ?y11⟩) (by assumption) ?r11
          case y11 => (intro w hSw; (try dsimp only at hSw); go_simp; (try with_reducible rfl))
          try simp only [Act.put, List.setIfInBounds_toArray, List.set_cons_zero, List.set_cons_succ]
          refine wpAnyH_take (i := 12) (oi := { dst := some 184, op := Op.fieldAddr 112 (Operand.tmp 32) 1, type := 0, pos := "outright.go:66", after := #[], guard := none }) (v := ?v12) rfl (by kernel_rfl) (by kernel_rfl) (by kernel_rfl) (fun _ _ _ h => h) (Or.inl ⟨by rfl, ?y12⟩) (by assumption) ?r12
          case y12 => (intro w hSw; (try dsimp only at hSw); go_simp; (try with_reducible rfl))
          try simp only [Act.put, List.setIfInBounds_toArray, List.set_cons_zero, List.set_cons_succ]
          refine wpAnyH_take (i := 13) (oi := { dst := some 185, op := Op.load 23 (Operand.tmp 184), type := 23, pos := "outright.go:66", after := #[{ on := 12, ground := Ground.data }], guard := none }) (v := ?v13) rfl (by kernel_rfl) (by kernel_rfl) (by kernel_rfl) (fun _ _ _ h => h) (Or.inl ⟨by rfl, ?y13⟩) (by assumption) ?r13
          case y13 => (intro w hSw; (try dsimp only at hSw); go_simp; (try with_reducible rfl))
          try simp only [Act.put, List.setIfInBounds_toArray, List.set_cons_zero, List.set_cons_succ]
          refine wpAnyH_ready (rs := [9]) (by kernel_rfl) (by simp) ?_
          refine AllReadyH.cons (o := { dst := some 181, op := Op.load 25 (Operand.tmp 180), type := 25, pos := "outright.go:66", after := #[{ on := 8, ground := Ground.data }], guard := none }) rfl (fun K hK => ?_) AllReadyH.nil
          go_simp
          refine hK.out _ _ ?_ (fun hHeld9 => ?_)
          · with_reducible assumption
          clear hK K hHeld
          try simp only [Act.put, List.setIfInBounds_toArray, List.set_cons_zero, List.set_cons_succ]
          refine wpAnyH_ready (rs := [14]) (by kernel_rfl) (by simp) ?_
          refine AllReadyH.cons (o := { dst := some 186, op := Op.call { callee := Callee.value (Operand.func 47), args := #[Operand.tmp 176, Operand.tmp 181, Operand.tmp 183, Operand.tmp 185], argTypes := #[46, 25, 3, 23] }, type := 25, pos := "outright.go:66", after := #[{ on := 4, ground := Ground.data }, { on := 9, ground := Ground.data }, { on := 11, ground := Ground.data }, { on := 13, ground := Ground.data }], guard := none }) rfl (fun K hK => ?_) AllReadyH.nil
          go_simp
          with_reducible refine Calls.mono (hpr.monA _ _ _) ?_
          rintro e w2 ⟨rfl, hb2⟩
          go_wp2_with fail
          refine hK.out _ _ ?_ (fun hHeld14 => ?_)
          · (intro b o hb hq; (repeat first | rw [World.cell?_setCell_far _ _ _ _ (by first | omega | (simp; omega) | (simp; done))] | rw [cell_drew] | rw [hb2.cell (p := ⟨b, o, none⟩) (by first | omega | (simp; omega) | (simp; done))]); done)
          clear hK K hHeld9
          try simp only [Act.put, List.setIfInBounds_toArray, List.set_cons_zero, List.set_cons_succ]
          refine wpAnyH_take (i := 15) (oi := { dst := some 187, op := Op.indexAddr 74 (Operand.tmp 172) (Operand.tmp 174), type := 0, pos := "outright.go:66", after := #[{ on := 0, ground := Ground.data }, { on := 2, ground := Ground.data }, { on := 0, ground := Ground.phase }, { on := 1, ground := Ground.phase }, { on := 2, ground := Ground.phase }, { on := 3, ground := Ground.phase }, { on := 4, ground := Ground.phase }, { on := 5, ground := Ground.phase }, { on := 6, ground := Ground.phase }, { on := 7, ground := Ground.phase }, { on := 8, ground := Ground.phase }, { on := 9, ground := Ground.phase }, { on := 10, ground := Ground.phase }, { on := 11, ground := Ground.phase }, { on := 12, ground := Ground.phase }, { on := 13, ground := Ground.phase }, { on := 14, ground := Ground.phase }], guard := none }) (v := ?v15) rfl (by kernel_rfl) (by kernel_rfl) (by kernel_rfl) (fun _ _ _ h => h) (Or.inl ⟨by rfl, ?y15⟩) (by assumption) ?r15
          case y15 => (intro w hSw; (try dsimp only at hSw); go_simp; (try with_reducible rfl))
          try simp only [Act.put, List.setIfInBounds_toArray, List.set_cons_zero, List.set_cons_succ]
          have hb3 : Below wc.heap.size wc w2 := Below.trans (Below.drew (Below.refl wc.heap.size wc)) hb2
          have hM2 := hMy.below hb3 hcq2 hkq2 hgq2
          have hE2 := hEy.below hb3 hbq2
          have hU2 := own_below hUy hb3 hugw
          have hff : ∀ j, w2.frozen? ⟨w1.heap.size, j, none⟩ = false := fun j => hM2.own.frozenAt j
          have x0 : w2.cell? ⟨w1.heap.size, t * 8, none⟩ = some (.int .u64 (stAt SS t).a0) := by rw [hM2.own.cellAt _ (by omega), stAt_get SS t (by omega)]; exact (stCells_get SS t (by omega)).1
          have x1 : w2.cell? ⟨w1.heap.size, t * 8 + 1, none⟩ = some (.int .u64 (stAt SS t).a1) := by rw [hM2.own.cellAt _ (by omega), stAt_get SS t (by omega)]; exact (stCells_get SS t (by omega)).2.1
          have x2 : w2.cell? ⟨w1.heap.size, t * 8 + 2, none⟩ = some (.int .u64 (stAt SS t).a2) := by rw [hM2.own.cellAt _ (by omega), stAt_get SS t (by omega)]; exact (stCells_get SS t (by omega)).2.2.1
          have x3 : w2.cell? ⟨w1.heap.size, t * 8 + 3, none⟩ = some (.int .u64 (stAt SS t).a3) := by rw [hM2.own.cellAt _ (by omega), stAt_get SS t (by omega)]; exact (stCells_get SS t (by omega)).2.2.2.1
          have x4 : w2.cell? ⟨w1.heap.size, t * 8 + 4, none⟩ = some (.int .u64 (stAt SS t).a4) := by rw [hM2.own.cellAt _ (by omega), stAt_get SS t (by omega)]; exact (stCells_get SS t (by omega)).2.2.2.2.1
          have x5 : w2.cell? ⟨w1.heap.size, t * 8 + 5, none⟩ = some (.int .u64 (stAt SS t).a5) := by rw [hM2.own.cellAt _ (by omega), stAt_get SS t (by omega)]; exact (stCells_get SS t (by omega)).2.2.2.2.2.1
          have x6 : w2.cell? ⟨w1.heap.size, t * 8 + 6, none⟩ = some (.int .u64 (stAt SS t).a6) := by rw [hM2.own.cellAt _ (by omega), stAt_get SS t (by omega)]; exact (stCells_get SS t (by omega)).2.2.2.2.2.2.1
          have x7 : w2.cell? ⟨w1.heap.size, t * 8 + 7, none⟩ = some (.int .u64 (stAt SS t).a7) := by rw [hM2.own.cellAt _ (by omega), stAt_get SS t (by omega)]; exact (stCells_get SS t (by omega)).2.2.2.2.2.2.2
          refine wpAnyH_ready (rs := [16]) (by kernel_rfl) (by simp) ?_
          refine AllReadyH.cons (o := { dst := none, op := Op.store 25 (Operand.tmp 187) (Operand.tmp 186), type := 0, pos := "outright.go:66", after := #[{ on := 15, ground := Ground.data }, { on := 14, ground := Ground.data }, { on := 14, ground := Ground.chain }, { on := 0, ground := Ground.phase }, { on := 1, ground := Ground.phase }, { on := 2, ground := Ground.phase }, { on := 3, ground := Ground.phase }, { on := 4, ground := Ground.phase }, { on := 5, ground := Ground.phase }, { on := 6, ground := Ground.phase }, { on := 7, ground := Ground.phase }, { on := 8, ground := Ground.phase }, { on := 9, ground := Ground.phase }, { on := 10, ground := Ground.phase }, { on := 11, ground := Ground.phase }, { on := 12, ground := Ground.phase }, { on := 13, ground := Ground.phase }, { on := 14, ground := Ground.phase }], guard := none }) rfl (fun K hK => ?_) AllReadyH.nil
          go_simp
          refine hK.out _ _ ?_ (fun hHeld16 => ?_)
          · (intro b o hb hq; (repeat first | rw [World.cell?_setCell_far _ _ _ _ (by first | omega | (simp; omega) | (simp; done))] | rw [cell_drew] | rw [hb2.cell (p := ⟨b, o, none⟩) (by first | omega | (simp; omega) | (simp; done))]); done)
          clear hK K hHeld14
          try simp only [Act.put, List.setIfInBounds_toArray, List.set_cons_zero, List.set_cons_succ]
          refine wpAnyH_done (by kernel_rfl) ?_ _
          clear hHeld16 x0 x1 x2 x3 x4 x5 x6 x7 hff
          go_wp2_with fail
          go_meet
          exact ⟨hM2.store8 t hut hkq hgq (pr.monA (stAt SS t) ua), by unfold isBlk; rw [heap_store8 _ _ _ _ _ hbq]; exact hE2, own_far8 hU2 hugs _ (pr.monA (stAt SS t) ua)⟩
        case rest =>
          clear hMy hEy hUy
          obtain ⟨hMy, hEy, hUy⟩ := hcut
          have hS2 : stAt (SS.set t (pr.monA (stAt SS t) ua)) t = pr.monA (stAt SS t) ua := by unfold stAt; rw [List.getElem?_set_self (by omega)]; rfl
          have hS3 : ∀ x, (SS.set t (pr.monA (stAt SS t) ua)).set t x = SS.set t x := fun x => by rw [List.set_set]
          generalize hS2g : SS.set t (pr.monA (stAt SS t) ua) = S2 at *
          have HS2 := Lib.hid hS2
          have HS3 := Lib.hid hS3
          clear hS2 hS2g hS3 hln
          have hbq2 : bw < wc.heap.size := hEy.lt
          have e0 : wc.cell? ⟨bw, 0, none⟩ = some (.int .u32 t) := hEy.cell 0
          have e1 : wc.cell? ⟨bw, 1, none⟩ = some (.int .u64 ua) := hEy.cell 1
          have e2 : wc.cell? ⟨bw, 2, none⟩ = some (.int .u64 ub) := hEy.cell 2
          have k0 : wc.cell? ⟨kb, 0, none⟩ = some (.int .i64 pr.sA) := hMy.k.cell 0
          have k1 : wc.cell? ⟨kb, 1, none⟩ = some (.int .i64 pr.mA) := hMy.k.cell 1
          have k2 : wc.cell? ⟨kb, 2, none⟩ = some (.int .i64 pr.sB) := hMy.k.cell 2
          have k3 : wc.cell? ⟨kb, 3, none⟩ = some (.int .i64 pr.mB) := hMy.k.cell 3
          have hkq2 : kb < wc.heap.size := hMy.k.lt
          have hgq2 : gb < wc.heap.size := hMy.g.lt
          have hcq2 : w1.heap.size + 1 < wc.heap.size := hMy.c.lt
          have hln : S2.length = n := hMy.len
          have s0 : wc.cell? ⟨w1.heap.size, t * 8, none⟩ = some (.int .u64 (stAt S2 t).a0) := by rw [hMy.own.cellAt _ (by omega), stAt_get S2 t (by omega)]; exact (stCells_get S2 t (by omega)).1
          have s1 : wc.cell? ⟨w1.heap.size, t * 8 + 1, none⟩ = some (.int .u64 (stAt S2 t).a1) := by rw [hMy.own.cellAt _ (by omega), stAt_get S2 t (by omega)]; exact (stCells_get S2 t (by omega)).2.1
          have s2 : wc.cell? ⟨w1.heap.size, t * 8 + 2, none⟩ = some (.int .u64 (stAt S2 t).a2) := by rw [hMy.own.cellAt _ (by omega), stAt_get S2 t (by omega)]; exact (stCells_get S2 t (by omega)).2.2.1
          have s3 : wc.cell? ⟨w1.heap.size, t * 8 + 3, none⟩ = some (.int .u64 (stAt S2 t).a3) := by rw [hMy.own.cellAt _ (by omega), stAt_get S2 t (by omega)]; exact (stCells_get S2 t (by omega)).2.2.2.1
          have s4 : wc.cell? ⟨w1.heap.size, t * 8 + 4, none⟩ = some (.int .u64 (stAt S2 t).a4) := by rw [hMy.own.cellAt _ (by omega), stAt_get S2 t (by omega)]; exact (stCells_get S2 t (by omega)).2.2.2.2.1
          have s5 : wc.cell? ⟨w1.heap.size, t * 8 + 5, none⟩ = some (.int .u64 (stAt S2 t).a5) := by rw [hMy.own.cellAt _ (by omega), stAt_get S2 t (by omega)]; exact (stCells_get S2 t (by omega)).2.2.2.2.2.1
          have s6 : wc.cell? ⟨w1.heap.size, t * 8 + 6, none⟩ = some (.int .u64 (stAt S2 t).a6) := by rw [hMy.own.cellAt _ (by omega), stAt_get S2 t (by omega)]; exact (stCells_get S2 t (by omega)).2.2.2.2.2.2.1
          have s7 : wc.cell? ⟨w1.heap.size, t * 8 + 7, none⟩ = some (.int .u64 (stAt S2 t).a7) := by rw [hMy.own.cellAt _ (by omega), stAt_get S2 t (by omega)]; exact (stCells_get S2 t (by omega)).2.2.2.2.2.2.2
          have hugw : ug < wc.heap.size := (hUy.lt _ rfl).2
          go_upto_region 36 with fail
          refine wp_region_held_drew (S := fun wz => ∀ b o, b < wc.heap.size → b ≠ w1.heap.size → wz.cell? ⟨b, o, none⟩ = wc.cell? ⟨b, o, none⟩) (by kernel_rfl) (fun b o _ _ => by rw [cell_drew]) (fun hHeld => ?_)
          refine wpAnyH_take (i := 0) (oi := { dst := some 188, op := Op.move (Operand.tmp 15), type := 74, pos := "outright.go:67", after := #[], guard := none }) (v := ?vb0) rfl (by kernel_rfl) (by kernel_rfl) (by kernel_rfl) (fun _ _ _ h => h) (Or.inl ⟨by rfl, ?yb0⟩) (by assumption) ?rb0
          case yb0 => (intro w hSw; (try dsimp only at hSw); go_simp; (try with_reducible rfl))
          try simp only [Act.put, List.setIfInBounds_toArray, List.set_cons_zero, List.set_cons_succ]
          refine wpAnyH_take (i := 1) (oi := { dst := some 189, op := Op.fieldAddr 112 (Operand.tmp 32) 0, type := 0, pos := "outright.go:67", after := #[], guard := none }) (v := ?vb1) rfl (by kernel_rfl) (by kernel_rfl) (by kernel_rfl) (fun _ _ _ h => h) (Or.inl ⟨by rfl, ?yb1⟩) (by assumption) ?rb1
          case yb1 => (intro w hSw; (try dsimp only at hSw); go_simp; (try with_reducible rfl))
          try simp only [Act.put, List.setIfInBounds_toArray, List.set_cons_zero, List.set_cons_succ]
          refine wpAnyH_take (i := 2) (oi := { dst := some 190, op := Op.load 29 (Operand.tmp 189), type := 29, pos := "outright.go:67", after := #[{ on := 1, ground := Ground.data }], guard := none }) (v := ?vb2) rfl (by kernel_rfl) (by kernel_rfl) (by kernel_rfl) (fun _ _ _ h => h) (Or.inl ⟨by rfl, ?yb2⟩) (by assumption) ?rb2
          case yb2 => (intro w hSw; (try dsimp only at hSw); go_simp; (try with_reducible rfl))
          try simp only [Act.put, List.setIfInBounds_toArray, List.set_cons_zero, List.set_cons_succ]
          refine wpAnyH_take (i := 3) (oi := { dst := some 191, op := Op.fieldAddr 48 (Operand.tmp 21) 3, type := 0, pos := "outright.go:67", after := #[], guard := none }) (v := ?vb3) rfl (by kernel_rfl) (by kernel_rfl) (by kernel_rfl) (fun _ _ _ h => h) (Or.inl ⟨by rfl, ?yb3⟩) (by assumption) ?rb3
          case yb3 => (intro w hSw; (try dsimp only at hSw); go_simp; (try with_reducible rfl))
          try simp only [Act.put, List.setIfInBounds_toArray, List.set_cons_zero, List.set_cons_succ]
          refine wpAnyH_take (i := 4) (oi := { dst := some 192, op := Op.load 46 (Operand.tmp 191), type := 46, pos := "outright.go:67", after := #[{ on := 3, ground := Ground.data }], guard := none }) (v := ?vb4) rfl (by kernel_rfl) (by kernel_rfl) (by kernel_rfl) (fun _ _ _ h => h) (Or.inl ⟨by rfl, ?yb4⟩) (by assumption) ?rb4
          case yb4 => (intro w hSw; (try dsimp only at hSw); go_simp; (try with_reducible rfl))
          try simp only [Act.put, List.setIfInBounds_toArray, List.set_cons_zero, List.set_cons_succ]
          refine wpAnyH_take (i := 5) (oi := { dst := some 193, op := Op.move (Operand.tmp 15), type := 74, pos := "outright.go:67", after := #[], guard := none }) (v := ?vb5) rfl (by kernel_rfl) (by kernel_rfl) (by kernel_rfl) (fun _ _ _ h => h) (Or.inl ⟨by rfl, ?yb5⟩) (by assumption) ?rb5
          case yb5 => (intro w hSw; (try dsimp only at hSw); go_simp; (try with_reducible rfl))
          try simp only [Act.put, List.setIfInBounds_toArray, List.set_cons_zero, List.set_cons_succ]
          refine wpAnyH_take (i := 6) (oi := { dst := some 194, op := Op.fieldAddr 112 (Operand.tmp 32) 0, type := 0, pos := "outright.go:67", after := #[], guard := none }) (v := ?vb6) rfl (by kernel_rfl) (by kernel_rfl) (by kernel_rfl) (fun _ _ _ h => h) (Or.inl ⟨by rfl, ?yb6⟩) (by assumption) ?rb6
          case yb6 => (intro w hSw; (try dsimp only at hSw); go_simp; (try with_reducible rfl))
          try simp only [Act.put, List.setIfInBounds_toArray, List.set_cons_zero, List.set_cons_succ]
          refine wpAnyH_take (i := 7) (oi := { dst := some 195, op := Op.load 29 (Operand.tmp 194), type := 29, pos := "outright.go:67", after := #[{ on := 6, ground := Ground.data }], guard := none }) (v := ?vb7) rfl (by kernel_rfl) (by kernel_rfl) (by kernel_rfl) (fun _ _ _ h => h) (Or.inl ⟨by rfl, ?yb7⟩) (by assumption) ?rb7
          case yb7 => (intro w hSw; (try dsimp only at hSw); go_simp; (try with_reducible rfl))
          try simp only [Act.put, List.setIfInBounds_toArray, List.set_cons_zero, List.set_cons_succ]
          refine wpAnyH_take (i := 8) (oi := { dst := some 196, op := Op.indexAddr 74 (Operand.tmp 193) (Operand.tmp 195), type := 0, pos := "outright.go:67", after := #[{ on := 5, ground := Ground.data }, { on := 7, ground := Ground.data }], guard := none }) (v := ?vb8) rfl (by kernel_rfl) (by kernel_rfl) (by kernel_rfl) (fun _ _ _ h => h) (Or.inl ⟨by rfl, ?yb8⟩) (by assumption) ?rb8
          case yb8 => (intro w hSw; (try dsimp only at hSw); go_simp; (try with_reducible rfl))
          try simp only [Act.put, List.setIfInBounds_toArray, List.set_cons_zero, List.set_cons_succ]
          refine wpAnyH_take (i := 10) (oi := { dst := some 198, op := Op.fieldAddr 48 (Operand.tmp 21) 2, type := 0, pos := "outright.go:67", after := #[], guard := none }) (v := ?vb10) rfl (by kernel_rfl) (by kernel_rfl) (by kernel_rfl) (fun _ _ _ h => h) (Or.inl ⟨by rfl, ?yb10⟩) (by assumption) ?rb10
          case yb10 => (intro w hSw; (try dsimp only at hSw); go_simp; (try with_reducible rfl))
          try simp only [Act.put, List.setIfInBounds_toArray, List.set_cons_zero, List.set_cons_succ]
          refine wpAnyH_take (i := 11) (oi := { dst := some 199, op := Op.load 3 (Operand.tmp 198), type := 3, pos := "outright.go:67", after := #[{ on := 10, ground := Ground.data }], guard := none }) (v := ?vb11) rfl (by kernel_rfl) (by kernel_rfl) (by kernel_rfl) (fun _ _ _ h => h) (Or.inl ⟨by rfl, ?yb11⟩) (by assumption) ?rb11
          case yb11 => (intro w hSw; (try dsimp only at hSw); go_simp; (try with_reducible rfl))
          try simp only [Act.put, List.setIfInBounds_toArray, List.set_cons_zero, List.set_cons_succ]
          refine wpAnyH_take (i := 12) (oi := { dst := some 200, op := Op.fieldAddr 112 (Operand.tmp 32) 2, type := 0, pos := "outright.go:67", after := #[], guard := none }) (v := ?vb12) rfl (by kernel_rfl) (by kernel_rfl) (by kernel_rfl) (fun _ _ _ h => h) (Or.inl ⟨by rfl, ?yb12⟩) (by assumption) ?rb12
          case yb12 => (intro w hSw; (try dsimp only at hSw); go_simp; (try with_reducible rfl))
          try simp only [Act.put, List.setIfInBounds_toArray, List.set_cons_zero, List.set_cons_succ]
          refine wpAnyH_take (i := 13) (oi := { dst := some 201, op := Op.load 23 (Operand.tmp 200), type := 23, pos := "outright.go:67", after := #[{ on := 12, ground := Ground.data }], guard := none }) (v := ?vb13) rfl (by kernel_rfl) (by kernel_rfl) (by kernel_rfl) (fun _ _ _ h => h) (Or.inl ⟨by rfl, ?yb13⟩) (by assumption) ?rb13
          case yb13 => (intro w hSw; (try dsimp only at hSw); go_simp; (try with_reducible rfl))
          try simp only [Act.put, List.setIfInBounds_toArray, List.set_cons_zero, List.set_cons_succ]
          refine wpAnyH_ready (rs := [9]) (by kernel_rfl) (by simp) ?_
          refine AllReadyH.cons (o := { dst := some 197, op := Op.load 25 (Operand.tmp 196), type := 25, pos := "outright.go:67", after := #[{ on := 8, ground := Ground.data }], guard := none }) rfl (fun K hK => ?_) AllReadyH.nil
          go_simp
          refine hK.out _ _ ?_ (fun hHeld9 => ?_)
          · with_reducible assumption
          clear hK K hHeld
          try simp only [Act.put, List.setIfInBounds_toArray, List.set_cons_zero, List.set_cons_succ]
          refine wpAnyH_ready (rs := [14]) (by kernel_rfl) (by simp) ?_
          refine AllReadyH.cons (o := { dst := some 202, op := Op.call { callee := Callee.value (Operand.func 47), args := #[Operand.tmp 192, Operand.tmp 197, Operand.tmp 199, Operand.tmp 201], argTypes := #[46, 25, 3, 23] }, type := 25, pos := "outright.go:67", after := #[{ on := 4, ground := Ground.data }, { on := 9, ground := Ground.data }, { on := 11, ground := Ground.data }, { on := 13, ground := Ground.data }], guard := none }) rfl (fun K hK => ?_) AllReadyH.nil
          go_simp
          with_reducible refine Calls.mono (hpr.monB _ _ _) ?_
          rintro e w2 ⟨rfl, hb2⟩
          go_wp2_with fail
          refine hK.out _ _ ?_ (fun hHeld14 => ?_)
          · (intro b o hb hq; (repeat first | rw [World.cell?_setCell_far _ _ _ _ (by first | omega | (simp; omega) | (simp; done))] | rw [cell_drew] | rw [hb2.cell (p := ⟨b, o, none⟩) (by first | omega | (simp; omega) | (simp; done))]); done)
          clear hK K hHeld9
          try simp only [Act.put, List.setIfInBounds_toArray, List.set_cons_zero, List.set_cons_succ]
          refine wpAnyH_take (i := 15) (oi := { dst := some 203, op := Op.indexAddr 74 (Operand.tmp 188) (Operand.tmp 190), type := 0, pos := "outright.go:67", after := #[{ on := 0, ground := Ground.data }, { on := 2, ground := Ground.data }, { on := 0, ground := Ground.phase }, { on := 1, ground := Ground.phase }, { on := 2, ground := Ground.phase }, { on := 3, ground := Ground.phase }, { on := 4, ground := Ground.phase }, { on := 5, ground := Ground.phase }, { on := 6, ground := Ground.phase }, { on := 7, ground := Ground.phase }, { on := 8, ground := Ground.phase }, { on := 9, ground := Ground.phase }, { on := 10, ground := Ground.phase }, { on := 11, ground := Ground.phase }, { on := 12, ground := Ground.phase }, { on := 13, ground := Ground.phase }, { on := 14, ground := Ground.phase }], guard := none }) (v := ?vb15) rfl (by kernel_rfl) (by kernel_rfl) (by kernel_rfl) (fun _ _ _ h => h) (Or.inl ⟨by rfl, ?yb15⟩) (by assumption) ?rb15
          case yb15 => (intro w hSw; (try dsimp only at hSw); go_simp; (try with_reducible rfl))
          try simp only [Act.put, List.setIfInBounds_toArray, List.set_cons_zero, List.set_cons_succ]
          have hb3 : Below wc.heap.size wc w2 := Below.trans (Below.drew (Below.refl wc.heap.size wc)) hb2
          have hM2 := hMy.below hb3 hcq2 hkq2 hgq2
          have hE2 := hEy.below hb3 hbq2
          have hU2 := own_below hUy hb3 hugw
          have hff : ∀ j, w2.frozen? ⟨w1.heap.size, j, none⟩ = false := fun j => hM2.own.frozenAt j
          have x0 : w2.cell? ⟨w1.heap.size, t * 8, none⟩ = some (.int .u64 (stAt S2 t).a0) := by rw [hM2.own.cellAt _ (by omega), stAt_get S2 t (by omega)]; exact (stCells_get S2 t (by omega)).1
          have x1 : w2.cell? ⟨w1.heap.size, t * 8 + 1, none⟩ = some (.int .u64 (stAt S2 t).a1) := by rw [hM2.own.cellAt _ (by omega), stAt_get S2 t (by omega)]; exact (stCells_get S2 t (by omega)).2.1
          have x2 : w2.cell? ⟨w1.heap.size, t * 8 + 2, none⟩ = some (.int .u64 (stAt S2 t).a2) := by rw [hM2.own.cellAt _ (by omega), stAt_get S2 t (by omega)]; exact (stCells_get S2 t (by omega)).2.2.1
          have x3 : w2.cell? ⟨w1.heap.size, t * 8 + 3, none⟩ = some (.int .u64 (stAt S2 t).a3) := by rw [hM2.own.cellAt _ (by omega), stAt_get S2 t (by omega)]; exact (stCells_get S2 t (by omega)).2.2.2.1
          have x4 : w2.cell? ⟨w1.heap.size, t * 8 + 4, none⟩ = some (.int .u64 (stAt S2 t).a4) := by rw [hM2.own.cellAt _ (by omega), stAt_get S2 t (by omega)]; exact (stCells_get S2 t (by omega)).2.2.2.2.1
          have x5 : w2.cell? ⟨w1.heap.size, t * 8 + 5, none⟩ = some (.int .u64 (stAt S2 t).a5) := by rw [hM2.own.cellAt _ (by omega), stAt_get S2 t (by omega)]; exact (stCells_get S2 t (by omega)).2.2.2.2.2.1
          have x6 : w2.cell? ⟨w1.heap.size, t * 8 + 6, none⟩ = some (.int .u64 (stAt S2 t).a6) := by rw [hM2.own.cellAt _ (by omega), stAt_get S2 t (by omega)]; exact (stCells_get S2 t (by omega)).2.2.2.2.2.2.1
          have x7 : w2.cell? ⟨w1.heap.size, t * 8 + 7, none⟩ = some (.int .u64 (stAt S2 t).a7) := by rw [hM2.own.cellAt _ (by omega), stAt_get S2 t (by omega)]; exact (stCells_get S2 t (by omega)).2.2.2.2.2.2.2
          refine wpAnyH_ready (rs := [16]) (by kernel_rfl) (by simp) ?_
          refine AllReadyH.cons (o := { dst := none, op := Op.store 25 (Operand.tmp 203) (Operand.tmp 202), type := 0, pos := "outright.go:67", after := #[{ on := 15, ground := Ground.data }, { on := 14, ground := Ground.data }, { on := 14, ground := Ground.chain }, { on := 0, ground := Ground.phase }, { on := 1, ground := Ground.phase }, { on := 2, ground := Ground.phase }, { on := 3, ground := Ground.phase }, { on := 4, ground := Ground.phase }, { on := 5, ground := Ground.phase }, { on := 6, ground := Ground.phase }, { on := 7, ground := Ground.phase }, { on := 8, ground := Ground.phase }, { on := 9, ground := Ground.phase }, { on := 10, ground := Ground.phase }, { on := 11, ground := Ground.phase }, { on := 12, ground := Ground.phase }, { on := 13, ground := Ground.phase }, { on := 14, ground := Ground.phase }], guard := none }) rfl (fun K hK => ?_) AllReadyH.nil
          go_simp
          refine hK.out _ _ ?_ (fun hHeld16 => ?_)
          · (intro b o hb hq; (repeat first | rw [World.cell?_setCell_far _ _ _ _ (by first | omega | (simp; omega) | (simp; done))] | rw [cell_drew] | rw [hb2.cell (p := ⟨b, o, none⟩) (by first | omega | (simp; omega) | (simp; done))]); done)
          clear hK K hHeld14
          try simp only [Act.put, List.setIfInBounds_toArray, List.set_cons_zero, List.set_cons_succ]
          refine wpAnyH_done (by kernel_rfl) ?_ _
          clear hHeld16 x0 x1 x2 x3 x4 x5 x6 x7 hff
          go_wp2_with fail
          go_roundg (gk - 1)
          case measure => omega
          case rel =>
            have hU3 := own_far8 hU2 hugs (t * 8) (pr.monB (stAt S2 t) ub)
            refine ⟨k + 1, by omega, by go_num, ?_, Nat.le_trans (Nat.le_of_lt_succ (Nat.lt_succ_of_le (hU3.lt _ rfl).1)) (Nat.le_of_lt (hU3.lt _ rfl).2), hU3⟩
            have h := hM2.store8 t hut hkq hgq (pr.monB (stAt S2 t) ub)
            rw [HS3.out, HS2.out] at h
            rw [HGT.out]
            rw [HS2.out]
            exact h
    · have hke : k = U.length := by omega
      rw [hke, show (turned (flOf flip r) U).take U.length = turned (flOf flip r) U by rw [← turned_len (flOf flip r) U, List.take_length]] at hMx
      have hf : ∃ q cap2, u24 = .slice q U.length cap2 := by
        rcases hux.2 with ⟨hv, hn0⟩ | ⟨g2, cap2, cur, hv, _⟩
        · exact ⟨none, 0, by rw [hv, show U.length = 0 by first | exact hn0.1 | exact hn0 | omega]⟩
        · exact ⟨_, _, hv⟩
      obtain ⟨q2, cap2, rfl⟩ := hf
      clear hux
      go_wp2
      go_meet
      exact ⟨hMx, hzx⟩

end Go.Proofs.Ytjmggfpomnnegaa
