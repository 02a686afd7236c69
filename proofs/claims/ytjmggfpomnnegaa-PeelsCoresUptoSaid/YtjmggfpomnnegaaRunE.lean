/-
  run: the loop over the vertices: apply.
-/
import Derived.Test.YtjmggfpomnnegaaRunA
namespace Go.Proofs.Ytjmggfpomnnegaa
open Go.RowKit
set_option maxRecDepth 100000

set_option maxHeartbeats 4000000 in
theorem run_part4 : run_split.P4 := by
  intro pr I n hpr pb eb eo cap a es flip limit w hlen hn hlim hs i0 hi hz0 hz1 hz2 z0 w1 db hb1 hdb hzw hp1 hE1 hpb1 D hD1 HDG hDl z1 u18 u19 u20 u46 u47 u48 u49 u50 u51 u52 u53 u54 u55 u56 u57 u58 u59 u60 u61 u62 u63 u64 u65 u66 u67 z2 HSS hz hCl w2 w3 kb hlt2 gb HKB hlt3 hz4 HGB HR0 z3 gk u10 u11 u12 u13 z5 z6 z7 z8 z9 z10 z11 z12 z13 u33 u34 u35 u36 u37 u38 u39 u40 u78 u79 u80 u81 u82 u83 u84 u85 u86 z14 z15 z16 z17 z18 z19 z20 z21 z22 z23 z24 z25 z26 z27 z28 z29 z30 z31 z32 z33 z34 z35 z36 z37 z38 z39 z40 z41 z42 z43 z44 z45 z46 z47 z48 z49 z50 z51 z52 z53 z54 z55 z56 z57 z58 z59 z60 z61 z62 z63 z64 z65 z66 z67 z68 z69 z70 z71 z72 z73 z74 z75 z76 z77 z78 z79 z80 z81 z82 z83 z84 z85 z86 z87 z88 z89 z90 z91 z92 z93 z94 z95 z96 z97 z98 z99 z100 z101 z102 z103 z104 z105 z106 z107 z108 z109 z110 z111 z112 z113 z114 z115 z116 z117 z118 z119 z120 z121 z122 z123 z124 z125 z126 z127 z128 z129 z130 u204 u205 u206 u207 u208 u209 u210 u211 u212 u213 u214 u215 u216 u217 u218 u219 u220 u221 u222 u223 u224 u225 u226 u227 u228 u229 u230 u231 u232 u233 u234 u235 u236 u237 u238 u239 u240 u241 u242 u243 u244 u245 u246 u247 u248 u249 u250 u251 u252 u253 u254 u255 u256 u257 u258 u259 z131 z132 r hr wo HDN hlt h1 ss c g hRl HR i1 hi1 hz10 hz11 hz12 bu hgl hkl hcl HBU z136 z138 u24 u25 u26 u27 u28 u29 u30 u87 u88 u89 u90 u91 u92 u93 u94 u95 u96 u97 u98 u99 u100 u101 u102 u103 u104 u105 u106 u107 u108 u109 u110 u111 u112 u113 u114 u115 u116 u117 u118 u119 u120 u121 u122 u123 u124 u125 u126 u127 u128 u129 u130 u131 u132 u133 u134 u135 u136 u137 u138 u139 u140 u141 u142 u143 u144 u145 u146 u147 u148 U hUl hUt HU wc u31 u32 u149 u150 u151 u152 u153 u154 u155 u156 u157 u158 u159 u160 u161 u162 u163 u164 u165 u166 u167 u168 u169 u170 u171 u172 u173 u174 u175 u176 u177 u178 u179 u180 u181 u182 u183 u184 u185 u186 u187 u188 u189 u190 u191 u192 u193 u194 u195 u196 u197 u198 u199 u200 u201 u202 u203 hzg SS hMg HSS2 hSl z139 z141 z142 z143 z144
  go_wp2_with fail
  go_loopg [17, 33, 34] n (fun gk bad v i wx => ∃ (k : Nat) (z : Int), k + gk = n ∧ i = .int .u32 k ∧ bad = .int .i64 0 ∧ v = .int .u64 z ∧ RunMem pr n w1 wx kb gb ⟨appL pr c g SS n k, c, g⟩)
  case atStart => exact ⟨0, 0, by omega, rfl, rfl, rfl, by rw [appL_zero _ _ _ _ _ hSl]; exact hMg⟩
  case round =>
    obtain ⟨k, z, hk, rfl, rfl, rfl, hMx⟩ := hrel
    clear hMg
    by_cases hlt5 : k < n
    · have hk0 : (k : Int) < (n : Int) := by omega
      have hk1 : (0 : Int) ≤ (k : Int) := Int.natCast_nonneg _
      have hkw : IntKind.u32.wrap ((k : Int) + 1) = (k : Int) + 1 := by rw [IntKind.wrap_u32]; omega
      have hst : stAt (appL pr c g SS n k) k = stAt SS k := by rw [appL_at _ _ _ _ _ _ _ hlt5, if_neg (Nat.lt_irrefl _)]
      have hset := appL_set pr c g SS n k hlt5
      generalize appL pr c g SS n k = LL at *
      generalize stAt SS k = sk at *
      have HST := Lib.hid hst
      have HSET := Lib.hid hset
      clear hset hst
      have hLl : LL.length = n := hMx.len
      have hcx : w1.heap.size + 1 < wr.heap.size := hMx.c.lt
      have hgx : gb < wr.heap.size := hMx.g.lt
      have hsx : w1.heap.size < wr.heap.size := by omega
      have hkx : kb < wr.heap.size := hMx.k.lt
      have hprx : wr.cell? ⟨pb, 0, none⟩ = some I := by rw [hMx.bel.cell (p := ⟨pb, 0, none⟩) hpb1]; exact hp1
      have hp3 : pb < wr.heap.size := by omega
      obtain ⟨q0, q1, q2, q3⟩ := hMx.c.ct
      obtain ⟨g0, g1, g2, g3, g4, g5, g6, g7⟩ := hMx.g.st
      have s0 : wr.cell? ⟨w1.heap.size, k * 8, none⟩ = some (.int .u64 sk.a0) := by rw [hMx.own.cellAt _ (by omega), ← HST.out, stAt_get LL k (by omega)]; exact (stCells_get LL k (by omega)).1
      have s1 : wr.cell? ⟨w1.heap.size, k * 8 + 1, none⟩ = some (.int .u64 sk.a1) := by rw [hMx.own.cellAt _ (by omega), ← HST.out, stAt_get LL k (by omega)]; exact (stCells_get LL k (by omega)).2.1
      have s2 : wr.cell? ⟨w1.heap.size, k * 8 + 2, none⟩ = some (.int .u64 sk.a2) := by rw [hMx.own.cellAt _ (by omega), ← HST.out, stAt_get LL k (by omega)]; exact (stCells_get LL k (by omega)).2.2.1
      have s3 : wr.cell? ⟨w1.heap.size, k * 8 + 3, none⟩ = some (.int .u64 sk.a3) := by rw [hMx.own.cellAt _ (by omega), ← HST.out, stAt_get LL k (by omega)]; exact (stCells_get LL k (by omega)).2.2.2.1
      have s4 : wr.cell? ⟨w1.heap.size, k * 8 + 4, none⟩ = some (.int .u64 sk.a4) := by rw [hMx.own.cellAt _ (by omega), ← HST.out, stAt_get LL k (by omega)]; exact (stCells_get LL k (by omega)).2.2.2.2.1
      have s5 : wr.cell? ⟨w1.heap.size, k * 8 + 5, none⟩ = some (.int .u64 sk.a5) := by rw [hMx.own.cellAt _ (by omega), ← HST.out, stAt_get LL k (by omega)]; exact (stCells_get LL k (by omega)).2.2.2.2.2.1
      have s6 : wr.cell? ⟨w1.heap.size, k * 8 + 6, none⟩ = some (.int .u64 sk.a6) := by rw [hMx.own.cellAt _ (by omega), ← HST.out, stAt_get LL k (by omega)]; exact (stCells_get LL k (by omega)).2.2.2.2.2.2.1
      have s7 : wr.cell? ⟨w1.heap.size, k * 8 + 7, none⟩ = some (.int .u64 sk.a7) := by rw [hMx.own.cellAt _ (by omega), ← HST.out, stAt_get LL k (by omega)]; exact (stCells_get LL k (by omega)).2.2.2.2.2.2.2
      go_upto_region 41 with fail
      go_cut [35, 36, 37] (fun p ch er wx => ∃ xb, p = .pointer (some ⟨xb, 0, none⟩) ∧ ch = .bool (pr.app c g k sk).2 ∧ er = .int .i64 0 ∧ w1.heap.size + 1 < xb ∧ kb < xb ∧ gb < xb ∧ isBlk wx xb 25 (pr.app c g k sk).1.cells ∧ RunMem pr n w1 wx kb gb ⟨LL, c, g⟩)
      case first =>
        go_region_held3 (fun wz => ∀ b o, b < wr.heap.size → wz.cell? ⟨b, o, none⟩ = wr.cell? ⟨b, o, none⟩)
          ((intro b o hb; (repeat first | rw [World.cell?_setCell_far _ _ _ _ (by first | omega | (simp; omega) | (simp; done))] | rw [cell_drew] | rw [World.cell?_alloc_past _ _ _ (by first | omega | (simp; omega) | (simp; done))] | rw [hb2.cell (p := ⟨b, o, none⟩) (by first | omega | (simp; omega) | (simp; done))]); done))
          (((with_reducible refine Calls.mono (hpr.app pb c g sk k _ ?_ hlt5) ?_); (focus (first | exact hprx | (show (wr.alloc _).cell? _ = _; rw [World.cell?_alloc_past _ _ _ hp3]; exact hprx))); rintro e w2 ⟨rfl, hb2⟩; obtain ⟨hc2, hf2⟩ := bcell hb2; have hz3 : wr.heap.size ≤ w2.heap.size := Nat.le_trans (by simp) hb2.size))
        · have hb3 : Below wr.heap.size wr w2 := Below.trans (Below.drew (Below.refl wr.heap.size wr)) hb2
          clear hc2 hf2
          go_wp2_with fail
          go_meet
          exact ⟨w2.heap.size, rfl, rfl, rfl, by omega, by omega, by omega, isBlk.new w2 25 (pr.app c g k sk).1.cells, hMx.below (Ball hz3 hb3) hcx hkx hgx⟩
        · have hb3 : Below wr.heap.size wr w2 := (Below.drew (Ball (Nat.le_refl _) (Below.refl wr.heap.size wr))).trans (hb2.mono (by simp))
          have hW5 : isBlk w2 wr.heap.size 25 St.zero.cells := (isBlk.new wr 25 St.zero.cells).drew.below hb2 (by simp)
          clear hc2 hf2
          go_wp2_with fail
          go_meet
          exact ⟨wr.heap.size, rfl, rfl, rfl, by omega, by omega, by omega, hW5.st8 _, hMx.below (below_st8 hb3 (Nat.le_refl _) _) hcx hkx hgx⟩
      case rest =>
        obtain ⟨xb, rfl, rfl, rfl, hxc, hxk, hxg, hXB, hMy⟩ := hcut
        clear hMx q0 q1 q2 q3 g0 g1 g2 g3 g4 g5 g6 g7 s0 s1 s2 s3 s4 s5 s6 s7 hprx hcx hgx hkx hsx hp3
        obtain ⟨x0, x1, x2, x3, x4, x5, x6, x7⟩ := hXB.st
        have hff : ∀ j, wc.frozen? ⟨w1.heap.size, j, none⟩ = false := fun j => hMy.own.frozenAt j
        have hxs : ¬ xb = w1.heap.size := by omega
        have s0 : wc.cell? ⟨w1.heap.size, k * 8, none⟩ = some (.int .u64 sk.a0) := by rw [hMy.own.cellAt _ (by omega), ← HST.out, stAt_get LL k (by omega)]; exact (stCells_get LL k (by omega)).1
        have s1 : wc.cell? ⟨w1.heap.size, k * 8 + 1, none⟩ = some (.int .u64 sk.a1) := by rw [hMy.own.cellAt _ (by omega), ← HST.out, stAt_get LL k (by omega)]; exact (stCells_get LL k (by omega)).2.1
        have s2 : wc.cell? ⟨w1.heap.size, k * 8 + 2, none⟩ = some (.int .u64 sk.a2) := by rw [hMy.own.cellAt _ (by omega), ← HST.out, stAt_get LL k (by omega)]; exact (stCells_get LL k (by omega)).2.2.1
        have s3 : wc.cell? ⟨w1.heap.size, k * 8 + 3, none⟩ = some (.int .u64 sk.a3) := by rw [hMy.own.cellAt _ (by omega), ← HST.out, stAt_get LL k (by omega)]; exact (stCells_get LL k (by omega)).2.2.2.1
        have s4 : wc.cell? ⟨w1.heap.size, k * 8 + 4, none⟩ = some (.int .u64 sk.a4) := by rw [hMy.own.cellAt _ (by omega), ← HST.out, stAt_get LL k (by omega)]; exact (stCells_get LL k (by omega)).2.2.2.2.1
        have s5 : wc.cell? ⟨w1.heap.size, k * 8 + 5, none⟩ = some (.int .u64 sk.a5) := by rw [hMy.own.cellAt _ (by omega), ← HST.out, stAt_get LL k (by omega)]; exact (stCells_get LL k (by omega)).2.2.2.2.2.1
        have s6 : wc.cell? ⟨w1.heap.size, k * 8 + 6, none⟩ = some (.int .u64 sk.a6) := by rw [hMy.own.cellAt _ (by omega), ← HST.out, stAt_get LL k (by omega)]; exact (stCells_get LL k (by omega)).2.2.2.2.2.2.1
        have s7 : wc.cell? ⟨w1.heap.size, k * 8 + 7, none⟩ = some (.int .u64 sk.a7) := by rw [hMy.own.cellAt _ (by omega), ← HST.out, stAt_get LL k (by omega)]; exact (stCells_get LL k (by omega)).2.2.2.2.2.2.2
        cases hch : (pr.app c g k sk).2
        · have HCH := Lib.hid hch
          clear hch
          go_wp2_with (first | (go_at_call 45; refine (worse_ok 0 rfl _).mono ?_; rintro e w3 ⟨rfl, rfl⟩))
          go_roundg (gk - 1)
          case measure => omega
          case rel =>
            have h := hMy.store8 k hlt5 (by omega) (by omega) (pr.app c g k sk).1
            rw [HSET.out] at h
            exact ⟨k + 1, _, by omega, by go_num, rfl, rfl, h⟩
        · have HCH := Lib.hid hch
          clear hch
          go_wp2_with (first | (go_at_call 45; refine (worse_ok 0 rfl _).mono ?_; rintro e w3 ⟨rfl, rfl⟩))
          go_roundg (gk - 1)
          case measure => omega
          case rel =>
            have h := hMy.store8 k hlt5 (by omega) (by omega) (pr.app c g k sk).1
            rw [HSET.out] at h
            exact ⟨k + 1, _, by omega, by go_num, rfl, rfl, h⟩
    · have hke : k = n := by omega
      rw [hke] at hMx
      go_wp2
      go_meet
      exact ⟨rfl, ⟨z, rfl⟩, hMx⟩

end Go.Proofs.Ytjmggfpomnnegaa
