/-
  What is asked of an audit, opened: edges, states, the case.
-/
import Derived.Test.YtohmeobfiomfdaaRows
import Derived.Test.YtohmeobfiomfdaaEach
import Derived.Deep.Slices
import Derived.ChangeSame
import Derived.OpenShut
namespace Go.Proofs.Ytohmeobfiomfdaa
open Go.RowKit Go.ChangeShapes Go.WideShapes
set_option maxRecDepth 100000

theorem bulk_pos {H : Type} (d : DataW H) : 1 ≤ Rows.uptoBulk d := by
  cases d with
  | lit l => cases l <;> simp [Rows.uptoBulk]
  | _ => simp [Rows.uptoBulk]
theorem bulk_len {H : Type} (l : List (DataW H)) : l.length ≤ Rows.uptoBulkAll l := by
  induction l with
  | nil => simp [Rows.uptoBulkAll]
  | cons d l ih => have := bulk_pos d; simp only [Rows.uptoBulkAll, List.length_cons]; omega
theorem bulk_mem {H : Type} (l : List (DataW H)) (d : DataW H) (h : d ∈ l) : Rows.uptoBulk d ≤ Rows.uptoBulkAll l := by
  induction l with
  | nil => simp at h
  | cons x l ih =>
    simp only [Rows.uptoBulkAll]
    rcases List.mem_cons.1 h with rfl | h
    · omega
    · have := ih h; omega

theorem edges_of {H : Type} {enc : TypeId × Value → H} {W : World} {spare : Nat → Bool} {v : Value} {fuel : Nat} {x : DataW H × List MemPlace} (htr : DataW.trod enc Try.prog W 0 spare true fuel 24 [v] = some x) :
    ∃ (a : Option Addr) (cap eb eo : Nat) (es : List Ed), v = .slice a es.length cap ∧ IsEds W a eb eo es ∧ es.length ≤ Rows.uptoBulk x.1 := by
  rcases Deep.open_slice Try.underlying24 htr with ⟨hcs, _⟩ | ⟨a, l0, c0, m, n, D, Pl, hcs, hb, hl, hm, hmm, hx, hi⟩
  · cases hcs
    exact ⟨none, 0, 0, 0, [], rfl, ⟨fun h => absurd h (Nat.lt_irrefl 0), fun h => absurd h (Nat.lt_irrefl 0), fun j hj => absurd hj (Nat.not_lt_zero j), fun j hj => absurd hj (Nat.not_lt_zero j), fun j hj => absurd hj (Nat.not_lt_zero j)⟩, Nat.zero_le _⟩
  · cases hcs
    have hlm : l0 ≤ m := by rw [hmm]; split <;> omega
    have hc3 : Try.prog.cellsOf 71 = 3 := by kernel_rfl
    have hc1 : Try.prog.cellsOf 22 = 1 := by kernel_rfl
    have each : ∀ i, i < l0 → ∃ e : Ed, W.cell? (a.add (i * 3)) = some (.int .u32 e.src) ∧ W.cell? (a.add (i * 3 + 1)) = some (.int .u32 e.dst) ∧ W.cell? (a.add (i * 3 + 2)) = some (.int .u32 e.w) := by
      intro i hi'
      obtain ⟨cs, h1, h2⟩ := hi i (by omega)
      rw [hc3] at h1
      obtain ⟨_, hlen, hat⟩ := World.cells?_some h1
      obtain ⟨xs, n', _, _, _, hxl, hfl⟩ := DataW.trod_struct Try.underlying71 h2
      match cs, hlen, xs, hxl with
      | [y0, y1, y2], _, [x0, x1, x2], _ =>
        have g0 := hfl 0 _ rfl
        have g1 := hfl 1 _ rfl
        have g2 := hfl 2 _ rfl
        simp [hc1] at g0 g1 g2
        obtain ⟨z0, e0, _, w0⟩ := DataW.trod_int Try.underlying22 g0
        obtain ⟨z1, e1, _, w1⟩ := DataW.trod_int Try.underlying22 g1
        obtain ⟨z2, e2, _, w2⟩ := DataW.trod_int Try.underlying22 g2
        simp at e0 e1 e2
        subst e0 e1 e2
        have b0 : 0 ≤ z0 ∧ z0 ≤ 4294967295 := by simpa [Lit.wf, IntKind.min, IntKind.max, IntKind.signed, IntKind.bits] using w0
        have b1 : 0 ≤ z1 ∧ z1 ≤ 4294967295 := by simpa [Lit.wf, IntKind.min, IntKind.max, IntKind.signed, IntKind.bits] using w1
        have b2 : 0 ≤ z2 ∧ z2 ≤ 4294967295 := by simpa [Lit.wf, IntKind.min, IntKind.max, IntKind.signed, IntKind.bits] using w2
        have t0 := hat 0 (by omega)
        have t1 := hat 1 (by omega)
        have t2 := hat 2 (by omega)
        rw [Deep.add_add] at t0 t1 t2
        refine ⟨⟨z0.toNat, z1.toNat, z2.toNat⟩, ?_, ?_, ?_⟩
        · show _ = some (Value.int .u32 (z0.toNat : Int))
          rw [Int.toNat_of_nonneg b0.1]; exact t0
        · show _ = some (Value.int .u32 (z1.toNat : Int))
          rw [Int.toNat_of_nonneg b1.1]; exact t1
        · show _ = some (Value.int .u32 (z2.toNat : Int))
          rw [Int.toNat_of_nonneg b2.1]; exact t2
    obtain ⟨E, hE⟩ : ∃ E : Nat → Ed, ∀ i, i < l0 → W.cell? (a.add (i * 3)) = some (.int .u32 (E i).src) ∧ W.cell? (a.add (i * 3 + 1)) = some (.int .u32 (E i).dst) ∧ W.cell? (a.add (i * 3 + 2)) = some (.int .u32 (E i).w) :=
      ⟨fun i => if h : i < l0 then Classical.choose (each i h) else ⟨0, 0, 0⟩, fun i h => by simp only [dif_pos h]; exact Classical.choose_spec (each i h)⟩
    have hlen : ((List.range l0).map E).length = l0 := by simp
    have hat : ∀ j (h : j < ((List.range l0).map E).length), ((List.range l0).map E)[j] = E j := fun j h => by simp
    have hspot : 0 < l0 → a.spot = none := fun h => by
      have := World.cell?_spot (hE 0 h).1
      simpa [Addr.add] using this
    have had : 0 < l0 → ∀ j, a.add j = ⟨a.block, a.off + j, none⟩ := fun h j => by
      obtain ⟨b, o, s⟩ := a
      have := hspot h
      simp only [] at this
      subst this
      exact add_plain _ _ _
    refine ⟨some a, c0, a.block, a.off, (List.range l0).map E, by rw [hlen], ⟨?_, ?_, ?_, ?_, ?_⟩, ?_⟩
    · intro h
      rw [hlen] at h
      have := had h 0
      simp only [Addr.add, if_pos, Nat.add_zero] at this
      exact congrArg some this
    · intro h
      rw [hlen] at h
      have h1 := (hE 0 h).1
      rw [had h] at h1
      have h2 := World.block_lt_of_cell? W _ h1
      exact h2
    · intro j hj
      rw [hat j hj]; rw [hlen] at hj
      rw [← had (by omega)]; exact (hE j hj).1
    · intro j hj
      rw [hat j hj]; rw [hlen] at hj
      rw [Nat.add_assoc, ← had (by omega)]; exact (hE j hj).2.1
    · intro j hj
      rw [hat j hj]; rw [hlen] at hj
      rw [Nat.add_assoc, ← had (by omega)]; exact (hE j hj).2.2
    · rw [hx]
      have := bulk_len ((List.range l0).map D)
      simp only [Rows.uptoBulk, List.length_map, List.length_range] at this ⊢
      omega

theorem states_of {H : Type} {enc : TypeId × Value → H} {W : World} {spare : Nat → Bool} {v : Value} {fuel : Nat} {x : DataW H × List MemPlace} (htr : DataW.trod enc Try.prog W 0 spare true fuel 23 [v] = some x) :
    ∃ (a : Option Addr) (cap eb eo : Nat) (es : List St), v = .slice a es.length cap ∧ IsSts W a eb eo es ∧ es.length ≤ Rows.uptoBulk x.1 := by
  rcases Deep.open_slice Try.underlying23 htr with ⟨hcs, _⟩ | ⟨a, l0, c0, m, n, D, Pl, hcs, hb, hl, hm, hmm, hx, hi⟩
  · cases hcs
    exact ⟨none, 0, 0, 0, [], rfl, ⟨fun h => absurd h (Nat.lt_irrefl 0), fun h => absurd h (Nat.lt_irrefl 0), fun j hj => absurd hj (Nat.not_lt_zero j), fun j hj => absurd hj (Nat.not_lt_zero j), fun j hj => absurd hj (Nat.not_lt_zero j), fun j hj => absurd hj (Nat.not_lt_zero j), fun j hj => absurd hj (Nat.not_lt_zero j), fun j hj => absurd hj (Nat.not_lt_zero j), fun j hj => absurd hj (Nat.not_lt_zero j), fun j hj => absurd hj (Nat.not_lt_zero j)⟩, Nat.zero_le _⟩
  · cases hcs
    have hlm : l0 ≤ m := by rw [hmm]; split <;> omega
    have hc3 : Try.prog.cellsOf 56 = 8 := by kernel_rfl
    have hc1 : Try.prog.cellsOf 28 = 1 := by kernel_rfl
    have each : ∀ i, i < l0 → ∃ e : St, W.cell? (a.add (i * 8)) = some (.int .u64 e.a0) ∧ W.cell? (a.add (i * 8 + 1)) = some (.int .u64 e.a1) ∧ W.cell? (a.add (i * 8 + 2)) = some (.int .u64 e.a2) ∧ W.cell? (a.add (i * 8 + 3)) = some (.int .u64 e.a3) ∧ W.cell? (a.add (i * 8 + 4)) = some (.int .u64 e.a4) ∧ W.cell? (a.add (i * 8 + 5)) = some (.int .u64 e.a5) ∧ W.cell? (a.add (i * 8 + 6)) = some (.int .u64 e.a6) ∧ W.cell? (a.add (i * 8 + 7)) = some (.int .u64 e.a7) := by
      intro i hi'
      obtain ⟨cs, h1, h2⟩ := hi i (by omega)
      rw [hc3] at h1
      obtain ⟨_, hlen, hat⟩ := World.cells?_some h1
      obtain ⟨xs, n', _, _, _, hxl, hfl⟩ := DataW.trod_array Try.underlying56 h2
      match cs, hlen, xs, hxl with
      | [y0, y1, y2, y3, y4, y5, y6, y7], _, [x0, x1, x2, x3, x4, x5, x6, x7], _ =>
        have g0 := hfl 0 (by omega)
        have g1 := hfl 1 (by omega)
        have g2 := hfl 2 (by omega)
        have g3 := hfl 3 (by omega)
        have g4 := hfl 4 (by omega)
        have g5 := hfl 5 (by omega)
        have g6 := hfl 6 (by omega)
        have g7 := hfl 7 (by omega)
        simp [hc1] at g0 g1 g2 g3 g4 g5 g6 g7
        obtain ⟨z0, e0, _, w0⟩ := DataW.trod_int Try.underlying28 g0
        obtain ⟨z1, e1, _, w1⟩ := DataW.trod_int Try.underlying28 g1
        obtain ⟨z2, e2, _, w2⟩ := DataW.trod_int Try.underlying28 g2
        obtain ⟨z3, e3, _, w3⟩ := DataW.trod_int Try.underlying28 g3
        obtain ⟨z4, e4, _, w4⟩ := DataW.trod_int Try.underlying28 g4
        obtain ⟨z5, e5, _, w5⟩ := DataW.trod_int Try.underlying28 g5
        obtain ⟨z6, e6, _, w6⟩ := DataW.trod_int Try.underlying28 g6
        obtain ⟨z7, e7, _, w7⟩ := DataW.trod_int Try.underlying28 g7
        simp at e0 e1 e2 e3 e4 e5 e6 e7
        subst e0 e1 e2 e3 e4 e5 e6 e7
        have b0 : 0 ≤ z0 ∧ z0 ≤ 18446744073709551615 := by simpa [Lit.wf, IntKind.min, IntKind.max, IntKind.signed, IntKind.bits] using w0
        have b1 : 0 ≤ z1 ∧ z1 ≤ 18446744073709551615 := by simpa [Lit.wf, IntKind.min, IntKind.max, IntKind.signed, IntKind.bits] using w1
        have b2 : 0 ≤ z2 ∧ z2 ≤ 18446744073709551615 := by simpa [Lit.wf, IntKind.min, IntKind.max, IntKind.signed, IntKind.bits] using w2
        have b3 : 0 ≤ z3 ∧ z3 ≤ 18446744073709551615 := by simpa [Lit.wf, IntKind.min, IntKind.max, IntKind.signed, IntKind.bits] using w3
        have b4 : 0 ≤ z4 ∧ z4 ≤ 18446744073709551615 := by simpa [Lit.wf, IntKind.min, IntKind.max, IntKind.signed, IntKind.bits] using w4
        have b5 : 0 ≤ z5 ∧ z5 ≤ 18446744073709551615 := by simpa [Lit.wf, IntKind.min, IntKind.max, IntKind.signed, IntKind.bits] using w5
        have b6 : 0 ≤ z6 ∧ z6 ≤ 18446744073709551615 := by simpa [Lit.wf, IntKind.min, IntKind.max, IntKind.signed, IntKind.bits] using w6
        have b7 : 0 ≤ z7 ∧ z7 ≤ 18446744073709551615 := by simpa [Lit.wf, IntKind.min, IntKind.max, IntKind.signed, IntKind.bits] using w7
        have t0 := hat 0 (by omega)
        have t1 := hat 1 (by omega)
        have t2 := hat 2 (by omega)
        have t3 := hat 3 (by omega)
        have t4 := hat 4 (by omega)
        have t5 := hat 5 (by omega)
        have t6 := hat 6 (by omega)
        have t7 := hat 7 (by omega)
        rw [Deep.add_add] at t0 t1 t2 t3 t4 t5 t6 t7
        refine ⟨⟨z0.toNat, z1.toNat, z2.toNat, z3.toNat, z4.toNat, z5.toNat, z6.toNat, z7.toNat⟩, ?_, ?_, ?_, ?_, ?_, ?_, ?_, ?_⟩
        · show _ = some (Value.int .u64 (z0.toNat : Int))
          rw [Int.toNat_of_nonneg b0.1]; exact t0
        · show _ = some (Value.int .u64 (z1.toNat : Int))
          rw [Int.toNat_of_nonneg b1.1]; exact t1
        · show _ = some (Value.int .u64 (z2.toNat : Int))
          rw [Int.toNat_of_nonneg b2.1]; exact t2
        · show _ = some (Value.int .u64 (z3.toNat : Int))
          rw [Int.toNat_of_nonneg b3.1]; exact t3
        · show _ = some (Value.int .u64 (z4.toNat : Int))
          rw [Int.toNat_of_nonneg b4.1]; exact t4
        · show _ = some (Value.int .u64 (z5.toNat : Int))
          rw [Int.toNat_of_nonneg b5.1]; exact t5
        · show _ = some (Value.int .u64 (z6.toNat : Int))
          rw [Int.toNat_of_nonneg b6.1]; exact t6
        · show _ = some (Value.int .u64 (z7.toNat : Int))
          rw [Int.toNat_of_nonneg b7.1]; exact t7
    obtain ⟨E, hE⟩ : ∃ E : Nat → St, ∀ i, i < l0 → W.cell? (a.add (i * 8)) = some (.int .u64 (E i).a0) ∧ W.cell? (a.add (i * 8 + 1)) = some (.int .u64 (E i).a1) ∧ W.cell? (a.add (i * 8 + 2)) = some (.int .u64 (E i).a2) ∧ W.cell? (a.add (i * 8 + 3)) = some (.int .u64 (E i).a3) ∧ W.cell? (a.add (i * 8 + 4)) = some (.int .u64 (E i).a4) ∧ W.cell? (a.add (i * 8 + 5)) = some (.int .u64 (E i).a5) ∧ W.cell? (a.add (i * 8 + 6)) = some (.int .u64 (E i).a6) ∧ W.cell? (a.add (i * 8 + 7)) = some (.int .u64 (E i).a7) :=
      ⟨fun i => if h : i < l0 then Classical.choose (each i h) else ⟨0, 0, 0, 0, 0, 0, 0, 0⟩, fun i h => by simp only [dif_pos h]; exact Classical.choose_spec (each i h)⟩
    have hlen : ((List.range l0).map E).length = l0 := by simp
    have hat : ∀ j (h : j < ((List.range l0).map E).length), ((List.range l0).map E)[j] = E j := fun j h => by simp
    have hspot : 0 < l0 → a.spot = none := fun h => by
      have := World.cell?_spot (hE 0 h).1
      simpa [Addr.add] using this
    have had : 0 < l0 → ∀ j, a.add j = ⟨a.block, a.off + j, none⟩ := fun h j => by
      obtain ⟨b, o, s⟩ := a
      have := hspot h
      simp only [] at this
      subst this
      exact add_plain _ _ _
    refine ⟨some a, c0, a.block, a.off, (List.range l0).map E, by rw [hlen], ⟨?_, ?_, ?_, ?_, ?_, ?_, ?_, ?_, ?_, ?_⟩, ?_⟩
    · intro h
      rw [hlen] at h
      have := had h 0
      simp only [Addr.add, if_pos, Nat.add_zero] at this
      exact congrArg some this
    · intro h
      rw [hlen] at h
      have h1 := (hE 0 h).1
      rw [had h] at h1
      have h2 := World.block_lt_of_cell? W _ h1
      exact h2
    · intro j hj
      rw [hat j hj]; rw [hlen] at hj
      rw [← had (by omega)]; exact (hE j hj).1
    · intro j hj
      rw [hat j hj]; rw [hlen] at hj
      rw [Nat.add_assoc, ← had (by omega)]; exact (hE j hj).2.1
    · intro j hj
      rw [hat j hj]; rw [hlen] at hj
      rw [Nat.add_assoc, ← had (by omega)]; exact (hE j hj).2.2.1
    · intro j hj
      rw [hat j hj]; rw [hlen] at hj
      rw [Nat.add_assoc, ← had (by omega)]; exact (hE j hj).2.2.2.1
    · intro j hj
      rw [hat j hj]; rw [hlen] at hj
      rw [Nat.add_assoc, ← had (by omega)]; exact (hE j hj).2.2.2.2.1
    · intro j hj
      rw [hat j hj]; rw [hlen] at hj
      rw [Nat.add_assoc, ← had (by omega)]; exact (hE j hj).2.2.2.2.2.1
    · intro j hj
      rw [hat j hj]; rw [hlen] at hj
      rw [Nat.add_assoc, ← had (by omega)]; exact (hE j hj).2.2.2.2.2.2.1
    · intro j hj
      rw [hat j hj]; rw [hlen] at hj
      rw [Nat.add_assoc, ← had (by omega)]; exact (hE j hj).2.2.2.2.2.2.2
    · rw [hx]
      have := bulk_len ((List.range l0).map D)
      simp only [Rows.uptoBulk, List.length_map, List.length_range] at this ⊢
      omega

theorem case_of {H : Type} {enc : TypeId × Value → H} {W : World} {spare : Nat → Bool} {r : Reach} {b0 : Nat} {v : Value} {d : DataW H} {p : List MemPlace} (hv : Value.okWide Try.prog W r b0 30 v) (h : DataW.Trod enc Try.prog W 0 spare true 30 v d p) :
    ∃ (n sc eb eo sb so ec : Nat) (sa ea : Option Addr) (beh room : Int) (x5 x6 x7 x8 x9 x10 x11 x12 x13 : Value) (ss : List St) (es : List Ed), v = .agg #[.int .u32 n, .slice sa ss.length sc, .slice ea es.length ec, .int .i64 beh, .int .i64 room, x5, x6, x7, x8, x9, x10, x11, x12, x13] ∧ n ≤ 4294967295 ∧ IsSts W sa sb so ss ∧ IsEds W ea eb eo es ∧ ss.length ≤ Rows.uptoBulk d ∧ es.length ≤ Rows.uptoBulk d := by
  obtain ⟨cs, rfl, hsz⟩ := okWide_struct Try.underlying30 hv
  have hc30 : Try.prog.cellsOf 30 = 14 := by kernel_rfl
  have c22 : Try.prog.cellsOf 22 = 1 := by kernel_rfl
  have c23 : Try.prog.cellsOf 23 = 1 := by kernel_rfl
  have c24 : Try.prog.cellsOf 24 = 1 := by kernel_rfl
  have c3 : Try.prog.cellsOf 3 = 1 := by kernel_rfl
  rw [hc30] at hsz
  obtain ⟨fuel, hf⟩ := h
  obtain ⟨xs, n', _, hx, _, hxl, hfl⟩ := DataW.trod_struct Try.underlying30 hf
  obtain ⟨l⟩ := cs
  simp only [List.size_toArray] at hsz
  match l, hsz, xs, hxl with
  | [y0, y1, y2, y3, y4, y5, y6, y7, y8, y9, y10, y11, y12, y13], _, [q0, q1, q2, q3, q4, q5, q6, q7, q8, q9, q10, q11], _ =>
    have g0 := hfl 0 _ rfl
    have g1 := hfl 1 _ rfl
    have g2 := hfl 2 _ rfl
    have g3 := hfl 3 _ rfl
    have g4 := hfl 4 _ rfl
    simp [Value.cells, c22] at g0
    simp [Value.cells, c23] at g1
    simp [Value.cells, c24] at g2
    simp [Value.cells, c3] at g3 g4
    obtain ⟨z0, e0, _, w0⟩ := DataW.trod_int Try.underlying22 g0
    obtain ⟨z3, e3, _, _⟩ := DataW.trod_int Try.underlying3 g3
    obtain ⟨z4, e4, _, _⟩ := DataW.trod_int Try.underlying3 g4
    obtain ⟨sa, sc, sb, so, ss, e1, hS, hsl⟩ := states_of g1
    obtain ⟨ea, ec, eb, eo, es, e2, hE, hel⟩ := edges_of g2
    simp at e0 e3 e4
    have b0 : 0 ≤ z0 ∧ z0 ≤ 4294967295 := by simpa [Lit.wf, IntKind.min, IntKind.max, IntKind.signed, IntKind.bits] using w0
    obtain ⟨n, rfl⟩ := Int.eq_ofNat_of_zero_le b0.1
    subst e0 e1 e2 e3 e4
    have hd : d = (.agg (List.map (fun x => x.1) [q0, q1, q2, q3, q4, q5, q6, q7, q8, q9, q10, q11]) : DataW H) := congrArg Prod.fst hx
    refine ⟨n, sc, eb, eo, sb, so, ec, sa, ea, z3, z4, y5, y6, y7, y8, y9, y10, y11, y12, y13, ss, es, rfl, by omega, hS, hE, ?_, ?_⟩
    · rw [hd]
      have := bulk_mem (List.map (fun x : DataW H × List MemPlace => x.1) [q0, q1, q2, q3, q4, q5, q6, q7, q8, q9, q10, q11]) q1.1 (by simp)
      simp only [Rows.uptoBulk] at this ⊢
      omega
    · rw [hd]
      have := bulk_mem (List.map (fun x : DataW H × List MemPlace => x.1) [q0, q1, q2, q3, q4, q5, q6, q7, q8, q9, q10, q11]) q2.1 (by simp)
      simp only [Rows.uptoBulk] at this ⊢
      omega

end Go.Proofs.Ytohmeobfiomfdaa
