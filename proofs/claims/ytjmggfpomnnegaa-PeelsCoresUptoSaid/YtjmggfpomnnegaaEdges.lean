/-
  An argument that is a slice of edges, opened; how many edges the bulk allows.
-/
import Derived.Test.YtjmggfpomnnegaaRows
import Derived.Test.YtjmggfpomnnegaaEds
import Derived.Deep.Slices
import Derived.ChangeSame
import Derived.OpenShut
namespace Go.Proofs.Ytjmggfpomnnegaa
open Go.RowKit Go.ChangeShapes Go.WideShapes
set_option maxRecDepth 100000

theorem bulk_pos {H : Type} (d : DataW H) : 1 ≤ Rows.uptoBulk d := by
  cases d with
  | lit l => cases l <;> simp [Rows.uptoBulk]
  | _ => simp [Rows.uptoBulk]

theorem bulk_len {H : Type} (l : List (DataW H)) : l.length ≤ Rows.uptoBulkAll l := by
  induction l with
  | nil => simp [Rows.uptoBulkAll]
  | cons d l ih => have := bulk_pos d; simp only [Rows.uptoBulkAll, List.length_cons]; omega

theorem edges_of {H : Type} {enc : TypeId × Value → H} {W : World} {spare : Nat → Bool} {r : Reach} {b0 : Nat} {v : Value} {d : DataW H} {p : List MemPlace} (hv : Value.okWide Try.prog W r b0 71 v) (h : DataW.Trod enc Try.prog W 0 spare true 71 v d p) :
    ∃ (a : Option Addr) (cap eb eo : Nat) (es : List Ed), v = .slice a es.length cap ∧ IsEds W a eb eo es ∧ (∀ e ∈ es, e.src ≤ 4294967295 ∧ e.dst ≤ 4294967295) ∧ es.length ≤ Rows.uptoBulk d := by
  obtain ⟨a0, l0, c0, rfl⟩ := okWide_slice Try.underlying71 hv
  obtain ⟨fuel, hf⟩ := h
  rcases Deep.open_slice Try.underlying71 hf with ⟨hcs, _⟩ | ⟨a, len, cap, m, n, D, Pl, hcs, hb, hl, hm, hmm, hx, hi⟩
  · simp [Value.cells] at hcs
    obtain ⟨rfl, rfl, rfl⟩ := hcs
    exact ⟨none, 0, 0, 0, [], rfl, ⟨fun h => absurd h (Nat.lt_irrefl 0), fun h => absurd h (Nat.lt_irrefl 0), fun j hj => absurd hj (Nat.not_lt_zero j), fun j hj => absurd hj (Nat.not_lt_zero j), fun j hj => absurd hj (Nat.not_lt_zero j)⟩, by simp, Nat.zero_le _⟩
  · simp [Value.cells] at hcs
    obtain ⟨rfl, rfl, rfl⟩ := hcs
    have hlm : l0 ≤ m := by rw [hmm]; split <;> omega
    have hc3 : Try.prog.cellsOf 37 = 3 := by kernel_rfl
    have hc1 : Try.prog.cellsOf 29 = 1 := by kernel_rfl
    have each : ∀ i, i < l0 → ∃ e : Ed, W.cell? (a.add (i * 3)) = some (.int .u32 e.src) ∧ W.cell? (a.add (i * 3 + 1)) = some (.int .u32 e.dst) ∧ W.cell? (a.add (i * 3 + 2)) = some (.int .u32 e.w) ∧ e.src ≤ 4294967295 ∧ e.dst ≤ 4294967295 := by
      intro i hi'
      obtain ⟨cs, h1, h2⟩ := hi i (by omega)
      rw [hc3] at h1
      obtain ⟨_, hlen, hat⟩ := World.cells?_some h1
      obtain ⟨xs, n', _, _, _, hxl, hfl⟩ := DataW.trod_struct Try.underlying37 h2
      match cs, hlen, xs, hxl with
      | [y0, y1, y2], _, [x0, x1, x2], _ =>
        have g0 := hfl 0 _ rfl
        have g1 := hfl 1 _ rfl
        have g2 := hfl 2 _ rfl
        simp [hc1] at g0 g1 g2
        obtain ⟨z0, e0, _, w0⟩ := DataW.trod_int Try.underlying29 g0
        obtain ⟨z1, e1, _, w1⟩ := DataW.trod_int Try.underlying29 g1
        obtain ⟨z2, e2, _, w2⟩ := DataW.trod_int Try.underlying29 g2
        simp at e0 e1 e2
        subst e0 e1 e2
        have b0' : 0 ≤ z0 ∧ z0 ≤ 4294967295 := by simpa [Lit.wf, IntKind.min, IntKind.max, IntKind.signed, IntKind.bits] using w0
        have b1' : 0 ≤ z1 ∧ z1 ≤ 4294967295 := by simpa [Lit.wf, IntKind.min, IntKind.max, IntKind.signed, IntKind.bits] using w1
        have b2' : 0 ≤ z2 ∧ z2 ≤ 4294967295 := by simpa [Lit.wf, IntKind.min, IntKind.max, IntKind.signed, IntKind.bits] using w2
        have t0 := hat 0 (by omega)
        have t1 := hat 1 (by omega)
        have t2 := hat 2 (by omega)
        rw [Deep.add_add] at t0 t1 t2
        refine ⟨⟨z0.toNat, z1.toNat, z2.toNat⟩, ?_, ?_, ?_, ?_, ?_⟩
        · show _ = some (Value.int .u32 (z0.toNat : Int))
          rw [Int.toNat_of_nonneg b0'.1]; exact t0
        · show _ = some (Value.int .u32 (z1.toNat : Int))
          rw [Int.toNat_of_nonneg b1'.1]; exact t1
        · show _ = some (Value.int .u32 (z2.toNat : Int))
          rw [Int.toNat_of_nonneg b2'.1]; exact t2
        · show z0.toNat ≤ _; omega
        · show z1.toNat ≤ _; omega
    obtain ⟨E, hE⟩ : ∃ E : Nat → Ed, ∀ i, i < l0 → W.cell? (a.add (i * 3)) = some (.int .u32 (E i).src) ∧ W.cell? (a.add (i * 3 + 1)) = some (.int .u32 (E i).dst) ∧ W.cell? (a.add (i * 3 + 2)) = some (.int .u32 (E i).w) ∧ (E i).src ≤ 4294967295 ∧ (E i).dst ≤ 4294967295 :=
      ⟨fun i => if h : i < l0 then Classical.choose (each i h) else ⟨0, 0, 0⟩, fun i h => by simp only [dif_pos h]; exact Classical.choose_spec (each i h)⟩
    have hlen : ((List.range l0).map E).length = l0 := by simp
    have hat : ∀ j (h : j < ((List.range l0).map E).length), ((List.range l0).map E)[j] = E j := fun j h => by simp
    have hspot : 0 < l0 → a.spot = none := fun h => by
      have := World.cell?_spot (hE 0 h).1
      simpa [Addr.add] using this
    have had : 0 < l0 → ∀ j, a.add j = ⟨a.block, a.off + j, none⟩ := fun h j => by
      obtain ⟨b, o, s⟩ := a
      have := hspot h
      simp only [] at this
      subst this
      exact add_plain _ _ _
    refine ⟨some a, c0, a.block, a.off, (List.range l0).map E, by rw [hlen], ⟨?_, ?_, ?_, ?_, ?_⟩, ?_, ?_⟩
    · intro h
      rw [hlen] at h
      have := had h 0
      simp only [Addr.add, if_pos, Nat.add_zero] at this
      exact congrArg some this
    · intro h
      rw [hlen] at h
      have h1 := (hE 0 h).1
      rw [had h] at h1
      have h2 := World.block_lt_of_cell? W _ h1
      exact h2
    · intro j hj
      rw [hat j hj]; rw [hlen] at hj
      rw [← had (by omega)]; exact (hE j hj).1
    · intro j hj
      rw [hat j hj]; rw [hlen] at hj
      rw [Nat.add_assoc, ← had (by omega)]; exact (hE j hj).2.1
    · intro j hj
      rw [hat j hj]; rw [hlen] at hj
      rw [Nat.add_assoc, ← had (by omega)]; exact (hE j hj).2.2.1
    · intro e he
      obtain ⟨i, hi', rfl⟩ := List.mem_map.1 he
      exact (hE i (List.mem_range.1 hi')).2.2.2
    · simp only [Prod.mk.injEq] at hx
      rw [hlen, hx.1]
      have := bulk_len ((List.range l0).map D)
      simp only [Rows.uptoBulk, List.length_map, List.length_range] at this ⊢
      omega

end Go.Proofs.Ytjmggfpomnnegaa
