/-
  The desk of an audit: what is found.
-/
import Derived.Test.YtohmeobfiomfdaaBase
namespace Go.Proofs.Ytohmeobfiomfdaa
open Go.RowKit
set_option maxRecDepth 100000

structure Fd where
  v : Nat
  r : Nat
/-- What a desk bears besides what is found. -/
structure Dk where
  n : Nat
  fv : Value
  sl : Value
def Dk.cells (d : Dk) (f : Fd) : List Value := [.int .u32 d.n, .int .i64 0, d.fv, d.sl, .bool false, .int .u32 f.v, .int .i64 f.r]
/-- The least vertex, and the least rule of it. -/
def noted (f : Fd) (v r : Nat) (is : Bool) : Fd := if is = true ∧ (f.r = 0 ∨ v < f.v ∨ v = f.v ∧ r < f.r) then ⟨v, r⟩ else f

theorem desk_set {w : World} {db : Nat} {d : Dk} {f : Fd} (h : isBlk w db 75 (d.cells f)) (v r : Nat) :
    isBlk (((w.setCell ⟨db, 4, none⟩ (.bool false)).setCell ⟨db, 5, none⟩ (.int .u32 v)).setCell ⟨db, 6, none⟩ (.int .i64 r)) db 75 (d.cells ⟨v, r⟩) ∧
      Chg (fun j => j = db) w (((w.setCell ⟨db, 4, none⟩ (.bool false)).setCell ⟨db, 5, none⟩ (.int .u32 v)).setCell ⟨db, 6, none⟩ (.int .i64 r)) :=
  ⟨((h.set 4 _).set 5 _).set 6 _, (((Chg.refl (fun j => j = db) w).set (p := ⟨db, 4, none⟩) (Or.inl rfl) _).set (p := ⟨db, 5, none⟩) (Or.inl rfl) _).set (p := ⟨db, 6, none⟩) (Or.inl rfl) _⟩

set_option maxHeartbeats 1000000 in
theorem broken_any (db : Nat) (d : Dk) (f : Fd) (v r : Nat) (is : Bool) (w : World) (h : isBlk w db 75 (d.cells f)) :
    Calls Try.prog 34 #[.pointer (some ⟨db, 0, none⟩), .int .u32 v, .int .i64 r, .bool is] w fun e w' => (∃ x, e = .returned x) ∧ isBlk w' db 75 (d.cells (noted f v r is)) ∧ Chg (fun j => j = db) w w' := by
  have c4 : w.cell? ⟨db, 4, none⟩ = some (.bool false) := h.cell 4
  have c5 : w.cell? ⟨db, 5, none⟩ = some (.int .u32 f.v) := h.cell 5
  have c6 : w.cell? ⟨db, 6, none⟩ = some (.int .i64 f.r) := h.cell 6
  have f4 := h.frozen 4
  have f5 := h.frozen 5
  have f6 := h.frozen 6
  have hyes := desk_set h v r
  have hno : isBlk w db 75 (d.cells f) ∧ Chg (fun j => j = db) w w := ⟨h, Chg.refl _ w⟩
  have HY := Lib.hid hyes
  have HN := Lib.hid hno
  clear hyes hno h
  obtain ⟨fv, fr⟩ := f
  simp only [] at c5 c6
  cases is
  · have hn : noted ⟨fv, fr⟩ v r false = ⟨fv, fr⟩ := by unfold noted; rw [if_neg (by simp)]
    rw [hn]
    clear hn
    go_enter Try.func34, Try.ntmps34
    go_wp2
    go_end0
    exact ⟨⟨_, rfl⟩, HN.out⟩
  · by_cases h1 : fr = 0
    · have hn : noted ⟨fv, fr⟩ v r true = ⟨v, r⟩ := by unfold noted; rw [if_pos ⟨rfl, Or.inl h1⟩]
      rw [hn]
      clear hn
      subst h1
      go_enter Try.func34, Try.ntmps34
      go_wp2
      go_end0
      exact ⟨⟨_, rfl⟩, HY.out⟩
    · have h1' : ((fr : Int) == 0) = false := by rw [beq_eq_false_iff_ne]; omega
      by_cases h2 : v < fv
      · have hn : noted ⟨fv, fr⟩ v r true = ⟨v, r⟩ := by unfold noted; rw [if_pos ⟨rfl, Or.inr (Or.inl h2)⟩]
        rw [hn]
        have h2' : (v : Int) < fv := by omega
        clear hn h1 h2
        go_enter Try.func34, Try.ntmps34
        go_wp2
        go_end0
        exact ⟨⟨_, rfl⟩, HY.out⟩
      · have h2' : ¬ (v : Int) < fv := by omega
        by_cases h3 : v = fv
        · have h3' : ((v : Int) == fv) = true := by rw [beq_iff_eq]; omega
          by_cases h4 : r < fr
          · have hn : noted ⟨fv, fr⟩ v r true = ⟨v, r⟩ := by unfold noted; rw [if_pos ⟨rfl, Or.inr (Or.inr ⟨h3, h4⟩)⟩]
            rw [hn]
            have h4' : (r : Int) < fr := by omega
            clear hn h1 h2 h3 h4
            go_enter Try.func34, Try.ntmps34
            go_wp2
            go_end0
            exact ⟨⟨_, rfl⟩, HY.out⟩
          · have hn : noted ⟨fv, fr⟩ v r true = ⟨fv, fr⟩ := by
              unfold noted; rw [if_neg]; rintro ⟨_, a | a | a⟩
              · exact h1 a
              · exact h2 a
              · exact h4 a.2
            rw [hn]
            have h4' : ¬ (r : Int) < fr := by omega
            clear hn h1 h2 h3 h4
            go_enter Try.func34, Try.ntmps34
            go_wp2
            go_end0
            exact ⟨⟨_, rfl⟩, HN.out⟩
        · have h3' : ((v : Int) == fv) = false := by rw [beq_eq_false_iff_ne]; omega
          have hn : noted ⟨fv, fr⟩ v r true = ⟨fv, fr⟩ := by
            unfold noted; rw [if_neg]; rintro ⟨_, a | a | a⟩
            · exact h1 a
            · exact h2 a
            · exact h3 a.1
          rw [hn]
          clear hn h1 h2 h3
          go_enter Try.func34, Try.ntmps34
          go_wp2
          go_end0
          exact ⟨⟨_, rfl⟩, HN.out⟩

/-- The verdict's cells. -/
def verdC (e : Nat) (f : Fd) : Array Value := if e ≠ 0 then #[.bool false, .int .u32 0, .int .i64 0] else if f.r = 0 then #[.bool true, .int .u32 0, .int .i64 0] else #[.bool false, .int .u32 f.v, .int .i64 f.r]

set_option maxHeartbeats 1000000 in
theorem verdict_any (db : Nat) (d : Dk) (f : Fd) (er : Nat) (w : World) (h : isBlk w db 75 (d.cells f)) :
    Calls Try.prog 37 #[.pointer (some ⟨db, 0, none⟩), .int .i64 er] w fun e w' => e = .returned (.tuple #[.agg (verdC er f), .int .i64 er]) ∧ Below w.heap.size w w' := by
  have hl := h.lt
  have c4 : w.cell? ⟨db, 4, none⟩ = some (.bool false) := h.cell 4
  have c5 : w.cell? ⟨db, 5, none⟩ = some (.int .u32 f.v) := h.cell 5
  have c6 : w.cell? ⟨db, 6, none⟩ = some (.int .i64 f.r) := h.cell 6
  clear h
  obtain ⟨fv, fr⟩ := f
  simp only [] at c5 c6
  have hne : ¬ db = w.heap.size := by omega
  have hne2 : ¬ w.heap.size = db := by omega
  by_cases h0 : er = 0
  · subst h0
    by_cases h1 : fr = 0
    · have hv : verdC 0 ⟨fv, fr⟩ = #[.bool true, .int .u32 0, .int .i64 0] := by unfold verdC; rw [if_neg (by simp), if_pos h1]
      rw [hv]
      clear hv
      subst h1
      go_enter Try.func37, Try.ntmps37
      go_wp2
      refine bodyPost_ret (v := .tuple #[.agg #[.bool true, .int .u32 0, .int .i64 0], .int .i64 0]) (by simp (maxDischargeDepth := 8) [results, Try.results37, go_sem]) rfl ⟨rfl, (by repeat (first | with_reducible exact Below.refl _ _ | with_reducible assumption | with_reducible refine below_drewN ?_ _ | with_reducible refine Below.drew ?_ | ((with_reducible refine Bset ?_ ?_); focus (first | omega | (simp; done) | (simp; omega))) | ((with_reducible refine Ball ?_ ?_); focus (first | omega | (simp; done) | (simp; omega)))))⟩
    · have hv : verdC 0 ⟨fv, fr⟩ = #[.bool false, .int .u32 fv, .int .i64 fr] := by unfold verdC; rw [if_neg (by simp), if_neg h1]
      rw [hv]
      clear hv
      have h1' : ((fr : Int) == 0) = false := by rw [beq_eq_false_iff_ne]; omega
      clear h1
      go_enter Try.func37, Try.ntmps37
      go_wp2
      refine bodyPost_ret (v := .tuple #[.agg #[.bool false, .int .u32 fv, .int .i64 fr], .int .i64 0]) (by simp (maxDischargeDepth := 8) [results, Try.results37, go_sem]) rfl ⟨rfl, (by repeat (first | with_reducible exact Below.refl _ _ | with_reducible assumption | with_reducible refine below_drewN ?_ _ | with_reducible refine Below.drew ?_ | ((with_reducible refine Bset ?_ ?_); focus (first | omega | (simp; done) | (simp; omega))) | ((with_reducible refine Ball ?_ ?_); focus (first | omega | (simp; done) | (simp; omega)))))⟩
  · have hv : verdC er ⟨fv, fr⟩ = #[.bool false, .int .u32 0, .int .i64 0] := by unfold verdC; rw [if_pos h0]
    rw [hv]
    clear hv
    have h0' : ((er : Int) != 0) = true := by rw [bne_iff_ne]; omega
    clear h0
    go_enter Try.func37, Try.ntmps37
    go_wp2
    refine bodyPost_ret (v := .tuple #[.agg #[.bool false, .int .u32 0, .int .i64 0], .int .i64 er]) (by simp (maxDischargeDepth := 8) [results, Try.results37, go_sem]) rfl ⟨rfl, (by repeat (first | with_reducible exact Below.refl _ _ | with_reducible assumption | with_reducible refine below_drewN ?_ _ | with_reducible refine Below.drew ?_ | ((with_reducible refine Bset ?_ ?_); focus (first | omega | (simp; done) | (simp; omega))) | ((with_reducible refine Ball ?_ ?_); focus (first | omega | (simp; done) | (simp; omega)))))⟩

theorem weighs_any (db : Nat) (d : Dk) (f : Fd) (x : Int) (w : World) (h : isBlk w db 75 (d.cells f)) : Calls Try.prog 65 #[.pointer (some ⟨db, 0, none⟩), .int .u32 x] w fun e w' => e = .returned (.bool true) ∧ w = w' := by
  have c1 : w.cell? ⟨db, 1, none⟩ = some (.int .i64 0) := h.cell 1
  clear h
  go_enter Try.func65, Try.ntmps65
  go_wp2
  go_ret
  exact ⟨rfl, rfl⟩

end Go.Proofs.Ytohmeobfiomfdaa
