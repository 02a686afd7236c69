/-
  The other closures of an audit of strong components.
-/
import Derived.Test.YtohmeobfiomfdaaScc
namespace Go.Proofs.Ytohmeobfiomfdaa
open Go.RowKit
set_option maxRecDepth 100000

def lab (ss : List St) (v : Nat) : Nat := (ss.map St.a0).getD v 0
theorem lab_get {ss : List St} {v : Nat} (h : v < ss.length) : (ss[v]).a0 = lab ss v := by
  unfold lab
  rw [List.getD_eq_getElem?_getD, List.getElem?_map, List.getElem?_eq_getElem h]; rfl
theorem getD_get {l : List Nat} {v : Nat} (h : v < l.length) : l[v] = l.getD v 0 := by
  rw [List.getD_eq_getElem?_getD, List.getElem?_eq_getElem h]; rfl

/-- One edge of going on: there, back, and whether something was turned. -/
def stepL (ss : List St) (n : Nat) (e : Ed) (l : List Nat) : List Nat :=
  if lab ss e.src = lab ss e.dst then
    (let l1 := if l.getD e.dst 0 < l.getD e.src 0 then l.set e.dst 1 else l
     if l.getD (n + e.src) 0 < l.getD (n + e.dst) 0 then l1.set (n + e.src) 1 else l1)
  else l
def stepG (ss : List St) (n : Nat) (e : Ed) (l : List Nat) (g : Bool) : Bool :=
  if lab ss e.src = lab ss e.dst then g || decide (l.getD e.dst 0 < l.getD e.src 0) || decide (l.getD (n + e.src) 0 < l.getD (n + e.dst) 0) else g
theorem stepL_len (ss : List St) (n : Nat) (e : Ed) (l : List Nat) : (stepL ss n e l).length = l.length := by
  unfold stepL
  dsimp only
  repeat' split
  all_goals simp


set_option maxHeartbeats 2000000 in
theorem f36_any (pb qb tb bb ab db sb so rb n cs ct cb : Nat) (ss : List St) (d : Dk) (f : Fd) (l : List Nat) (g : Bool) (x : Ed) (w : World)
    (hE : Env w pb qb tb bb db sb so rb n cs ct cb ss) (hn : ss.length = n) (hnl : n + n ≤ l.length) (hx : Valid n x) (hl1 : l.length ≤ 5000)
    (ha : isBlk w ab 4 [.bool g]) (hab : ab ≠ db ∧ ab ≠ rb ∧ ab ≠ pb ∧ ab ≠ qb ∧ ab ≠ tb ∧ ab ≠ bb ∧ ab ≠ sb)
    (hd : isBlk w db 75 (d.cells f)) (hw : Wds w rb l) :
    Calls Try.prog 36 #[.agg #[.int .u32 x.src, .int .u32 x.dst, .int .u32 x.w], .pointer (some ⟨qb, 0, none⟩), .pointer (some ⟨tb, 0, none⟩), .pointer (some ⟨ab, 0, none⟩), .pointer (some ⟨bb, 0, none⟩)] w fun e w' =>
      (∃ x, e = .returned x) ∧ isBlk w' db 75 (d.cells f) ∧ Wds w' rb (stepL ss n x l) ∧ isBlk w' ab 4 [.bool (stepG ss n x l g)] ∧ Chg (fun j => j = rb ∨ j = ab) w w' := by
  obtain ⟨src, dst, x3⟩ := x
  obtain ⟨hx1, hx2⟩ := hx
  simp only [] at hx1 hx2 ⊢
  have hE1 := hE.keep (w' := w.alloc (.cells #[.int .u32 src, .int .u32 dst, .int .u32 x3] 71)) (fun j hj _ _ => Below.heap_alloc _ _ _ hj) (by simp)
  have hd1 := hd.old (.cells #[.int .u32 src, .int .u32 dst, .int .u32 x3] 71)
  have ha1 := ha.old (.cells #[.int .u32 src, .int .u32 dst, .int .u32 x3] 71)
  have hw1 := hw.all (.cells #[.int .u32 src, .int .u32 dst, .int .u32 x3] 71)
  have hc1 := (Chg.refl (fun j => j = rb ∨ j = ab) w).all (.cells #[.int .u32 src, .int .u32 dst, .int .u32 x3] 71)
  have x0 : (w.alloc (.cells #[.int .u32 src, .int .u32 dst, .int .u32 x3] 71)).cell? ⟨w.heap.size, 0, none⟩ = some (.int .u32 src) := (isBlk.new w 71 [.int .u32 src, .int .u32 dst, .int .u32 x3]).cell 0
  have x1 : (w.alloc (.cells #[.int .u32 src, .int .u32 dst, .int .u32 x3] 71)).cell? ⟨w.heap.size, 1, none⟩ = some (.int .u32 dst) := (isBlk.new w 71 [.int .u32 src, .int .u32 dst, .int .u32 x3]).cell 1
  have hfin : ∀ (w' : World) (l' : List Nat) (g' : Bool), isBlk w' db 75 (d.cells f) → Wds w' rb l' → isBlk w' ab 4 [.bool g'] → Chg (fun j => j = rb ∨ j = ab) w w' → l' = stepL ss n ⟨src, dst, x3⟩ l → g' = stepG ss n ⟨src, dst, x3⟩ l g → isBlk w' db 75 (d.cells f) ∧ Wds w' rb (stepL ss n ⟨src, dst, x3⟩ l) ∧ isBlk w' ab 4 [.bool (stepG ss n ⟨src, dst, x3⟩ l g)] ∧ Chg (fun j => j = rb ∨ j = ab) w w' := by
    rintro w' l' g' h1 h2 h3 h4 rfl rfl
    exact ⟨h1, h2, h3, h4⟩
  have HF := Lib.hid hfin
  go_enter Try.func36, Try.ntmps36
  go_wp2
  obtain ⟨W1, hW1⟩ : ∃ W1, w.alloc (.cells #[.int .u32 src, .int .u32 dst, .int .u32 x3] 71) = W1 := ⟨_, rfl⟩
  have hsz1 : w.heap.size < W1.heap.size := by rw [← hW1]; simp
  have hsz3 : w.heap.size ≠ rb := by have := hw.lt; omega
  have hsz4 : w.heap.size ≠ ab := by have := ha.lt; omega
  rw [hW1] at hE1 hd1 ha1 hw1 hc1 x0 x1 ⊢
  clear hW1 hE hd hw ha hfin
  have cq := hE1.q
  have ct' := hE1.t
  have cb' := hE1.b
  have bq := World.block_lt_of_cell? W1 _ cq
  have bt := World.block_lt_of_cell? W1 _ ct'
  have bb' := World.block_lt_of_cell? W1 _ cb'
  simp only [] at bq bt bb'
  have hsl := hE1.s.lt (by omega)
  have l0 := hE1.s.c0 src (by omega)
  have l1 := hE1.s.c0 dst (by omega)
  rw [lab_get (by omega : src < ss.length)] at l0
  rw [lab_get (by omega : dst < ss.length)] at l1
  have r1 := hw1.c src (by omega)
  have r2 := hw1.c dst (by omega)
  have r3 := hw1.c (n + src) (by omega)
  have r4 := hw1.c (n + dst) (by omega)
  rw [getD_get (by omega)] at r1 r2 r3 r4
  have g1 := hw1.f dst
  have g2 := hw1.f (n + src)
  have hrl := hw1.lt
  have hal := ha1.lt
  have a0 : W1.cell? ⟨ab, 0, none⟩ = some (.bool g) := ha1.cell 0
  have a1 := ha1.frozen 0
  obtain ⟨hn1, hn2⟩ := hE1.ns (by omega)
  have hnd := hE1.nd
  have hnq := hE1.nq
  have hnt := hE1.nt
  have hnb := hE1.nb
  have hsd : isBlk W1 db 75 (d.cells f) ∧ Wds W1 rb l ∧ isBlk W1 ab 4 [.bool g] ∧ Chg (fun j => j = rb ∨ j = ab) w W1 := ⟨hd1, hw1, ha1, hc1⟩
  have HS := Lib.hid hsd
  have hb1 : bb ≠ ab := fun e => hab.2.2.2.2.2.1 e.symm
  have hb2 : tb ≠ ab := fun e => hab.2.2.2.2.1 e.symm
  have hb3 : bb ≠ rb := hnb.2
  have hb4 : tb ≠ rb := hnt.2
  generalize w.heap.size = xb at *
  clear hE1 hd1 hw1 hc1 ha1 hsd hnq hnt hnb
  have hs0 : (src : Int) < n := by omega
  have hs1 : (dst : Int) < n := by omega
  have hs2 : (0 : Int) ≤ src := Int.natCast_nonneg _
  have hs3 : (0 : Int) ≤ dst := Int.natCast_nonneg _
  by_cases hl : lab ss src = lab ss dst
  · have hbl : ((lab ss src : Int) != (lab ss dst : Int)) = false := by rw [bne_eq_false_iff_eq]; omega
    have hL : ∀ (c1 c2 : Prop) [Decidable c1] [Decidable c2], c1 = (l.getD dst 0 < l.getD src 0) → c2 = (l.getD (n + src) 0 < l.getD (n + dst) 0) → stepL ss n ⟨src, dst, x3⟩ l = (if c2 then (if c1 then l.set dst 1 else l).set (n + src) 1 else (if c1 then l.set dst 1 else l)) ∧ stepG ss n ⟨src, dst, x3⟩ l g = (g || decide c1 || decide c2) := by
      intro c1 c2 _ _ h1 h2
      subst h1
      subst h2
      unfold stepL stepG
      rw [if_pos hl, if_pos hl]
      exact ⟨by dsimp only; congr, by congr⟩
    have HL := Lib.hid hL
    clear hL
    generalize lab ss src = t1 at *
    generalize lab ss dst = t2 at *
    generalize l.getD src 0 = v1 at *
    generalize l.getD dst 0 = v2 at *
    generalize l.getD (n + src) 0 = v3 at *
    generalize l.getD (n + dst) 0 = v4 at *
    by_cases h1 : v2 < v1
    · have h1' : (v2 : Int) < (v1 : Int) := by omega
      by_cases h2 : v3 < v4
      · have h2' : (v3 : Int) < (v4 : Int) := by omega
        have hfl := HL.out (v2 < v1) (v3 < v4) rfl rfl
        rw [if_pos h2, if_pos h1, decide_eq_true h1, decide_eq_true h2] at hfl
        obtain ⟨hf1, hf2⟩ := hfl
        obtain ⟨q1, q2, q3, q4⟩ := HS.out
        have q1 := (q1.other (p := ⟨rb, dst, none⟩) (v := .int .u64 (1 : Nat)) hnd).other (p := ⟨ab, 0, none⟩) (v := .bool true) (fun e => hab.1 e.symm)
        have q2 := ((q2.set (dst) 1 (by (repeat rw [List.length_set]); omega)).other (p := ⟨ab, 0, none⟩) (v := .bool true) (fun e => hab.2.1 e.symm))
        have q3 := (q3.other (p := ⟨rb, dst, none⟩) (v := .int .u64 (1 : Nat)) hab.2.1).set 0 (.bool true)
        have q4 := (q4.set (p := ⟨rb, dst, none⟩) (Or.inl (Or.inl rfl)) (.int .u64 (1 : Nat))).set (p := ⟨ab, 0, none⟩) (Or.inl (Or.inr rfl)) (.bool true)
        have q1 := (q1.other (p := ⟨rb, n + src, none⟩) (v := .int .u64 (1 : Nat)) hnd).other (p := ⟨ab, 0, none⟩) (v := .bool true) (fun e => hab.1 e.symm)
        have q2 := ((q2.set (n + src) 1 (by (repeat rw [List.length_set]); omega)).other (p := ⟨ab, 0, none⟩) (v := .bool true) (fun e => hab.2.1 e.symm))
        have q3 := (q3.other (p := ⟨rb, n + src, none⟩) (v := .int .u64 (1 : Nat)) hab.2.1).set 0 (.bool true)
        have q4 := (q4.set (p := ⟨rb, n + src, none⟩) (Or.inl (Or.inl rfl)) (.int .u64 (1 : Nat))).set (p := ⟨ab, 0, none⟩) (Or.inl (Or.inr rfl)) (.bool true)
        have q1 := q1.drawn
        have q2 := q2.drew
        have q3 := q3.drawn
        have q4 := q4.dr
        have q1 := q1.drawn
        have q2 := q2.drew
        have q3 := q3.drawn
        have q4 := q4.dr
        have q1 := q1.drawn
        have q2 := q2.drew
        have q3 := q3.drawn
        have q4 := q4.dr
        have H4 := Lib.hid (HF.out _ _ _ q1 q2 q3 q4 hf1.symm (by rw [hf2]; (try cases g) <;> rfl))
        clear q1 q2 q3 q4 HS HL hf1 hf2 HF h1 h2
        go_region_held3 (fun wz => ∀ b o, b < W1.heap.size → wz.cell? ⟨b, o, none⟩ = W1.cell? ⟨b, o, none⟩)
          ((intro b o hb; rfl))
          (fail)
        repeat (rename (∀ b o, b < W1.heap.size → World.cell? _ ⟨b, o, none⟩ = _) => hSS; clear hSS)
        go_wp2
        go_region_held3 (fun wz => ∀ b o, b < W1.heap.size → wz.cell? ⟨b, o, none⟩ = W1.cell? ⟨b, o, none⟩)
          ((intro b o hb; rfl))
          (fail)
        repeat (rename (∀ b o, b < W1.heap.size → World.cell? _ ⟨b, o, none⟩ = _) => hSS; clear hSS)
        go_upto_region 5 with fail
        go_region_held3 (fun wz => (∀ b o, b < W1.heap.size → b ≠ rb → b ≠ ab → wz.cell? ⟨b, o, none⟩ = W1.cell? ⟨b, o, none⟩) ∧ wz.cell? ⟨rb, n + src, none⟩ = some (.int .u64 v3) ∧ wz.cell? ⟨rb, n + dst, none⟩ = some (.int .u64 v4))
          ((exact ⟨fun b o hb h1 h2 => (by (repeat rw [cell_drew]); rw [World.cell?_setCell_far _ _ _ _ (by simp only []; omega), World.cell?_setCell_far _ _ _ _ (by simp only []; omega)]), (by (repeat rw [cell_drew]); rw [World.cell?_setCell_far _ _ _ _ (by simp only []; omega), World.cell?_setCell_other (h := fun e => by have := congrArg Addr.off e; simp only [] at this; omega) ..]; exact r3), (by (repeat rw [cell_drew]); rw [World.cell?_setCell_far _ _ _ _ (by simp only []; omega), World.cell?_setCell_other (h := fun e => by have := congrArg Addr.off e; simp only [] at this; omega) ..]; exact r4)⟩))
          (fail)
        repeat (rename (∀ b o, b < W1.heap.size → b ≠ rb → b ≠ ab → World.cell? _ ⟨b, o, none⟩ = _) => hSS; clear hSS)
        go_wp2
        go_end0
        exact ⟨⟨_, rfl⟩, H4.out⟩
      · have h2' : ¬ (v3 : Int) < (v4 : Int) := by omega
        have hfl := HL.out (v2 < v1) (v3 < v4) rfl rfl
        rw [if_neg h2, if_pos h1, decide_eq_true h1, decide_eq_false h2] at hfl
        obtain ⟨hf1, hf2⟩ := hfl
        obtain ⟨q1, q2, q3, q4⟩ := HS.out
        have q1 := (q1.other (p := ⟨rb, dst, none⟩) (v := .int .u64 (1 : Nat)) hnd).other (p := ⟨ab, 0, none⟩) (v := .bool true) (fun e => hab.1 e.symm)
        have q2 := ((q2.set (dst) 1 (by (repeat rw [List.length_set]); omega)).other (p := ⟨ab, 0, none⟩) (v := .bool true) (fun e => hab.2.1 e.symm))
        have q3 := (q3.other (p := ⟨rb, dst, none⟩) (v := .int .u64 (1 : Nat)) hab.2.1).set 0 (.bool true)
        have q4 := (q4.set (p := ⟨rb, dst, none⟩) (Or.inl (Or.inl rfl)) (.int .u64 (1 : Nat))).set (p := ⟨ab, 0, none⟩) (Or.inl (Or.inr rfl)) (.bool true)
        have q1 := q1.drawn
        have q2 := q2.drew
        have q3 := q3.drawn
        have q4 := q4.dr
        have q1 := q1.drawn
        have q2 := q2.drew
        have q3 := q3.drawn
        have q4 := q4.dr
        have q1 := q1.drawn
        have q2 := q2.drew
        have q3 := q3.drawn
        have q4 := q4.dr
        have H4 := Lib.hid (HF.out _ _ _ q1 q2 q3 q4 hf1.symm (by rw [hf2]; (try cases g) <;> rfl))
        clear q1 q2 q3 q4 HS HL hf1 hf2 HF h1 h2
        go_region_held3 (fun wz => ∀ b o, b < W1.heap.size → wz.cell? ⟨b, o, none⟩ = W1.cell? ⟨b, o, none⟩)
          ((intro b o hb; rfl))
          (fail)
        repeat (rename (∀ b o, b < W1.heap.size → World.cell? _ ⟨b, o, none⟩ = _) => hSS; clear hSS)
        go_wp2
        go_region_held3 (fun wz => ∀ b o, b < W1.heap.size → wz.cell? ⟨b, o, none⟩ = W1.cell? ⟨b, o, none⟩)
          ((intro b o hb; rfl))
          (fail)
        repeat (rename (∀ b o, b < W1.heap.size → World.cell? _ ⟨b, o, none⟩ = _) => hSS; clear hSS)
        go_upto_region 5 with fail
        go_region_held3 (fun wz => (∀ b o, b < W1.heap.size → b ≠ rb → b ≠ ab → wz.cell? ⟨b, o, none⟩ = W1.cell? ⟨b, o, none⟩) ∧ wz.cell? ⟨rb, n + src, none⟩ = some (.int .u64 v3) ∧ wz.cell? ⟨rb, n + dst, none⟩ = some (.int .u64 v4))
          ((exact ⟨fun b o hb h1 h2 => (by (repeat rw [cell_drew]); rw [World.cell?_setCell_far _ _ _ _ (by simp only []; omega), World.cell?_setCell_far _ _ _ _ (by simp only []; omega)]), (by (repeat rw [cell_drew]); rw [World.cell?_setCell_far _ _ _ _ (by simp only []; omega), World.cell?_setCell_other (h := fun e => by have := congrArg Addr.off e; simp only [] at this; omega) ..]; exact r3), (by (repeat rw [cell_drew]); rw [World.cell?_setCell_far _ _ _ _ (by simp only []; omega), World.cell?_setCell_other (h := fun e => by have := congrArg Addr.off e; simp only [] at this; omega) ..]; exact r4)⟩))
          (fail)
        repeat (rename (∀ b o, b < W1.heap.size → b ≠ rb → b ≠ ab → World.cell? _ ⟨b, o, none⟩ = _) => hSS; clear hSS)
        go_wp2
        go_end0
        exact ⟨⟨_, rfl⟩, H4.out⟩
    · have h1' : ¬ (v2 : Int) < (v1 : Int) := by omega
      by_cases h2 : v3 < v4
      · have h2' : (v3 : Int) < (v4 : Int) := by omega
        have hfl := HL.out (v2 < v1) (v3 < v4) rfl rfl
        rw [if_pos h2, if_neg h1, decide_eq_false h1, decide_eq_true h2] at hfl
        obtain ⟨hf1, hf2⟩ := hfl
        obtain ⟨q1, q2, q3, q4⟩ := HS.out
        have q1 := (q1.other (p := ⟨rb, n + src, none⟩) (v := .int .u64 (1 : Nat)) hnd).other (p := ⟨ab, 0, none⟩) (v := .bool true) (fun e => hab.1 e.symm)
        have q2 := ((q2.set (n + src) 1 (by (repeat rw [List.length_set]); omega)).other (p := ⟨ab, 0, none⟩) (v := .bool true) (fun e => hab.2.1 e.symm))
        have q3 := (q3.other (p := ⟨rb, n + src, none⟩) (v := .int .u64 (1 : Nat)) hab.2.1).set 0 (.bool true)
        have q4 := (q4.set (p := ⟨rb, n + src, none⟩) (Or.inl (Or.inl rfl)) (.int .u64 (1 : Nat))).set (p := ⟨ab, 0, none⟩) (Or.inl (Or.inr rfl)) (.bool true)
        have q1 := q1.drawn
        have q2 := q2.drew
        have q3 := q3.drawn
        have q4 := q4.dr
        have q1 := q1.drawn
        have q2 := q2.drew
        have q3 := q3.drawn
        have q4 := q4.dr
        have q1 := q1.drawn
        have q2 := q2.drew
        have q3 := q3.drawn
        have q4 := q4.dr
        have H4 := Lib.hid (HF.out _ _ _ q1 q2 q3 q4 hf1.symm (by rw [hf2]; (try cases g) <;> rfl))
        clear q1 q2 q3 q4 HS HL hf1 hf2 HF h1 h2
        go_region_held3 (fun wz => ∀ b o, b < W1.heap.size → wz.cell? ⟨b, o, none⟩ = W1.cell? ⟨b, o, none⟩)
          ((intro b o hb; rfl))
          (fail)
        repeat (rename (∀ b o, b < W1.heap.size → World.cell? _ ⟨b, o, none⟩ = _) => hSS; clear hSS)
        go_wp2
        go_region_held3 (fun wz => ∀ b o, b < W1.heap.size → wz.cell? ⟨b, o, none⟩ = W1.cell? ⟨b, o, none⟩)
          ((intro b o hb; rfl))
          (fail)
        repeat (rename (∀ b o, b < W1.heap.size → World.cell? _ ⟨b, o, none⟩ = _) => hSS; clear hSS)
        go_upto_region 5 with fail
        go_region_held3 (fun wz => (∀ b o, b < W1.heap.size → b ≠ rb → b ≠ ab → wz.cell? ⟨b, o, none⟩ = W1.cell? ⟨b, o, none⟩) ∧ wz.cell? ⟨rb, n + src, none⟩ = some (.int .u64 v3) ∧ wz.cell? ⟨rb, n + dst, none⟩ = some (.int .u64 v4))
          ((exact ⟨fun b o hb h1 h2 => rfl, r3, r4⟩))
          (fail)
        repeat (rename (∀ b o, b < W1.heap.size → b ≠ rb → b ≠ ab → World.cell? _ ⟨b, o, none⟩ = _) => hSS; clear hSS)
        go_wp2
        go_end0
        exact ⟨⟨_, rfl⟩, H4.out⟩
      · have h2' : ¬ (v3 : Int) < (v4 : Int) := by omega
        have hfl := HL.out (v2 < v1) (v3 < v4) rfl rfl
        rw [if_neg h2, if_neg h1, decide_eq_false h1, decide_eq_false h2] at hfl
        obtain ⟨hf1, hf2⟩ := hfl
        obtain ⟨q1, q2, q3, q4⟩ := HS.out
        have q1 := q1.drawn
        have q2 := q2.drew
        have q3 := q3.drawn
        have q4 := q4.dr
        have q1 := q1.drawn
        have q2 := q2.drew
        have q3 := q3.drawn
        have q4 := q4.dr
        have q1 := q1.drawn
        have q2 := q2.drew
        have q3 := q3.drawn
        have q4 := q4.dr
        have H4 := Lib.hid (HF.out _ _ _ q1 q2 q3 q4 hf1.symm (by rw [hf2]; (try cases g) <;> rfl))
        clear q1 q2 q3 q4 HS HL hf1 hf2 HF h1 h2
        go_region_held3 (fun wz => ∀ b o, b < W1.heap.size → wz.cell? ⟨b, o, none⟩ = W1.cell? ⟨b, o, none⟩)
          ((intro b o hb; rfl))
          (fail)
        repeat (rename (∀ b o, b < W1.heap.size → World.cell? _ ⟨b, o, none⟩ = _) => hSS; clear hSS)
        go_wp2
        go_region_held3 (fun wz => ∀ b o, b < W1.heap.size → wz.cell? ⟨b, o, none⟩ = W1.cell? ⟨b, o, none⟩)
          ((intro b o hb; rfl))
          (fail)
        repeat (rename (∀ b o, b < W1.heap.size → World.cell? _ ⟨b, o, none⟩ = _) => hSS; clear hSS)
        go_upto_region 5 with fail
        go_region_held3 (fun wz => (∀ b o, b < W1.heap.size → b ≠ rb → b ≠ ab → wz.cell? ⟨b, o, none⟩ = W1.cell? ⟨b, o, none⟩) ∧ wz.cell? ⟨rb, n + src, none⟩ = some (.int .u64 v3) ∧ wz.cell? ⟨rb, n + dst, none⟩ = some (.int .u64 v4))
          ((exact ⟨fun b o hb h1 h2 => rfl, r3, r4⟩))
          (fail)
        repeat (rename (∀ b o, b < W1.heap.size → b ≠ rb → b ≠ ab → World.cell? _ ⟨b, o, none⟩ = _) => hSS; clear hSS)
        go_wp2
        go_end0
        exact ⟨⟨_, rfl⟩, H4.out⟩
  · have hbl : ((lab ss src : Int) != (lab ss dst : Int)) = true := by rw [bne_iff_ne]; omega
    have hL : stepL ss n ⟨src, dst, x3⟩ l = l ∧ stepG ss n ⟨src, dst, x3⟩ l g = g := by
      unfold stepL stepG
      rw [if_neg hl, if_neg hl]
      exact ⟨rfl, rfl⟩
    have HL := Lib.hid hL
    clear hL
    generalize lab ss src = t1 at *
    generalize lab ss dst = t2 at *
    go_region_held3 (fun wz => ∀ b o, b < W1.heap.size → wz.cell? ⟨b, o, none⟩ = W1.cell? ⟨b, o, none⟩)
      ((intro b o hb; rfl))
      (fail)
    repeat (rename (∀ b o, b < W1.heap.size → World.cell? _ ⟨b, o, none⟩ = _) => hSS; clear hSS)
    go_wp2
    obtain ⟨q1, q2, q3, q4⟩ := HS.out
    exact bodyPost_ret (results_none rfl _ _ _) rfl ⟨⟨_, rfl⟩, HF.out _ _ _ q1.drawn q2.drew q3.drawn q4.dr HL.out.1.symm HL.out.2.symm⟩

end Go.Proofs.Ytohmeobfiomfdaa
