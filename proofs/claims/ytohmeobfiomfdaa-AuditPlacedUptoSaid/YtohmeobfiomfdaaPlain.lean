/-
  Plain facts: the least broken rule, the closures of an audit of strong components, its ring. No program in sight.
-/
import Derived.Test.YtohmeobfiomfdaaScc3
namespace Go.Proofs.Ytohmeobfiomfdaa
open Go.RowKit
set_option maxRecDepth 100000

/-- The least vertex with a rule that is broken, and its least rule. -/
def Least (f : Fd) (B : Nat → Nat → Prop) : Prop :=
  (f.r = 0 ∧ ∀ v r, ¬ B v r) ∨ (f.r ≠ 0 ∧ B f.v f.r ∧ ∀ v r, B v r → f.v < v ∨ (f.v = v ∧ f.r ≤ r))

theorem Least.none : Least ⟨0, 0⟩ (fun _ _ => False) := Or.inl ⟨rfl, fun _ _ h => h⟩
theorem Least.congr {f : Fd} {B B' : Nat → Nat → Prop} (h : Least f B) (e : ∀ v r, B v r ↔ B' v r) : Least f B' := by
  rcases h with ⟨h1, h2⟩ | ⟨h1, h2, h3⟩
  · exact Or.inl ⟨h1, fun v r hb => h2 v r ((e v r).2 hb)⟩
  · exact Or.inr ⟨h1, (e _ _).1 h2, fun v r hb => h3 v r ((e v r).2 hb)⟩
theorem Least.noted {f : Fd} {B : Nat → Nat → Prop} (h : Least f B) (v r : Nat) (is : Bool) (hr : r ≠ 0) : Least (noted f v r is) (fun a b => B a b ∨ (is = true ∧ a = v ∧ b = r)) := by
  unfold Ytohmeobfiomfdaa.noted
  split
  · rename_i hc
    obtain ⟨hi, hc⟩ := hc
    refine Or.inr ⟨hr, Or.inr ⟨hi, rfl, rfl⟩, ?_⟩
    rintro a b (hb | ⟨_, rfl, rfl⟩)
    · rcases h with ⟨h1, h2⟩ | ⟨h1, h2, h3⟩
      · exact absurd hb (h2 a b)
      · have := h3 a b hb
        simp only []
        omega
    · exact Or.inr ⟨rfl, Nat.le_refl _⟩
  · rename_i hc
    by_cases hi : is = true
    · rcases h with ⟨h1, h2⟩ | ⟨h1, h2, h3⟩
      · exact absurd ⟨hi, Or.inl h1⟩ hc
      · refine Or.inr ⟨h1, Or.inl h2, ?_⟩
        rintro a b (hb | ⟨_, rfl, rfl⟩)
        · exact h3 a b hb
        · have : ¬ (f.r = 0 ∨ a < f.v ∨ a = f.v ∧ b < f.r) := fun h => hc ⟨hi, h⟩
          omega
    · exact h.congr (fun a b => ⟨Or.inl, fun h => h.elim id (fun h => absurd h.1 hi)⟩)
theorem Least.unique {f g : Fd} {B B' : Nat → Nat → Prop} (h : Least f B) (h' : Least g B') (e : ∀ v r, B v r ↔ B' v r) : verdC 0 f = verdC 0 g := by
  have h2 := h.congr e
  have hv : ∀ f : Fd, verdC 0 f = if f.r = 0 then #[.bool true, .int .u32 0, .int .i64 0] else #[.bool false, .int .u32 f.v, .int .i64 f.r] := fun f => by
    unfold verdC; rw [if_neg (by simp)]
  rw [hv, hv]
  rcases h2 with ⟨a1, a2⟩ | ⟨a1, a2, a3⟩
  · rcases h' with ⟨b1, b2⟩ | ⟨b1, b2, b3⟩
    · rw [if_pos a1, if_pos b1]
    · exact absurd b2 (a2 _ _)
  · rcases h' with ⟨b1, b2⟩ | ⟨b1, b2, b3⟩
    · exact absurd a2 (b2 _ _)
    · rw [if_neg a1, if_neg b1]
      have x1 := a3 _ _ b2
      have x2 := b3 _ _ a2
      obtain ⟨fv, fr⟩ := f
      obtain ⟨gv, gr⟩ := g
      simp only [] at x1 x2
      obtain rfl : fv = gv := by omega
      obtain rfl : fr = gr := by omega
      rfl
/-- A rule noted at all vertices in turn. -/
def notedK (f : Fd) (r : Nat) (p : Nat → Bool) : Nat → Fd
  | 0 => f
  | k + 1 => noted (notedK f r p k) k r (p k)
theorem Least.notedK {f : Fd} {B : Nat → Nat → Prop} (h : Least f B) (r : Nat) (p : Nat → Bool) (hr : r ≠ 0) : ∀ n, Least (notedK f r p n) (fun a b => B a b ∨ (p a = true ∧ a < n ∧ b = r))
  | 0 => h.congr (fun a b => ⟨Or.inl, fun h => h.elim id (fun h => absurd h.2.1 (Nat.not_lt_zero _))⟩)
  | n + 1 => (Least.noted (Least.notedK h r p hr n) n r (p n) hr).congr (fun a b => by
      constructor
      · rintro ((h | ⟨h1, h2, h3⟩) | ⟨h1, rfl, h3⟩)
        · exact Or.inl h
        · exact Or.inr ⟨h1, by omega, h3⟩
        · exact Or.inr ⟨h1, by omega, h3⟩
      · rintro (h | ⟨h1, h2, h3⟩)
        · exact Or.inl (Or.inl h)
        · by_cases e : a = n
          · exact Or.inr ⟨e ▸ h1, e, h3⟩
          · exact Or.inl (Or.inr ⟨h1, by omega, h3⟩))

theorem getD_set (l : List Nat) (i j v : Nat) : (l.set i v).getD j 0 = if i = j ∧ j < l.length then v else l.getD j 0 := by
  rw [List.getD_eq_getElem?_getD, List.getD_eq_getElem?_getD, List.getElem?_set]
  by_cases h : i = j
  · subst h
    by_cases h2 : i < l.length
    · simp [h2]
    · simp [h2]
  · simp [h]

/-- Some of the words at zero. -/
def zap (l : List Nat) (o n : Nat) : List Nat := l.mapIdx fun j x => if o ≤ j ∧ j < o + n then 0 else x
theorem zap_len (l : List Nat) (o n : Nat) : (zap l o n).length = l.length := by simp [zap]
theorem zap_get (l : List Nat) (o n j : Nat) : (zap l o n).getD j 0 = if o ≤ j ∧ j < o + n then 0 else l.getD j 0 := by
  unfold zap
  rw [List.getD_eq_getElem?_getD, List.getD_eq_getElem?_getD, List.getElem?_mapIdx]
  cases l[j]? with
  | none => simp
  | some x => simp

/-- How many of the first words are zero. -/
def zeros (l : List Nat) : Nat → Nat
  | 0 => 0
  | n + 1 => zeros l n + if l.getD n 0 = 0 then 1 else 0
theorem zeros_mono {l l' : List Nat} : ∀ {n : Nat}, (∀ b, b < n → l'.getD b 0 = 0 → l.getD b 0 = 0) → zeros l' n ≤ zeros l n
  | 0, _ => Nat.le_refl _
  | n + 1, h => by
    have ih := zeros_mono (l := l) (l' := l') (n := n) (fun b hb => h b (by omega))
    unfold zeros
    by_cases h1 : l'.getD n 0 = 0
    · rw [if_pos h1, if_pos (h n (by omega) h1)]; omega
    · rw [if_neg h1]; omega
theorem zeros_lt {l l' : List Nat} : ∀ {n : Nat}, (∀ b, b < n → l'.getD b 0 = 0 → l.getD b 0 = 0) → (∃ v, v < n ∧ l.getD v 0 = 0 ∧ l'.getD v 0 ≠ 0) → zeros l' n < zeros l n
  | 0, _, ⟨v, hv, _⟩ => absurd hv (Nat.not_lt_zero _)
  | n + 1, h, ⟨v, hv, h1, h2⟩ => by
    have ih0 := zeros_mono (l := l) (l' := l') (n := n) (fun b hb => h b (by omega))
    unfold zeros
    by_cases e : v = n
    · subst e
      rw [if_pos h1, if_neg h2]; omega
    · have ih := zeros_lt (l := l) (l' := l') (n := n) (fun b hb => h b (by omega)) ⟨v, by omega, h1, h2⟩
      by_cases h3 : l'.getD n 0 = 0
      · rw [if_pos h3, if_pos (h n (by omega) h3)]; omega
      · rw [if_neg h3]; omega

/-! ### The ring -/

theorem ledL_len (ss : List St) (n : Nat) (e : Ed) (l : List Nat) : (ledL ss n e l).length = l.length := by
  unfold ledL; split <;> simp
theorem ledL_get (ss : List St) (n : Nat) (e : Ed) (l : List Nat) (j : Nat) (hd : n + lab ss e.dst < l.length) :
    (ledL ss n e l).getD j 0 = if (lab ss e.src ≠ lab ss e.dst ∧ l.getD (lab ss e.src) 0 = 0) ∧ n + lab ss e.dst = j then 1 else l.getD j 0 := by
  unfold ledL
  split
  · rename_i h
    rw [getD_set]
    by_cases e1 : n + lab ss e.dst = j
    · rw [if_pos ⟨e1, by omega⟩, if_pos ⟨h, e1⟩]
    · rw [if_neg (fun h => e1 h.1), if_neg (fun h => e1 h.2)]
  · rename_i h
    rw [if_neg (fun x => h x.1)]

theorem led_fold (ss : List St) (n : Nat) : ∀ (es : List Ed) (l : List Nat), (∀ e, e ∈ es → lab ss e.src < n ∧ lab ss e.dst < n) → n + n ≤ l.length →
    (es.foldl (fun l e => ledL ss n e l) l).length = l.length ∧
    (∀ j, j < n ∨ n + n ≤ j → (es.foldl (fun l e => ledL ss n e l) l).getD j 0 = l.getD j 0) ∧
    (∀ b, b < n → ((es.foldl (fun l e => ledL ss n e l) l).getD (n + b) 0 = 0 ↔ (l.getD (n + b) 0 = 0 ∧ ¬ ∃ e, e ∈ es ∧ lab ss e.src ≠ lab ss e.dst ∧ lab ss e.dst = b ∧ l.getD (lab ss e.src) 0 = 0)))
  | [], l, _, _ => ⟨rfl, fun _ _ => rfl, fun b hb => by simp⟩
  | e :: es, l, hv, hl => by
    obtain ⟨h1, h2⟩ := hv e (by simp)
    have hg := fun j => ledL_get ss n e l j (by omega)
    obtain ⟨a1, a2, a3⟩ := led_fold ss n es (ledL ss n e l) (fun e he => hv e (by simp [he])) (by rw [ledL_len]; exact hl)
    have hs : ∀ j, j < n → (ledL ss n e l).getD j 0 = l.getD j 0 := fun j hj => by rw [hg, if_neg (fun h => by omega)]
    refine ⟨a1.trans (ledL_len ss n e l), fun j hj => ?_, fun b hb => ?_⟩
    · rw [List.foldl_cons, a2 j hj, hg, if_neg (fun h => by omega)]
    · rw [List.foldl_cons, a3 b hb, hg]
      constructor
      · rintro ⟨x1, x2⟩
        by_cases hc : (lab ss e.src ≠ lab ss e.dst ∧ l.getD (lab ss e.src) 0 = 0) ∧ n + lab ss e.dst = n + b
        · rw [if_pos hc] at x1; cases x1
        · rw [if_neg hc] at x1
          refine ⟨x1, ?_⟩
          rintro ⟨e', he', y1, y2, y3⟩
          rcases List.mem_cons.1 he' with rfl | he'
          · exact hc ⟨⟨y1, y3⟩, by omega⟩
          · exact x2 ⟨e', he', y1, y2, by rw [hs _ (hv e' (by simp [he'])).1]; exact y3⟩
      · rintro ⟨x1, x2⟩
        rw [if_neg (fun h => x2 ⟨e, by simp, h.1.1, by omega, h.1.2⟩)]
        refine ⟨x1, ?_⟩
        rintro ⟨e', he', y1, y2, y3⟩
        rw [hs _ (hv e' (by simp [he'])).1] at y3
        exact x2 ⟨e', by simp [he'], y1, y2, y3⟩

/-- One go over the vertices of the ring. -/
def goneK (ss : List St) (n : Nat) (l : List Nat) : Nat → List Nat × Bool
  | 0 => (l, false)
  | k + 1 => if (goneK ss n l k).1.getD k 0 = 0 ∧ (goneK ss n l k).1.getD (n + k) 0 = 0 then ((goneK ss n l k).1.set k 1, (goneK ss n l k).2 || lab ss k == k) else goneK ss n l k

theorem goneK_facts (ss : List St) (n : Nat) (l : List Nat) (hl : n + n ≤ l.length) : ∀ k, k ≤ n →
    (goneK ss n l k).1.length = l.length ∧
    (∀ j, (goneK ss n l k).1.getD j 0 = if j < k ∧ l.getD j 0 = 0 ∧ l.getD (n + j) 0 = 0 then 1 else l.getD j 0) ∧
    ((goneK ss n l k).2 = true ↔ ∃ v, v < k ∧ l.getD v 0 = 0 ∧ l.getD (n + v) 0 = 0 ∧ lab ss v = v)
  | 0, _ => ⟨rfl, fun j => by simp [goneK], by simp [goneK]⟩
  | k + 1, hk => by
    obtain ⟨a1, a2, a3⟩ := goneK_facts ss n l hl k (by omega)
    have e1 : (goneK ss n l k).1.getD k 0 = l.getD k 0 := by rw [a2, if_neg (by omega)]
    have e2 : (goneK ss n l k).1.getD (n + k) 0 = l.getD (n + k) 0 := by rw [a2, if_neg (by omega)]
    unfold goneK
    rw [e1, e2]
    by_cases hc : l.getD k 0 = 0 ∧ l.getD (n + k) 0 = 0
    · rw [if_pos hc]
      refine ⟨by rw [List.length_set]; exact a1, fun j => ?_, ?_⟩
      · simp only []
        rw [getD_set, a1, a2]
        by_cases hj : k = j
        · subst hj
          rw [if_pos ⟨rfl, by omega⟩, if_pos ⟨by omega, hc⟩]
        · rw [if_neg (fun h => hj h.1)]
          by_cases hd : j < k ∧ l.getD j 0 = 0 ∧ l.getD (n + j) 0 = 0
          · rw [if_pos hd, if_pos ⟨by omega, hd.2⟩]
          · rw [if_neg hd, if_neg (fun h => hd ⟨by omega, h.2⟩)]
      · simp only [Bool.or_eq_true, beq_iff_eq]
        rw [a3]
        constructor
        · rintro (⟨v, h1, h2⟩ | h)
          · exact ⟨v, by omega, h2⟩
          · exact ⟨k, by omega, hc.1, hc.2, h⟩
        · rintro ⟨v, h1, h2, h3, h4⟩
          by_cases hv : v = k
          · subst hv; exact Or.inr h4
          · exact Or.inl ⟨v, by omega, h2, h3, h4⟩
    · rw [if_neg hc]
      refine ⟨a1, fun j => ?_, ?_⟩
      · rw [a2]
        by_cases hd : j < k ∧ l.getD j 0 = 0 ∧ l.getD (n + j) 0 = 0
        · rw [if_pos hd, if_pos ⟨by omega, hd.2⟩]
        · rw [if_neg hd, if_neg]
          rintro ⟨h1, h2⟩
          by_cases hj : j = k
          · subst hj; exact hc h2
          · exact hd ⟨by omega, h2⟩
      · rw [a3]
        constructor
        · rintro ⟨v, h1, h2⟩
          exact ⟨v, by omega, h2⟩
        · rintro ⟨v, h1, h2, h3, h4⟩
          by_cases hv : v = k
          · subst hv; exact absurd ⟨h2, h3⟩ hc
          · exact ⟨v, by omega, h2, h3, h4⟩

/-- A set of labels each of which an edge leads to from another one of it. -/
def Closed (ss : List St) (es : List Ed) (S : Nat → Prop) : Prop := ∀ b, S b → ∃ e, e ∈ es ∧ lab ss e.src ≠ lab ss e.dst ∧ lab ss e.dst = b ∧ S (lab ss e.src)
/-- On, or behind, a way round. -/
def InKnot (ss : List St) (es : List Ed) (b : Nat) : Prop := ∃ S, Closed ss es S ∧ S b
def KInv (ss : List St) (es : List Ed) (n : Nat) (l : List Nat) : Prop := ∀ b, b < n → InKnot ss es b → l.getD b 0 = 0
def ringRound (ss : List St) (es : List Ed) (n : Nat) (l : List Nat) : List Nat × Bool := goneK ss n (es.foldl (fun l e => ledL ss n e l) (zap l n n)) n

theorem ring_round {ss : List St} {es : List Ed} {n : Nat} {l : List Nat} (hv : ∀ e, e ∈ es → Valid n e) (hl : ∀ v, v < n → lab ss v < n ∧ lab ss (lab ss v) = lab ss v) (h2 : n + n ≤ l.length) (hK : KInv ss es n l) :
    (ringRound ss es n l).1.length = l.length ∧ (∀ j, n + n ≤ j → (ringRound ss es n l).1.getD j 0 = l.getD j 0) ∧ KInv ss es n (ringRound ss es n l).1 ∧
    ((ringRound ss es n l).2 = true → zeros (ringRound ss es n l).1 n < zeros l n) ∧ zeros (ringRound ss es n l).1 n ≤ zeros l n ∧
    ((ringRound ss es n l).2 = false → Closed ss es (fun b => b < n ∧ (ringRound ss es n l).1.getD b 0 = 0)) := by
  have hv' : ∀ e, e ∈ es → lab ss e.src < n ∧ lab ss e.dst < n := fun e he => ⟨(hl _ (hv e he).1).1, (hl _ (hv e he).2).1⟩
  obtain ⟨a1, a2, a3⟩ := led_fold ss n es (zap l n n) hv' (by rw [zap_len]; exact h2)
  obtain ⟨b1, b2, b3⟩ := goneK_facts ss n (es.foldl (fun l e => ledL ss n e l) (zap l n n)) (by rw [a1, zap_len]; exact h2) n (Nat.le_refl _)
  have z1 : ∀ j, j < n ∨ n + n ≤ j → (es.foldl (fun l e => ledL ss n e l) (zap l n n)).getD j 0 = l.getD j 0 := fun j hj => by
    rw [a2 j hj, zap_get, if_neg (by omega)]
  have z2 : ∀ b, b < n → ((es.foldl (fun l e => ledL ss n e l) (zap l n n)).getD (n + b) 0 = 0 ↔ ¬ ∃ e, e ∈ es ∧ lab ss e.src ≠ lab ss e.dst ∧ lab ss e.dst = b ∧ l.getD (lab ss e.src) 0 = 0) := fun b hb => by
    have h0 : (zap l n n).getD (n + b) 0 = 0 := by rw [zap_get, if_pos (by omega)]
    rw [a3 b hb]
    have : ∀ e, e ∈ es → (zap l n n).getD (lab ss e.src) 0 = l.getD (lab ss e.src) 0 := fun e he => by rw [zap_get, if_neg (by have := (hv' e he).1; omega)]
    constructor
    · rintro ⟨_, h⟩ ⟨e, he, x1, x2, x3⟩
      exact h ⟨e, he, x1, x2, by rw [this e he]; exact x3⟩
    · intro h
      refine ⟨h0, ?_⟩
      rintro ⟨e, he, x1, x2, x3⟩
      exact h ⟨e, he, x1, x2, by rw [← this e he]; exact x3⟩
  generalize hL : es.foldl (fun l e => ledL ss n e l) (zap l n n) = L at *
  have hrr : ringRound ss es n l = goneK ss n L n := by unfold ringRound; rw [hL]
  rw [hrr]
  generalize goneK ss n L n = G at *
  have g1 : ∀ b, b < n → (G.1.getD b 0 = 0 ↔ l.getD b 0 = 0 ∧ L.getD (n + b) 0 ≠ 0) := fun b hb => by
    rw [b2]
    by_cases hc : b < n ∧ L.getD b 0 = 0 ∧ L.getD (n + b) 0 = 0
    · rw [if_pos hc]; exact ⟨fun h => absurd h (by decide), fun h => absurd hc.2.2 h.2⟩
    · rw [if_neg hc, z1 b (Or.inl hb)]
      constructor
      · intro h
        exact ⟨h, fun h3 => hc ⟨hb, by rw [z1 b (Or.inl hb)]; exact h, h3⟩⟩
      · exact fun h => h.1
  have hmono : ∀ b, b < n → G.1.getD b 0 = 0 → l.getD b 0 = 0 := fun b hb h => ((g1 b hb).1 h).1
  refine ⟨by rw [b1, a1, zap_len], fun j hj => ?_, ?_, ?_, zeros_mono hmono, ?_⟩
  · rw [b2, if_neg (by omega), z1 j (Or.inr hj)]
  · rintro b hb ⟨S, hS, hSb⟩
    rw [g1 b hb]
    refine ⟨hK b hb ⟨S, hS, hSb⟩, fun h => ?_⟩
    rw [z2 b hb] at h
    obtain ⟨e, he, x1, x2, x3⟩ := hS b hSb
    exact h ⟨e, he, x1, x2, hK _ (hv' e he).1 ⟨S, hS, x3⟩⟩
  · intro h
    obtain ⟨v, v1, v2, v3, v4⟩ := b3.1 h
    rw [z1 v (Or.inl v1)] at v2
    refine zeros_lt hmono ⟨v, v1, v2, fun hg => ?_⟩
    exact ((g1 v v1).1 hg).2 v3
  · rintro h b ⟨hb, hbz⟩
    obtain ⟨x1, x2⟩ := (g1 b hb).1 hbz
    rw [Ne, z2 b hb, Classical.not_not] at x2
    obtain ⟨e, he, y1, y2, y3⟩ := x2
    obtain ⟨w1, w2⟩ := hl _ (hv e he).1
    refine ⟨e, he, y1, y2, w1, ?_⟩
    rw [g1 _ w1]
    refine ⟨y3, fun h3 => ?_⟩
    have : G.2 = true := b3.2 ⟨_, w1, by rw [z1 _ (Or.inl w1)]; exact y3, h3, w2⟩
    rw [this] at h
    cases h

/-! ### The closures -/

inductive Fwd (ss : List St) (es : List Ed) (n : Nat) : Nat → Prop
  | root (v : Nat) (hv : v < n) (h : lab ss v = v) : Fwd ss es n v
  | step (e : Ed) (he : e ∈ es) (hl : lab ss e.src = lab ss e.dst) (h : Fwd ss es n e.src) : Fwd ss es n e.dst
inductive Bwd (ss : List St) (es : List Ed) (n : Nat) : Nat → Prop
  | root (v : Nat) (hv : v < n) (h : lab ss v = v) : Bwd ss es n v
  | step (e : Ed) (he : e ∈ es) (hl : lab ss e.src = lab ss e.dst) (h : Bwd ss es n e.dst) : Bwd ss es n e.src

structure SInv (ss : List St) (es : List Ed) (n : Nat) (l : List Nat) : Prop where
  len : n + n ≤ l.length
  le : ∀ j, j < n + n → l.getD j 0 ≤ 1
  f : ∀ v, v < n → l.getD v 0 = 1 → Fwd ss es n v
  b : ∀ v, v < n → l.getD (n + v) 0 = 1 → Bwd ss es n v
  rf : ∀ v, v < n → lab ss v = v → l.getD v 0 = 1
  rb : ∀ v, v < n → lab ss v = v → l.getD (n + v) 0 = 1

theorem stepL_get {ss : List St} {n : Nat} {e : Ed} {l : List Nat} (hv : Valid n e) (hl : n + n ≤ l.length) (j : Nat) :
    (stepL ss n e l).getD j 0 = if lab ss e.src = lab ss e.dst ∧ ((j = e.dst ∧ l.getD e.dst 0 < l.getD e.src 0) ∨ (j = n + e.src ∧ l.getD (n + e.src) 0 < l.getD (n + e.dst) 0)) then 1 else l.getD j 0 := by
  obtain ⟨v1, v2⟩ := hv
  unfold stepL
  by_cases h : lab ss e.src = lab ss e.dst
  · rw [if_pos h]
    dsimp only
    by_cases h1 : l.getD e.dst 0 < l.getD e.src 0
    · rw [if_pos h1]
      by_cases h2 : l.getD (n + e.src) 0 < l.getD (n + e.dst) 0
      · rw [if_pos h2, getD_set, getD_set, List.length_set]
        by_cases c1 : n + e.src = j
        · rw [if_pos ⟨c1, by omega⟩, if_pos ⟨h, Or.inr ⟨c1.symm, h2⟩⟩]
        · rw [if_neg (fun h => c1 h.1)]
          by_cases c2 : e.dst = j
          · rw [if_pos ⟨c2, by omega⟩, if_pos ⟨h, Or.inl ⟨c2.symm, h1⟩⟩]
          · rw [if_neg (fun h => c2 h.1), if_neg (fun h => h.2.elim (fun h => c2 h.1.symm) (fun h => c1 h.1.symm))]
      · rw [if_neg h2, getD_set]
        by_cases c2 : e.dst = j
        · rw [if_pos ⟨c2, by omega⟩, if_pos ⟨h, Or.inl ⟨c2.symm, h1⟩⟩]
        · rw [if_neg (fun h => c2 h.1), if_neg (fun h => h.2.elim (fun h => c2 h.1.symm) (fun h => h2 h.2))]
    · rw [if_neg h1]
      by_cases h2 : l.getD (n + e.src) 0 < l.getD (n + e.dst) 0
      · rw [if_pos h2, getD_set]
        by_cases c1 : n + e.src = j
        · rw [if_pos ⟨c1, by omega⟩, if_pos ⟨h, Or.inr ⟨c1.symm, h2⟩⟩]
        · rw [if_neg (fun h => c1 h.1), if_neg (fun h => h.2.elim (fun h => h1 h.2) (fun h => c1 h.1.symm))]
      · rw [if_neg h2, if_neg (fun h => h.2.elim (fun h => h1 h.2) (fun h => h2 h.2))]
  · rw [if_neg h, if_neg (fun x => h x.1)]

theorem SInv.step {ss : List St} {es : List Ed} {n : Nat} {l : List Nat} (h : SInv ss es n l) {e : Ed} (he : e ∈ es) (hv : Valid n e) : SInv ss es n (stepL ss n e l) ∧ (∀ j, n + n ≤ j → (stepL ss n e l).getD j 0 = l.getD j 0) ∧ (∀ j, j < n + n → (stepL ss n e l).getD j 0 = 0 → l.getD j 0 = 0) ∧
    ((lab ss e.src = lab ss e.dst ∧ (l.getD e.dst 0 < l.getD e.src 0 ∨ l.getD (n + e.src) 0 < l.getD (n + e.dst) 0)) → ∃ v, v < n + n ∧ l.getD v 0 = 0 ∧ (stepL ss n e l).getD v 0 ≠ 0) ∧
    (¬ (lab ss e.src = lab ss e.dst ∧ (l.getD e.dst 0 < l.getD e.src 0 ∨ l.getD (n + e.src) 0 < l.getD (n + e.dst) 0)) → stepL ss n e l = l) := by
  obtain ⟨v1, v2⟩ := hv
  have hg := stepL_get (ss := ss) (e := e) (l := l) ⟨v1, v2⟩ h.len
  refine ⟨⟨by rw [stepL_len]; exact h.len, fun j hj => ?_, fun v hvn hv1 => ?_, fun v hvn hv1 => ?_, fun v hvn hv1 => ?_, fun v hvn hv1 => ?_⟩, fun j hj => ?_, fun j hj hz => ?_, fun hc => ?_, fun hc => ?_⟩
  · rw [hg]; split
    · exact Nat.le_refl _
    · exact h.le j hj
  · rw [hg] at hv1
    split at hv1
    · rename_i hc
      rcases hc with ⟨hc1, ⟨rfl, hc2⟩ | ⟨hc2, _⟩⟩
      · have hs := h.le e.src (by omega)
        exact Fwd.step e he hc1 (h.f _ v1 (by omega))
      · omega
    · exact h.f v hvn hv1
  · rw [hg] at hv1
    split at hv1
    · rename_i hc
      rcases hc with ⟨hc1, ⟨hc2, _⟩ | ⟨hc2, hc3⟩⟩
      · omega
      · obtain rfl : v = e.src := by omega
        have hs := h.le (n + e.dst) (by omega)
        exact Bwd.step e he hc1 (h.b _ v2 (by omega))
    · exact h.b v hvn hv1
  · rw [hg]; split
    · rfl
    · exact h.rf v hvn hv1
  · rw [hg]; split
    · rfl
    · exact h.rb v hvn hv1
  · rw [hg, if_neg (fun hc => hc.2.elim (fun h => by omega) (fun h => by omega))]
  · rw [hg] at hz
    split at hz
    · cases hz
    · exact hz
  · obtain ⟨c1, c2 | c2⟩ := hc
    · have hs := h.le e.src (by omega)
      exact ⟨e.dst, by omega, by omega, by rw [hg, if_pos ⟨c1, Or.inl ⟨rfl, c2⟩⟩]; decide⟩
    · have hs := h.le (n + e.dst) (by omega)
      exact ⟨n + e.src, by omega, by omega, by rw [hg, if_pos ⟨c1, Or.inr ⟨rfl, c2⟩⟩]; decide⟩
  · unfold stepL
    by_cases h1 : lab ss e.src = lab ss e.dst
    · rw [if_pos h1]
      dsimp only
      rw [if_neg (fun x => hc ⟨h1, Or.inl x⟩), if_neg (fun x => hc ⟨h1, Or.inr x⟩)]
    · rw [if_neg h1]

theorem stepG_true {ss : List St} {n : Nat} {e : Ed} {l : List Nat} {g : Bool} : stepG ss n e l g = true ↔ g = true ∨ (lab ss e.src = lab ss e.dst ∧ (l.getD e.dst 0 < l.getD e.src 0 ∨ l.getD (n + e.src) 0 < l.getD (n + e.dst) 0)) := by
  unfold stepG
  by_cases h : lab ss e.src = lab ss e.dst
  · rw [if_pos h]; simp [h, or_assoc]
  · rw [if_neg h]; simp [h]

/-- Going over all edges once. -/
def passL (ss : List St) (n : Nat) : List Ed → List Nat → Bool → List Nat × Bool
  | [], l, g => (l, g)
  | e :: es, l, g => passL ss n es (stepL ss n e l) (stepG ss n e l g)
theorem passL_snoc (ss : List St) (n : Nat) (e : Ed) : ∀ (p : List Ed) (l : List Nat) (g : Bool), passL ss n (p ++ [e]) l g = (stepL ss n e (passL ss n p l g).1, stepG ss n e (passL ss n p l g).1 (passL ss n p l g).2)
  | [], _, _ => rfl
  | _ :: p, _, _ => passL_snoc ss n e p _ _
theorem passL_len (ss : List St) (n : Nat) : ∀ (p : List Ed) (l : List Nat) (g : Bool), (passL ss n p l g).1.length = l.length
  | [], _, _ => rfl
  | e :: p, l, _ => (passL_len ss n p _ _).trans (stepL_len ss n e l)

theorem SInv.pass {ss : List St} {es : List Ed} {n : Nat} : ∀ (p : List Ed) (l : List Nat) (g : Bool), SInv ss es n l → (∀ e, e ∈ p → e ∈ es ∧ Valid n e) →
    SInv ss es n (passL ss n p l g).1 ∧ (∀ j, n + n ≤ j → (passL ss n p l g).1.getD j 0 = l.getD j 0) ∧ (∀ j, j < n + n → (passL ss n p l g).1.getD j 0 = 0 → l.getD j 0 = 0) ∧
    ((passL ss n p l g).2 = true → g = true ∨ zeros (passL ss n p l g).1 (n + n) < zeros l (n + n)) ∧
    ((passL ss n p l g).2 = false → (passL ss n p l g).1 = l ∧ ∀ e, e ∈ p → ¬ (lab ss e.src = lab ss e.dst ∧ (l.getD e.dst 0 < l.getD e.src 0 ∨ l.getD (n + e.src) 0 < l.getD (n + e.dst) 0)))
  | [], _, _, h, _ => ⟨h, fun _ _ => rfl, fun _ _ h => h, fun h => Or.inl h, fun _ => ⟨rfl, fun e he => absurd he (by simp)⟩⟩
  | e :: p, l, g, h, hp => by
    obtain ⟨s1, s2, s3, s4, s5⟩ := h.step (hp e (by simp)).1 (hp e (by simp)).2
    obtain ⟨a1, a2, a3, a4, a5⟩ := SInv.pass p (stepL ss n e l) (stepG ss n e l g) s1 (fun e he => hp e (by simp [he]))
    refine ⟨a1, fun j hj => (a2 j hj).trans (s2 j hj), fun j hj hz => s3 j hj (a3 j hj hz), fun ht => ?_, fun hf => ?_⟩
    · have hz := zeros_mono (n := n + n) s3
      rcases a4 ht with h1 | h1
      · rcases stepG_true.1 h1 with h2 | h2
        · exact Or.inl h2
        · refine Or.inr (Nat.lt_of_le_of_lt (zeros_mono a3) (zeros_lt s3 (s4 h2)))
      · exact Or.inr (Nat.lt_of_lt_of_le h1 hz)
    · obtain ⟨b1, b2⟩ := a5 hf
      have hg : ¬ (lab ss e.src = lab ss e.dst ∧ (l.getD e.dst 0 < l.getD e.src 0 ∨ l.getD (n + e.src) 0 < l.getD (n + e.dst) 0)) := by
        intro hc
        have hne : (passL ss n p (stepL ss n e l) (stepG ss n e l g)).2 = true := by
          rw [stepG_true.2 (Or.inr hc)]
          clear b1 b2 hf a5 a4 a3 a2 a1
          generalize stepL ss n e l = l1
          clear s1 s2 s3 s4 s5 hp
          induction p generalizing l1 with
          | nil => rfl
          | cons x p ih => unfold passL; rw [stepG_true.2 (Or.inl rfl)]; exact ih _
        exact absurd (hf.symm.trans hne) (by decide)
      have hl := s5 hg
      refine ⟨(show (passL ss n (e :: p) l g).1 = _ from b1).trans hl, fun x hx => ?_⟩
      rcases List.mem_cons.1 hx with rfl | hx
      · exact hg
      · have := b2 x hx
        rwa [hl] at this

/-- What is left when nothing is turned any more: the closures. -/
theorem SInv.done {ss : List St} {es : List Ed} {n : Nat} {l : List Nat} (h : SInv ss es n l) (hv : ∀ e, e ∈ es → Valid n e)
    (hc : ∀ e, e ∈ es → ¬ (lab ss e.src = lab ss e.dst ∧ (l.getD e.dst 0 < l.getD e.src 0 ∨ l.getD (n + e.src) 0 < l.getD (n + e.dst) 0))) :
    (∀ v, v < n → (l.getD v 0 = 1 ↔ Fwd ss es n v)) ∧ (∀ v, v < n → (l.getD (n + v) 0 = 1 ↔ Bwd ss es n v)) := by
  have h1 : ∀ v, Fwd ss es n v → v < n ∧ l.getD v 0 = 1 := by
    intro v hf
    induction hf with
    | root v hv' hr => exact ⟨hv', h.rf v hv' hr⟩
    | step e he hl _ ih =>
      have hd := (hv e he).2
      have := hc e he
      have h3 := h.le e.dst (by omega)
      refine ⟨hd, ?_⟩
      have : ¬ l.getD e.dst 0 < l.getD e.src 0 := fun x => this ⟨hl, Or.inl x⟩
      omega
  have h2 : ∀ v, Bwd ss es n v → v < n ∧ l.getD (n + v) 0 = 1 := by
    intro v hf
    induction hf with
    | root v hv' hr => exact ⟨hv', h.rb v hv' hr⟩
    | step e he hl _ ih =>
      have hd := (hv e he).1
      have := hc e he
      have h3 := h.le (n + e.src) (by omega)
      refine ⟨hd, ?_⟩
      have : ¬ l.getD (n + e.src) 0 < l.getD (n + e.dst) 0 := fun x => this ⟨hl, Or.inr x⟩
      omega
  exact ⟨fun v hvn => ⟨h.f v hvn, fun x => (h1 v x).2⟩, fun v hvn => ⟨h.b v hvn, fun x => (h2 v x).2⟩⟩

end Go.Proofs.Ytohmeobfiomfdaa
