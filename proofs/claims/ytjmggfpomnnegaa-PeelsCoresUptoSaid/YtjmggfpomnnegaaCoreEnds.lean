/-
  Core, with no program in sight: a run of at most 2n + 1 rounds ends, and each vertex has its core number.
-/
import Derived.Test.YtjmggfpomnnegaaCoreRun
namespace Go.Proofs.Ytjmggfpomnnegaa
open Go.RowKit

/-- What a run of Core holds behind its first round; k: the level. -/
structure PInv (n : Nat) (es : List Ed) (k : Nat) (ss : List St) : Prop where
  len : ss.length = n
  stage : ∀ v, v < n → (stAt ss v).a1 ≤ 2
  zero : ∀ v, v < n → (stAt ss v).a3 = 0 ∧ (stAt ss v).a4 = 0
  left : ∀ v, v < n → (stAt ss v).a1 = 0 → (stAt ss v).a2 = dgT es (od n ss) v
  keep : ∀ T : Nat → Bool, (∀ u, T u = true → u < n ∧ k + 1 ≤ dgT es T u) → ∀ u, T u = true → (stAt ss u).a1 = 0
  low : ∀ v, v < n → (stAt ss v).a1 = 0 → inC n es k v
  right : ∀ v, v < n → (stAt ss v).a1 ≠ 0 → IsCore n es v (stAt ss v).a0

theorem opn_iff (n : Nat) (ss : List St) (u : Nat) : opn n ss u = true ↔ u < n ∧ (stAt ss u).a1 = 0 := by unfold opn; simp
theorem isD_iff (ss : List St) (u : Nat) : isD ss u = true ↔ (stAt ss u).a1 = 1 := by unfold isD; simp
theorem toD_le (es : List Ed) (D : Nat → Bool) (v : Nat) : toD es D v ≤ es.length := List.countP_le_length

theorem core_app (n : Nat) (es : List Ed) (fl : Bool) (c : Ct) (g : St) (ss : List St) (hlen : ss.length = n) (hes : ∀ e, e ∈ es → e.src < n ∧ e.dst < n) (v : Nat) (hv : v < n)
    (hz : (stAt ss v).a3 = 0 ∧ (stAt ss v).a4 = 0) :
    stAt (roundS coreP n es fl c g ss) v = ⟨(capp c.k0 c.k1 (stAt ss v).a0 (stAt ss v).a1 (leftV (stAt ss v).a2 (toD es (isD ss) v % 18446744073709551616) ((if c.k0 = 0 then 2 * loopC es v else 0) % 18446744073709551616))).1,
      (capp c.k0 c.k1 (stAt ss v).a0 (stAt ss v).a1 (leftV (stAt ss v).a2 (toD es (isD ss) v % 18446744073709551616) ((if c.k0 = 0 then 2 * loopC es v else 0) % 18446744073709551616))).2.1,
      leftV (stAt ss v).a2 (toD es (isD ss) v % 18446744073709551616) ((if c.k0 = 0 then 2 * loopC es v else 0) % 18446744073709551616), 0, 0, 0, 0, 0⟩ := by
  have hus : ∀ u, u ∈ turned fl (sends coreP c ss es) → u.t < ss.length := by
    intro u hu
    have hu : u ∈ sends coreP c ss es := by unfold turned at hu; cases fl <;> simpa using hu
    rw [hlen]; exact sends_to _ _ _ _ _ hes u hu
  obtain ⟨r0, r1, r2, r3, r4⟩ := gather_core _ ss hus v (by omega) (by omega)
  obtain ⟨sA, sB⟩ := sum_sends c ss es v
  rw [sumA_turned, sA, hz.1, Nat.zero_add] at r3
  rw [sumB_turned, sB, hz.2, Nat.zero_add] at r4
  unfold roundS
  rw [appL_at _ _ _ _ _ _ _ hv, if_pos hv]
  show (⟨(capp c.k0 c.k1 _ _ (leftV _ _ _)).1, (capp c.k0 c.k1 _ _ (leftV _ _ _)).2.1, leftV _ _ _, 0, 0, 0, 0, 0⟩ : St) = _
  rw [r0, r1, r2, r3, r4]

theorem core_round {n : Nat} {es : List Ed} (hes : ∀ e, e ∈ es → e.src < n ∧ e.dst < n) (hle : es.length ≤ 1048576) {k : Nat} {ss : List St} (hI : PInv n es k ss) (fl : Bool) (c : Ct) (hc0 : c.k0 = 1) (hc1 : c.k1 = k) (g : St) :
    PInv n es k (roundS coreP n es fl c g ss) ∧ (∀ v, v < n → (stAt (roundS coreP n es fl c g ss) v).a1 = 0 → (stAt ss v).a1 = 0 ∧ k < (stAt (roundS coreP n es fl c g ss) v).a2) ∧
      (∀ v, v < n → (stAt (roundS coreP n es fl c g ss) v).a1 = 1 → (stAt ss v).a1 = 0) ∧ (∀ v, v < n → (stAt ss v).a1 = 0 → (stAt ss v).a2 ≤ k → (stAt (roundS coreP n es fl c g ss) v).a1 = 1) := by
  have hb : ∀ v, toD es (isD ss) v < 18446744073709551616 := fun v => by have := toD_le es (isD ss) v; omega
  have hA : ∀ v, v < n → stAt (roundS coreP n es fl c g ss) v = ⟨(capp 1 k (stAt ss v).a0 (stAt ss v).a1 (leftV (stAt ss v).a2 (toD es (isD ss) v) 0)).1, (capp 1 k (stAt ss v).a0 (stAt ss v).a1 (leftV (stAt ss v).a2 (toD es (isD ss) v) 0)).2.1, leftV (stAt ss v).a2 (toD es (isD ss) v) 0, 0, 0, 0, 0, 0⟩ := by
    intro v hv
    rw [core_app n es fl c g ss hI.len hes v hv (hI.zero v hv), hc0, hc1, if_neg (by omega), Nat.mod_eq_of_lt (hb v)]
  have hdis : ∀ u, ¬ (opn n ss u = true ∧ isD ss u = true) := by
    rintro u ⟨h1, h2⟩
    rw [opn_iff] at h1
    rw [isD_iff] at h2
    omega
  have hL : ∀ v, v < n → (stAt ss v).a1 = 0 → leftV (stAt ss v).a2 (toD es (isD ss) v) 0 = dgT es (opn n ss) v ∧ dgT es (opn n ss) v ≤ (stAt ss v).a2 := by
    intro v hv h0
    have h1 := hI.left v hv h0
    have h2 := split_deg es (opn n ss) (isD ss) (od n ss) v (fun _ => rfl) hdis ((opn_iff _ _ _).2 ⟨hv, h0⟩)
    have h3 := dgT_le es (od n ss) v
    rw [leftV_eq _ _ _ (by omega) (by omega)]
    omega
  have hcase : ∀ v, v < n → ((stAt ss v).a1 ≠ 0 ∧ (stAt (roundS coreP n es fl c g ss) v).a1 = 2 ∧ (stAt (roundS coreP n es fl c g ss) v).a0 = (stAt ss v).a0) ∨
      ((stAt ss v).a1 = 0 ∧ dgT es (opn n ss) v ≤ k ∧ (stAt (roundS coreP n es fl c g ss) v).a1 = 1 ∧ (stAt (roundS coreP n es fl c g ss) v).a0 = k) ∨
      ((stAt ss v).a1 = 0 ∧ k < dgT es (opn n ss) v ∧ (stAt (roundS coreP n es fl c g ss) v).a1 = 0 ∧ (stAt (roundS coreP n es fl c g ss) v).a2 = dgT es (opn n ss) v) := by
    intro v hv
    have ha := hA v hv
    by_cases h0 : (stAt ss v).a1 = 0
    · right
      rw [(hL v hv h0).1, h0] at ha
      by_cases h1 : dgT es (opn n ss) v ≤ k
      · left
        refine ⟨h0, h1, ?_, ?_⟩
        · rw [ha]; unfold capp; rw [if_neg (by omega), if_neg (by omega), if_pos h1]
        · rw [ha]; unfold capp; rw [if_neg (by omega), if_neg (by omega), if_pos h1]
      · right
        refine ⟨h0, by omega, ?_, ?_⟩
        · rw [ha]; unfold capp; rw [if_neg (by omega), if_neg (by omega), if_neg h1]
        · rw [ha]
    · left
      refine ⟨h0, ?_, ?_⟩
      · rw [ha]; unfold capp; rw [if_pos h0]
      · rw [ha]; unfold capp; rw [if_pos h0]
  have hlen' : (roundS coreP n es fl c g ss).length = n := by unfold roundS; rw [appL_len]
  have hod : od n (roundS coreP n es fl c g ss) = opn n ss := by
    funext u
    rw [Bool.eq_iff_iff]
    unfold od
    rw [Bool.or_eq_true, opn_iff, isD_iff, opn_iff]
    by_cases hu : u < n
    · rcases hcase u hu with ⟨h0, h1, _⟩ | ⟨h0, _, h1, _⟩ | ⟨h0, _, h1, _⟩ <;> omega
    · rw [stOut _ u (by omega)]
      constructor
      · rintro (h | h)
        · exact absurd h.1 hu
        · exact absurd h (by decide)
      · intro h; exact absurd h.1 hu
  have hkeep : ∀ T : Nat → Bool, (∀ u, T u = true → u < n ∧ k + 1 ≤ dgT es T u) → ∀ u, T u = true → (stAt (roundS coreP n es fl c g ss) u).a1 = 0 := by
    intro T hT u hu
    have hun := (hT u hu).1
    have h0 := hI.keep T hT u hu
    have hmono := dgT_mono es (T := T) (U := opn n ss) (fun x hx => (opn_iff _ _ _).2 ⟨(hT x hx).1, hI.keep T hT x hx⟩) u
    have := (hT u hu).2
    rcases hcase u hun with ⟨h, _⟩ | ⟨_, h, _⟩ | ⟨_, _, h, _⟩
    · exact absurd h0 h
    · omega
    · exact h
  refine ⟨⟨hlen', ?_, ?_, ?_, hkeep, ?_, ?_⟩, ?_, ?_, ?_⟩
  · intro v hv
    rcases hcase v hv with ⟨_, h, _⟩ | ⟨_, _, h, _⟩ | ⟨_, _, h, _⟩ <;> omega
  · intro v hv; rw [hA v hv]; exact ⟨rfl, rfl⟩
  · intro v hv h
    rw [hod]
    rcases hcase v hv with ⟨_, h1, _⟩ | ⟨_, _, h1, _⟩ | ⟨_, _, _, h1⟩
    · omega
    · omega
    · exact h1
  · intro v hv h
    rcases hcase v hv with ⟨_, h1, _⟩ | ⟨_, _, h1, _⟩ | ⟨h0, _, _, _⟩
    · omega
    · omega
    · exact hI.low v hv h0
  · intro v hv h
    rcases hcase v hv with ⟨h0, _, h1⟩ | ⟨h0, _, _, h1⟩ | ⟨_, _, h1, _⟩
    · rw [h1]; exact hI.right v hv h0
    · rw [h1]
      refine ⟨hI.low v hv h0, ?_⟩
      rintro ⟨T, hTv, hT⟩
      exact h (hkeep T hT v hTv)
    · exact absurd h1 h
  · intro v hv h
    rcases hcase v hv with ⟨_, h1, _⟩ | ⟨_, _, h1, _⟩ | ⟨h0, h2, _, h1⟩
    · omega
    · omega
    · exact ⟨h0, by omega⟩
  · intro v hv h
    rcases hcase v hv with ⟨_, h1, _⟩ | ⟨h0, _, _, _⟩ | ⟨_, _, h1, _⟩
    · omega
    · exact h0
    · omega
  · intro v hv h0 h2
    have := (hL v hv h0).2
    rcases hcase v hv with ⟨h, _, _⟩ | ⟨_, _, h, _⟩ | ⟨_, h, _, _⟩
    · exact absurd h0 h
    · exact h
    · omega

/-- The level goes up when nobody has just been decided. -/
theorem core_raise {n : Nat} {es : List Ed} {k k' : Nat} {ss : List St} (hI : PInv n es k ss) (hk : k ≤ k') (hno : ∀ v, v < n → (stAt ss v).a1 ≠ 1) (hmin : ∀ v, v < n → (stAt ss v).a1 = 0 → k' ≤ (stAt ss v).a2) : PInv n es k' ss where
  len := hI.len
  stage := hI.stage
  zero := hI.zero
  left := hI.left
  keep := fun T hT => hI.keep T (fun u hu => ⟨(hT u hu).1, by have := (hT u hu).2; omega⟩)
  right := hI.right
  low := fun v hv h0 => by
    have hod : od n ss = opn n ss := by
      funext u
      have : isD ss u = false := by
        cases h : isD ss u
        · rfl
        · rw [isD_iff] at h
          by_cases hu : u < n
          · exact absurd h (hno u hu)
          · rw [stOut _ _ (by rw [hI.len]; omega)] at h; exact absurd h (by decide)
      unfold od
      rw [this, Bool.or_false]
    refine inC_of_set (L := opn n ss) (fun u hu => ?_) ((opn_iff _ _ _).2 ⟨hv, h0⟩)
    obtain ⟨h1, h2⟩ := (opn_iff _ _ _).1 hu
    refine ⟨h1, ?_⟩
    have h3 := hI.left u h1 h2
    rw [hod] at h3
    rw [← h3]; exact hmin u h1 h2

theorem core_first {n : Nat} {es : List Ed} (hes : ∀ e, e ∈ es → e.src < n ∧ e.dst < n) (hle : es.length ≤ 1048576) (fl : Bool) (g : St) :
    PInv n es 0 (roundS coreP n es fl Ct.zero g (startL coreP (degs n es) n n)) ∧ ∀ v, v < n → (stAt (roundS coreP n es fl Ct.zero g (startL coreP (degs n es) n n)) v).a1 = 0 := by
  have hs : ∀ v, v < n → stAt (startL coreP (degs n es) n n) v = ⟨0, 0, (outC es v + inE es v) % 18446744073709551616, 0, 0, 0, 0, 0⟩ := by
    intro v hv
    obtain ⟨h1, h2⟩ := degs_count n es hes v
    rw [stAt_get _ v (by rw [startL_len]; exact hv)]
    simp only [startL, List.getElem_map, List.getElem_range]
    rw [if_pos hv, h1, h2]; rfl
  have hD : ∀ u, isD (startL coreP (degs n es) n n) u = false := by
    intro u
    cases h : isD (startL coreP (degs n es) n n) u
    · rfl
    · rw [isD_iff] at h
      by_cases hu : u < n
      · rw [hs u hu] at h; exact absurd h (by simp)
      · rw [stOut _ _ (by rw [startL_len]; omega)] at h; exact absurd h (by decide)
  have ht : ∀ v, toD es (isD (startL coreP (degs n es) n n)) v = 0 := by
    intro v
    unfold toD
    rw [List.countP_eq_zero]
    intro e _
    rw [hD, hD]; simp
  have hcnt : ∀ v, outC es v + inE es v = dgT es (fun u => decide (u < n)) v + 2 * loopC es v := fun v => count_ends es _ (fun e he => ⟨by simpa using (hes e he).1, by simpa using (hes e he).2⟩) v
  have hbd : ∀ v, outC es v + inE es v ≤ 2 * es.length := fun v => by
    have h1 : outC es v ≤ es.length := List.countP_le_length
    have h2 : inE es v ≤ es.length := List.countP_le_length
    omega
  have hA : ∀ v, v < n → stAt (roundS coreP n es fl Ct.zero g (startL coreP (degs n es) n n)) v = ⟨0, 0, dgT es (fun u => decide (u < n)) v, 0, 0, 0, 0, 0⟩ := by
    intro v hv
    have h1 := hcnt v
    have h2 := hbd v
    rw [core_app n es fl Ct.zero g _ (startL_len _ _ _ _) hes v hv (by rw [hs v hv]; exact ⟨rfl, rfl⟩), hs v hv, ht v]
    have hk : Ct.zero.k0 = 0 := rfl
    rw [if_pos hk, hk, Nat.mod_eq_of_lt (show outC es v + inE es v < 18446744073709551616 by omega), Nat.mod_eq_of_lt (show 2 * loopC es v < 18446744073709551616 by omega)]
    have hl : leftV (outC es v + inE es v) 0 (2 * loopC es v) = dgT es (fun u => decide (u < n)) v := by rw [leftV_eq _ _ _ (by omega) (by omega)]; omega
    simp only [Nat.zero_mod, hl]
    unfold capp
    rw [if_neg (by simp), if_pos rfl]
  have hopen : ∀ v, v < n → (stAt (roundS coreP n es fl Ct.zero g (startL coreP (degs n es) n n)) v).a1 = 0 := fun v hv => by rw [hA v hv]
  have hlen' : (roundS coreP n es fl Ct.zero g (startL coreP (degs n es) n n)).length = n := by unfold roundS; rw [appL_len]
  have hod : od n (roundS coreP n es fl Ct.zero g (startL coreP (degs n es) n n)) = fun u => decide (u < n) := by
    funext u
    rw [Bool.eq_iff_iff]
    unfold od
    rw [Bool.or_eq_true, opn_iff, isD_iff, decide_eq_true_iff]
    by_cases hu : u < n
    · have := hopen u hu; omega
    · rw [stOut _ u (by omega)]
      constructor
      · rintro (h | h)
        · exact h.1
        · exact absurd h (by decide)
      · intro h; exact absurd h hu
  refine ⟨⟨hlen', fun v hv => by rw [hopen v hv]; omega, fun v hv => by rw [hA v hv]; exact ⟨rfl, rfl⟩, fun v hv _ => by rw [hod, hA v hv], fun T hT u hu => hopen u (hT u hu).1, fun v hv _ => inC_zero es hv, fun v hv h => absurd (hopen v hv) h⟩, hopen⟩

theorem fold_core (l : List St) : ∀ g : St, g.a0 + l.length < 18446744073709551616 → g.a2 + l.length < 18446744073709551616 →
    (l.foldl coreP.fold g).a0 = g.a0 + l.countP (fun s => s.a1 == 0) ∧ (l.foldl coreP.fold g).a2 = g.a2 + l.countP (fun s => s.a1 == 1) ∧
    (∀ s, s ∈ l → s.a1 = 0 → (l.foldl coreP.fold g).a1 ≤ s.a2) ∧ (g.a0 ≠ 0 → (l.foldl coreP.fold g).a1 ≤ g.a1) ∧
    ((g.a0 ≠ 0 ∧ (l.foldl coreP.fold g).a1 = g.a1) ∨ (∃ s, s ∈ l ∧ s.a1 = 0 ∧ (l.foldl coreP.fold g).a1 = s.a2) ∨ l.countP (fun s => s.a1 == 0) = 0) := by
  induction l with
  | nil => intro g _ _; exact ⟨rfl, rfl, fun s hs => absurd hs List.not_mem_nil, fun _ => Nat.le_refl _, Or.inr (Or.inr rfl)⟩
  | cons s l ih =>
    intro g hg0 hg2
    rw [List.length_cons] at hg0 hg2
    have f0 : (coreP.fold g s).a0 = cfold0 g.a0 s.a1 := rfl
    have f1 : (coreP.fold g s).a1 = cfold1 g.a0 g.a1 s.a1 s.a2 := rfl
    have f2 : (coreP.fold g s).a2 = cfold2 g.a2 s.a1 := rfl
    rw [List.foldl_cons, List.countP_cons, List.countP_cons]
    by_cases h : s.a1 = 0
    · have e0 : cfold0 g.a0 s.a1 = g.a0 + 1 := by unfold cfold0; rw [if_pos h, Nat.mod_eq_of_lt (by omega)]
      have e2 : cfold2 g.a2 s.a1 = g.a2 := by unfold cfold2; rw [if_neg (by omega)]
      have e1 : (cfold1 g.a0 g.a1 s.a1 s.a2 = s.a2 ∧ (g.a0 ≠ 0 → s.a2 ≤ g.a1)) ∨ (cfold1 g.a0 g.a1 s.a1 s.a2 = g.a1 ∧ g.a0 ≠ 0 ∧ g.a1 ≤ s.a2) := by
        unfold cfold1
        rw [if_pos h]
        by_cases hc : g.a0 = 0 ∨ s.a2 < g.a1
        · left; rw [if_pos hc]; exact ⟨rfl, fun h2 => by omega⟩
        · right; rw [if_neg hc]; exact ⟨rfl, fun h2 => hc (Or.inl h2), by omega⟩
      rw [e0] at f0
      rw [e2] at f2
      obtain ⟨r0, r2, r1, rg, ra⟩ := ih (coreP.fold g s) (by omega) (by omega)
      have rg := rg (by omega)
      rw [f1] at rg ra
      rw [r0, r2, f0, f2, if_pos (show (s.a1 == 0) = true by simpa using h), if_neg (show ¬ (s.a1 == 1) = true by simp; omega)]
      refine ⟨by omega, by omega, ?_, ?_, ?_⟩
      · intro x hx hx0
        rcases List.mem_cons.1 hx with rfl | hx
        · omega
        · exact r1 x hx hx0
      · intro hne; omega
      · rcases ra with ⟨_, ra⟩ | ⟨x, hx, hx0, hxa⟩ | hz
        · rcases e1 with ⟨e1, _⟩ | ⟨e1, e1', _⟩
          · right; left; exact ⟨s, List.mem_cons_self, h, by omega⟩
          · left; exact ⟨e1', by omega⟩
        · right; left; exact ⟨x, List.mem_cons_of_mem _ hx, hx0, hxa⟩
        · -- nobody behind s is open: what the fold bears is g's or s's
          have hsame : ∀ (l : List St) (g : St), l.countP (fun s => s.a1 == 0) = 0 → (l.foldl coreP.fold g).a1 = g.a1 := by
            intro l
            induction l with
            | nil => intro g _; rfl
            | cons y l ihl =>
              intro g hz
              rw [List.countP_cons] at hz
              have hy : ¬ y.a1 = 0 := fun hy => by rw [if_pos (by simpa using hy)] at hz; omega
              rw [if_neg (by simpa using hy)] at hz
              rw [List.foldl_cons, ihl _ (by omega)]
              show cfold1 g.a0 g.a1 y.a1 y.a2 = _
              unfold cfold1; rw [if_neg hy]
          have hs1 := hsame l (coreP.fold g s) hz
          rw [f1] at hs1
          rcases e1 with ⟨e1, _⟩ | ⟨e1, e1', _⟩
          · right; left; exact ⟨s, List.mem_cons_self, h, by omega⟩
          · left; exact ⟨e1', by omega⟩
    · have e0 : cfold0 g.a0 s.a1 = g.a0 := by unfold cfold0; rw [if_neg h]
      have e1 : cfold1 g.a0 g.a1 s.a1 s.a2 = g.a1 := by unfold cfold1; rw [if_neg h]
      have e2 : cfold2 g.a2 s.a1 = g.a2 + if (s.a1 == 1) = true then 1 else 0 := by
        unfold cfold2
        by_cases h1 : s.a1 = 1
        · rw [if_pos h1, Nat.mod_eq_of_lt (by omega), if_pos (by simpa using h1)]
        · rw [if_neg h1, if_neg (by simpa using h1)]; rfl
      rw [e0] at f0
      rw [e1] at f1
      rw [e2] at f2
      obtain ⟨r0, r2, r1, rg, ra⟩ := ih (coreP.fold g s) (by omega) (by rw [f2]; split <;> omega)
      rw [f0, f1] at rg ra
      rw [r0, r2, f0, f2, if_neg (show ¬ (s.a1 == 0) = true by simpa using h)]
      refine ⟨by omega, by omega, ?_, rg, ?_⟩
      · intro x hx hx0
        rcases List.mem_cons.1 hx with rfl | hx
        · exact absurd hx0 h
        · exact r1 x hx hx0
      · rcases ra with ra | ⟨x, hx, hx0, hxa⟩ | hz
        · left; exact ra
        · right; left; exact ⟨x, List.mem_cons_of_mem _ hx, hx0, hxa⟩
        · right; right; omega

theorem count_lt (l : List Nat) (p q : Nat → Bool) (hqp : ∀ x, x ∈ l → q x = true → p x = true) : l.countP q ≤ l.countP p ∧ ((∃ x, x ∈ l ∧ p x = true ∧ q x = false) → l.countP q < l.countP p) := by
  induction l with
  | nil => exact ⟨Nat.le_refl _, fun ⟨x, hx, _⟩ => absurd hx List.not_mem_nil⟩
  | cons y l ih =>
    obtain ⟨h1, h2⟩ := ih (fun x hx => hqp x (List.mem_cons_of_mem _ hx))
    rw [List.countP_cons, List.countP_cons]
    have hy := hqp y List.mem_cons_self
    refine ⟨?_, ?_⟩
    · cases hq : q y
      · simp; omega
      · rw [hy hq]; simp; omega
    · rintro ⟨x, hx, hp, hq⟩
      rcases List.mem_cons.1 hx with rfl | hx
      · rw [hp, hq]; simp; omega
      · have := h2 ⟨x, hx, hp, hq⟩
        cases hq' : q y
        · simp; omega
        · rw [hy hq']; simp; omega

theorem count_at (n : Nat) (p : St → Bool) (ss : List St) (h : ss.length = n) : ss.countP p = (List.range n).countP fun v => p (stAt ss v) := by
  have h1 : ss = (List.range n).map fun v => stAt ss v := by
    apply List.ext_getElem
    · simp [h]
    · intro j hj hj2
      rw [List.getElem_map, List.getElem_range, stAt_get ss j hj]
  conv => lhs; rw [h1]
  rw [List.countP_map]; rfl

def opens (ss : List St) : Nat := ss.countP fun s => s.a1 == 0

theorem opens_zero {n : Nat} {ss : List St} (h : ss.length = n) : opens ss = 0 ↔ ∀ v, v < n → (stAt ss v).a1 ≠ 0 := by
  unfold opens
  rw [count_at n _ ss h, List.countP_eq_zero]
  constructor
  · intro h1 v hv; simpa using h1 v (List.mem_range.2 hv)
  · intro h1 v hv; simpa using h1 v (List.mem_range.1 hv)

/-- What the fold of the states tells. -/
theorem agg_core {n : Nat} {ss : List St} (h : ss.length = n) (hn : n ≤ 65536) :
    (foldAll coreP ss).a0 = opens ss ∧ ((foldAll coreP ss).a2 = 0 → ∀ v, v < n → (stAt ss v).a1 ≠ 1) ∧ ((foldAll coreP ss).a2 ≠ 0 → ∃ v, v < n ∧ (stAt ss v).a1 = 1) ∧
    (∀ v, v < n → (stAt ss v).a1 = 0 → (foldAll coreP ss).a1 ≤ (stAt ss v).a2) ∧ (opens ss ≠ 0 → ∃ v, v < n ∧ (stAt ss v).a1 = 0 ∧ (stAt ss v).a2 = (foldAll coreP ss).a1) := by
  have hz0 : St.zero.a0 = 0 := rfl
  have hz2 : St.zero.a2 = 0 := rfl
  obtain ⟨r0, r2, r1, _, ra⟩ := fold_core ss St.zero (by rw [hz0, h]; omega) (by rw [hz2, h]; omega)
  rw [hz0, Nat.zero_add] at r0
  rw [hz2, Nat.zero_add] at r2
  have hin : ∀ v, v < n → stAt ss v ∈ ss := fun v hv => by rw [stAt_get ss v (by omega)]; exact List.getElem_mem _
  have hout : ∀ s, s ∈ ss → ∃ v, v < n ∧ stAt ss v = s := fun s hs => by
    obtain ⟨v, hv, rfl⟩ := List.getElem_of_mem hs
    exact ⟨v, by omega, stAt_get ss v hv⟩
  refine ⟨r0, ?_, ?_, fun v hv h0 => r1 _ (hin v hv) h0, ?_⟩
  · intro hz v hv h1
    have : ss.countP (fun s => s.a1 == 1) = 0 := by rw [← r2]; exact hz
    rw [List.countP_eq_zero] at this
    exact this _ (hin v hv) (by simpa using h1)
  · intro hz
    have : 0 < ss.countP (fun s => s.a1 == 1) := by rw [← r2]; exact Nat.pos_of_ne_zero hz
    rw [List.countP_pos_iff] at this
    obtain ⟨s, hs, h1⟩ := this
    obtain ⟨v, hv, rfl⟩ := hout s hs
    exact ⟨v, hv, by simpa using h1⟩
  · intro hne
    rcases ra with ⟨h1, _⟩ | ⟨s, hs, hs0, hsa⟩ | hz
    · exact absurd hz0 h1
    · obtain ⟨v, hv, rfl⟩ := hout s hs
      exact ⟨v, hv, hs0, hsa.symm⟩
    · exact absurd hz hne

theorem core_done (n : Nat) (es : List Ed) (fl : Nat → Bool) (k : Nat) (hn : n ≤ 65536) (hlen : (afterR coreP n es fl (k + 1)).ss.length = n) : doneR coreP n es fl k = true ↔ opens (afterR coreP n es fl (k + 1)).ss = 0 := by
  have hd : doneR coreP n es fl k = (cturn (afterR coreP n es fl k).c.k0 (afterR coreP n es fl k).c.k1 (foldAll coreP (afterR coreP n es fl (k + 1)).ss).a0 (foldAll coreP (afterR coreP n es fl (k + 1)).ss).a1 (foldAll coreP (afterR coreP n es fl (k + 1)).ss).a2).2.2 := rfl
  rw [hd, (agg_core hlen hn).1]
  unfold cturn
  by_cases h : opens (afterR coreP n es fl (k + 1)).ss = 0
  · rw [if_pos h]; simp [h]
  · rw [if_neg h]; split <;> simp [h]

/-- The head of a round behind the first. -/
def Head (n : Nat) (es : List Ed) (c : Ct) (ss : List St) (k : Nat) : Prop :=
  c.k0 = 1 ∧ PInv n es c.k1 ss ∧ ∃ b, b ≤ 1 ∧ (b = 0 → ∃ v, v < n ∧ (stAt ss v).a1 = 0 ∧ (stAt ss v).a2 ≤ c.k1) ∧ 2 * opens ss + b + k ≤ 2 * n

theorem core_after {n : Nat} (hn0 : 1 ≤ n) (hn : n ≤ 65536) {es : List Ed} (hes : ∀ e, e ∈ es → e.src < n ∧ e.dst < n) (hle : es.length ≤ 1048576) (fl : Nat → Bool) : ∀ k, (∀ j, j < k → doneR coreP n es fl j = false) →
    (∃ k1, PInv n es k1 (afterR coreP n es fl (k + 1)).ss) ∧ (doneR coreP n es fl k = false → Head n es (afterR coreP n es fl (k + 1)).c (afterR coreP n es fl (k + 1)).ss k) := by
  intro k
  induction k with
  | zero =>
    intro _
    obtain ⟨hP, hop⟩ := core_first hes hle (fl 0) (afterR coreP n es fl 0).g
    have hS : (afterR coreP n es fl 1).ss = roundS coreP n es (fl 0) Ct.zero (afterR coreP n es fl 0).g (startL coreP (degs n es) n n) := rfl
    rw [← hS] at hP hop
    refine ⟨⟨0, hP⟩, fun _ => ?_⟩
    have hag := agg_core hP.len hn
    obtain ⟨a0, a2, _, amin, aex⟩ := hag
    have hne : opens (afterR coreP n es fl 1).ss ≠ 0 := fun h => (opens_zero hP.len).1 h 0 (by omega) (hop 0 (by omega))
    have h2 : (foldAll coreP (afterR coreP n es fl 1).ss).a2 = 0 := by
      apply Classical.byContradiction
      intro h
      obtain ⟨v, hv, h1⟩ := (agg_core hP.len hn).2.2.1 h
      have := hop v hv; omega
    have hc : (afterR coreP n es fl 1).c = ⟨(cturn 0 0 (foldAll coreP (afterR coreP n es fl 1).ss).a0 (foldAll coreP (afterR coreP n es fl 1).ss).a1 (foldAll coreP (afterR coreP n es fl 1).ss).a2).1, (cturn 0 0 (foldAll coreP (afterR coreP n es fl 1).ss).a0 (foldAll coreP (afterR coreP n es fl 1).ss).a1 (foldAll coreP (afterR coreP n es fl 1).ss).a2).2.1, 0, 0⟩ := rfl
    have ht : cturn 0 0 (foldAll coreP (afterR coreP n es fl 1).ss).a0 (foldAll coreP (afterR coreP n es fl 1).ss).a1 (foldAll coreP (afterR coreP n es fl 1).ss).a2 = (1, (foldAll coreP (afterR coreP n es fl 1).ss).a1, false) := by
      unfold cturn; rw [if_neg (by rw [a0]; exact hne), if_pos ⟨h2, Or.inr rfl⟩]
    rw [ht] at hc
    unfold Head
    rw [hc]
    refine ⟨rfl, core_raise hP (Nat.zero_le _) (fun v hv h => absurd (h.symm.trans (hop v hv)) (by simp)) amin, 0, by omega, fun _ => ?_, ?_⟩
    · obtain ⟨v, hv, h0, h1⟩ := aex hne
      exact ⟨v, hv, h0, by rw [h1]; exact Nat.le_refl _⟩
    · have : opens (afterR coreP n es fl 1).ss ≤ n := by
        have := List.countP_le_length (p := fun s : St => s.a1 == 0) (l := (afterR coreP n es fl 1).ss)
        rw [hP.len] at this; exact this
      show 2 * opens (afterR coreP n es fl 1).ss + 0 + 0 ≤ 2 * n
      omega
  | succ k ih =>
    intro hd
    obtain ⟨_, hH⟩ := ih (fun j hj => hd j (by omega))
    obtain ⟨hc0, hP, b, hb, hfresh, hphi⟩ := hH (hd k (by omega))
    obtain ⟨hP', hstay, hnew, hdec⟩ := core_round hes hle hP (fl (k + 1)) (afterR coreP n es fl (k + 1)).c hc0 rfl (afterR coreP n es fl (k + 1)).g
    have hS : (afterR coreP n es fl (k + 1 + 1)).ss = roundS coreP n es (fl (k + 1)) (afterR coreP n es fl (k + 1)).c (afterR coreP n es fl (k + 1)).g (afterR coreP n es fl (k + 1)).ss := rfl
    rw [← hS] at hP' hstay hnew hdec
    refine ⟨⟨_, hP'⟩, fun hnd => ?_⟩
    obtain ⟨a0, a2, a2', amin, aex⟩ := agg_core hP'.len hn
    have hne : opens (afterR coreP n es fl (k + 1 + 1)).ss ≠ 0 := fun h => by
      have := (core_done n es fl (k + 1) hn hP'.len).2 h
      rw [hnd] at this; exact absurd this (by simp)
    have hmono : opens (afterR coreP n es fl (k + 1 + 1)).ss ≤ opens (afterR coreP n es fl (k + 1)).ss ∧ ((∃ v, v < n ∧ (stAt (afterR coreP n es fl (k + 1 + 1)).ss v).a1 = 1) → opens (afterR coreP n es fl (k + 1 + 1)).ss < opens (afterR coreP n es fl (k + 1)).ss) := by
      unfold opens
      rw [count_at n _ _ hP'.len, count_at n _ _ hP.len]
      obtain ⟨h1, h2⟩ := count_lt (List.range n) (fun v => (stAt (afterR coreP n es fl (k + 1)).ss v).a1 == 0) (fun v => (stAt (afterR coreP n es fl (k + 1 + 1)).ss v).a1 == 0) (fun v hv h => by
        have := hstay v (List.mem_range.1 hv) (by simpa using h)
        simpa using this.1)
      refine ⟨h1, ?_⟩
      rintro ⟨v, hv, hv1⟩
      exact h2 ⟨v, List.mem_range.2 hv, by simpa using hnew v hv hv1, by simp [hv1]⟩
    have hc : (afterR coreP n es fl (k + 1 + 1)).c = ⟨(cturn (afterR coreP n es fl (k + 1)).c.k0 (afterR coreP n es fl (k + 1)).c.k1 (foldAll coreP (afterR coreP n es fl (k + 1 + 1)).ss).a0 (foldAll coreP (afterR coreP n es fl (k + 1 + 1)).ss).a1 (foldAll coreP (afterR coreP n es fl (k + 1 + 1)).ss).a2).1, (cturn (afterR coreP n es fl (k + 1)).c.k0 (afterR coreP n es fl (k + 1)).c.k1 (foldAll coreP (afterR coreP n es fl (k + 1 + 1)).ss).a0 (foldAll coreP (afterR coreP n es fl (k + 1 + 1)).ss).a1 (foldAll coreP (afterR coreP n es fl (k + 1 + 1)).ss).a2).2.1, (afterR coreP n es fl (k + 1)).c.k2, (afterR coreP n es fl (k + 1)).c.k3⟩ := rfl
    unfold Head
    rw [hc0] at hc
    by_cases hz : (foldAll coreP (afterR coreP n es fl (k + 1 + 1)).ss).a2 = 0
    · obtain ⟨v, hv, hv0, hva⟩ := aex hne
      have hup := (hstay v hv hv0).2
      have ht : cturn 1 (afterR coreP n es fl (k + 1)).c.k1 (foldAll coreP (afterR coreP n es fl (k + 1 + 1)).ss).a0 (foldAll coreP (afterR coreP n es fl (k + 1 + 1)).ss).a1 (foldAll coreP (afterR coreP n es fl (k + 1 + 1)).ss).a2 = (1, (foldAll coreP (afterR coreP n es fl (k + 1 + 1)).ss).a1, false) := by
        unfold cturn; rw [if_neg (by rw [a0]; exact hne), if_pos ⟨hz, Or.inl (by omega)⟩]
      rw [ht] at hc
      rw [hc]
      refine ⟨rfl, core_raise hP' (show (afterR coreP n es fl (k + 1)).c.k1 ≤ (foldAll coreP (afterR coreP n es fl (k + 1 + 1)).ss).a1 by omega) (a2 hz) amin, 0, by omega, fun _ => ⟨v, hv, hv0, by rw [hva]; exact Nat.le_refl _⟩, ?_⟩
      -- nobody was decided: then the head before was no fresh one
      have hb1 : b = 1 := by
        apply Classical.byContradiction
        intro hb0
        obtain ⟨u, hu, hu0, hu2⟩ := hfresh (by omega)
        exact a2 hz u hu (hdec u hu hu0 hu2)
      have := hmono.1
      omega
    · have ht : cturn 1 (afterR coreP n es fl (k + 1)).c.k1 (foldAll coreP (afterR coreP n es fl (k + 1 + 1)).ss).a0 (foldAll coreP (afterR coreP n es fl (k + 1 + 1)).ss).a1 (foldAll coreP (afterR coreP n es fl (k + 1 + 1)).ss).a2 = (1, (afterR coreP n es fl (k + 1)).c.k1, false) := by
        unfold cturn; rw [if_neg (by rw [a0]; exact hne), if_neg (fun h => hz h.1)]
      rw [ht] at hc
      rw [hc]
      refine ⟨rfl, hP', 1, by omega, fun h => absurd h (by omega), ?_⟩
      have := hmono.2 (a2' hz)
      omega

/-- A run of at most 2n + 1 rounds ends, each vertex with its core number. -/
theorem core_ends {n : Nat} (hn0 : 1 ≤ n) (hn : n ≤ 65536) {es : List Ed} (hes : ∀ e, e ∈ es → e.src < n ∧ e.dst < n) (hle : es.length ≤ 1048576) (fl : Nat → Bool) {ss : List St} {rr : Nat} {dn : Bool} (h : RunEnds coreP n es fl (2 * n + 1) ss rr dn) :
    dn = true ∧ ∀ v, v < n → IsCore n es v (stAt ss v).a0 := by
  rcases h with ⟨rfl, r, _, _, hd, hno, rfl⟩ | ⟨_, _, hno, _⟩
  · refine ⟨rfl, ?_⟩
    obtain ⟨⟨k1, hP⟩, _⟩ := core_after hn0 hn hes hle fl r hno
    have hz := (core_done n es fl r hn hP.len).1 hd
    intro v hv
    exact hP.right v hv ((opens_zero hP.len).1 hz v hv)
  · exfalso
    obtain ⟨⟨k1, hP⟩, hH⟩ := core_after hn0 hn hes hle fl (2 * n) (fun j hj => hno j (by omega))
    have hd := hno (2 * n) (by omega)
    obtain ⟨_, _, b, _, _, hphi⟩ := hH hd
    have hz : opens (afterR coreP n es fl (2 * n + 1)).ss = 0 := by omega
    rw [(core_done n es fl (2 * n) hn hP.len).2 hz] at hd
    exact absurd hd (by simp)

end Go.Proofs.Ytjmggfpomnnegaa
