/-
  The document's Cores, as lists: what each of its loops leaves.
-/
import Derived.Test.YtjmggfpomnnegaaCoreEnds
import Derived.Test.YtjmggfpomnnegaaFirst
namespace Go.Proofs.Ytjmggfpomnnegaa
open Go.RowKit

def tab {α : Type} (n : Nat) (f : Nat → α) : List α := (List.range n).map f
theorem tab_len {α : Type} (n : Nat) (f : Nat → α) : (tab n f).length = n := by simp [tab]
theorem tab_get {α : Type} (n : Nat) (f : Nat → α) (v : Nat) : (tab n f)[v]? = if v < n then some (f v) else none := by
  unfold tab
  by_cases h : v < n
  · rw [if_pos h, List.getElem?_map, List.getElem?_range h]; rfl
  · rw [if_neg h, List.getElem?_eq_none (by simp; omega)]
theorem tab_congr {α : Type} {n : Nat} {f g : Nat → α} (h : ∀ v, v < n → f v = g v) : tab n f = tab n g := by
  unfold tab; exact List.map_congr_left fun v hv => h v (List.mem_range.1 hv)
theorem tab_set {α : Type} {n : Nat} (f : Nat → α) {j : Nat} (h : j < n) (y : α) : (tab n f).set j y = tab n (fun v => if v = j then y else f v) := by
  apply List.ext_getElem?
  intro v
  rw [List.getElem?_set, tab_get, tab_get, tab_len]
  by_cases hv : j = v
  · subst hv; rw [if_pos rfl, if_pos h, if_pos h, if_pos rfl]
  · rw [if_neg hv]
    by_cases hvn : v < n
    · rw [if_pos hvn, if_pos hvn, if_neg (fun h => hv h.symm)]
    · rw [if_neg hvn, if_neg hvn]
theorem tab_self {α : Type} (l : List α) (d : α) : tab l.length (fun v => l[v]?.getD d) = l := by
  apply List.ext_getElem?
  intro v
  rw [tab_get]
  by_cases h : v < l.length
  · rw [if_pos h, List.getElem?_eq_getElem h]; rfl
  · rw [if_neg h, List.getElem?_eq_none (by omega)]
theorem tab_rep {α : Type} (n : Nat) (y : α) : tab n (fun _ => y) = List.replicate n y := by
  unfold tab; rw [List.map_const']; simp

def lat (L : List Bool) (v : Nat) : Bool := L[v]?.getD false
def boolCells (l : List Bool) : List Value := l.map Value.bool
theorem bool_len (l : List Bool) : (boolCells l).length = l.length := by simp [boolCells]
theorem bool_get (l : List Bool) (i : Nat) (h : i < l.length) : (boolCells l)[i]? = some (.bool (lat l i)) := by
  unfold boolCells lat; rw [List.getElem?_map, List.getElem?_eq_getElem h]; rfl
theorem bool_set (l : List Bool) (i : Nat) (x : Bool) : (boolCells l).set i (.bool x) = boolCells (l.set i x) := by unfold boolCells; rw [List.map_set]
theorem lat_lt {L : List Bool} {v : Nat} (h : lat L v = true) : v < L.length := by
  apply Classical.byContradiction
  intro hn
  unfold lat at h; rw [List.getElem?_eq_none (by omega)] at h; exact absurd h (by simp)
theorem lat_tab {n : Nat} (f : Nat → Bool) {v : Nat} (h : v < n) : lat (tab n f) v = f v := by unfold lat; rw [tab_get, if_pos h]; rfl
theorem inAt_tab {n : Nat} (f : Nat → Nat) {v : Nat} (h : v < n) : inAt (tab n f) v = f v := by unfold inAt; rw [tab_get, if_pos h]; rfl

def initL (n : Nat) (cl : List Nat) (k m : Nat) : List Bool := tab n fun v => decide (v < m) && inAt cl v == k
theorem initL_zero (n : Nat) (cl : List Nat) (k : Nat) : initL n cl k 0 = List.replicate n false := by
  unfold initL; rw [← tab_rep]; exact tab_congr fun v _ => by simp
theorem initL_step (n : Nat) (cl : List Nat) (k : Nat) {m : Nat} (h : m < n) : (initL n cl k m).set m (inAt cl m == k) = initL n cl k (m + 1) := by
  unfold initL; rw [tab_set _ h]
  apply tab_congr
  intro v _
  by_cases hv : v = m
  · subst hv; simp
  · rw [if_neg hv]
    have : decide (v < m) = decide (v < m + 1) := by rw [Bool.eq_iff_iff]; simp; omega
    rw [this]

def dcond (L : List Bool) (e : Ed) : Bool := e.src != e.dst && lat L e.src && lat L e.dst
def degRow (n : Nat) (L : List Bool) (es : List Ed) : List Nat := tab n fun v => dgT es (lat L) v
theorem degRow_nil (n : Nat) (L : List Bool) : degRow n L [] = List.replicate n 0 := by
  unfold degRow; rw [← tab_rep]; rfl
theorem degRow_no (n : Nat) (L : List Bool) (es : List Ed) (e : Ed) (h : dcond L e = false) : degRow n L (es ++ [e]) = degRow n L es := by
  unfold degRow
  apply tab_congr
  intro v _
  rw [dgT_snoc, if_neg]; rfl
  unfold dcond at h
  unfold dp
  rw [h]; simp
theorem degRow_yes (n : Nat) (L : List Bool) (es : List Ed) (e : Ed) (h : dcond L e = true) (h1 : e.src < n) (h2 : e.dst < n) :
    ((degRow n L es).set e.src (dgT es (lat L) e.src + 1)).set e.dst (dgT es (lat L) e.dst + 1) = degRow n L (es ++ [e]) := by
  unfold degRow
  rw [tab_set _ h1, tab_set _ h2]
  apply tab_congr
  intro v _
  rw [dgT_snoc]
  unfold dcond at h
  unfold dp
  rw [h]
  by_cases hd : v = e.dst
  · subst hd; simp
  · rw [if_neg hd]
    by_cases hs : v = e.src
    · subst hs; simp
    · rw [if_neg hs]
      have h3 : ¬ e.src = v := fun h => hs h.symm
      have h4 : ¬ e.dst = v := fun h => hd h.symm
      simp [h3, h4]

def pruneL (n : Nat) (L : List Bool) (d : List Nat) (k m : Nat) : List Bool := tab n fun v => lat L v && !(decide (v < m) && decide (inAt d v < k))
def again (L : List Bool) (d : List Nat) (k : Nat) : Nat → Bool
  | 0 => false
  | m + 1 => again L d k m || (lat L m && decide (inAt d m < k))
theorem pruneL_zero (n : Nat) (L : List Bool) (d : List Nat) (k : Nat) (h : L.length = n) : pruneL n L d k 0 = L := by
  subst h
  unfold pruneL
  conv => rhs; rw [← tab_self L false]
  apply tab_congr
  intro v _
  unfold lat; simp
theorem pruneL_at (n : Nat) (L : List Bool) (d : List Nat) (k : Nat) {m : Nat} (h : m < n) : lat (pruneL n L d k m) m = lat L m := by
  unfold pruneL; rw [lat_tab _ h]; simp
theorem pruneL_yes (n : Nat) (L : List Bool) (d : List Nat) (k : Nat) {m : Nat} (h : m < n) (hd : inAt d m < k) : (pruneL n L d k m).set m false = pruneL n L d k (m + 1) := by
  unfold pruneL; rw [tab_set _ h]
  apply tab_congr
  intro v _
  by_cases hv : v = m
  · subst hv; simp [hd]
  · rw [if_neg hv]
    have : decide (v < m) = decide (v < m + 1) := by rw [Bool.eq_iff_iff]; simp; omega
    rw [this]
theorem pruneL_no (n : Nat) (L : List Bool) (d : List Nat) (k : Nat) {m : Nat} (hd : lat L m = false ∨ ¬ inAt d m < k) : pruneL n L d k (m + 1) = pruneL n L d k m := by
  unfold pruneL
  apply tab_congr
  intro v _
  by_cases hv : v = m
  · subst hv
    rcases hd with hd | hd
    · rw [hd]; rfl
    · simp [hd]
  · have : decide (v < m) = decide (v < m + 1) := by rw [Bool.eq_iff_iff]; simp; omega
    rw [this]
theorem again_iff (L : List Bool) (d : List Nat) (k m : Nat) : again L d k m = true ↔ ∃ v, v < m ∧ lat L v = true ∧ inAt d v < k := by
  induction m with
  | zero => simp [again]
  | succ m ih =>
    unfold again
    rw [Bool.or_eq_true, ih, Bool.and_eq_true, decide_eq_true_iff]
    constructor
    · rintro (⟨v, h1, h2⟩ | h)
      · exact ⟨v, by omega, h2⟩
      · exact ⟨m, by omega, h⟩
    · rintro ⟨v, h1, h2⟩
      by_cases hv : v = m
      · subst hv; exact Or.inr h2
      · exact Or.inl ⟨v, by omega, h2⟩

def raiseL (n : Nat) (cl : List Nat) (L : List Bool) (k m : Nat) : List Nat := tab n fun v => if v < m ∧ lat L v = true then k else inAt cl v
def someL (L : List Bool) : Nat → Bool
  | 0 => false
  | m + 1 => someL L m || lat L m
theorem raiseL_zero (n : Nat) (cl : List Nat) (L : List Bool) (k : Nat) (h : cl.length = n) : raiseL n cl L k 0 = cl := by
  subst h
  unfold raiseL
  conv => rhs; rw [← tab_self cl 0]
  apply tab_congr
  intro v _
  rw [if_neg (by omega)]; rfl
theorem raiseL_yes (n : Nat) (cl : List Nat) (L : List Bool) (k : Nat) {m : Nat} (h : m < n) (hL : lat L m = true) : (raiseL n cl L k m).set m k = raiseL n cl L k (m + 1) := by
  unfold raiseL; rw [tab_set _ h]
  apply tab_congr
  intro v _
  by_cases hv : v = m
  · subst hv; rw [if_pos rfl, if_pos ⟨by omega, hL⟩]
  · rw [if_neg hv]
    by_cases hc : v < m ∧ lat L v = true
    · rw [if_pos hc, if_pos ⟨by omega, hc.2⟩]
    · rw [if_neg hc, if_neg (fun h => hc ⟨by omega, h.2⟩)]
theorem raiseL_no (n : Nat) (cl : List Nat) (L : List Bool) (k : Nat) {m : Nat} (hL : lat L m = false) : raiseL n cl L k (m + 1) = raiseL n cl L k m := by
  unfold raiseL
  apply tab_congr
  intro v _
  by_cases hv : v = m
  · subst hv; rw [if_neg (by rw [hL]; simp), if_neg (by omega)]
  · by_cases hc : v < m ∧ lat L v = true
    · rw [if_pos hc, if_pos ⟨by omega, hc.2⟩]
    · rw [if_neg hc, if_neg (fun h => hc ⟨by omega, h.2⟩)]
theorem someL_iff (L : List Bool) (m : Nat) : someL L m = true ↔ ∃ v, v < m ∧ lat L v = true := by
  induction m with
  | zero => simp [someL]
  | succ m ih =>
    unfold someL
    rw [Bool.or_eq_true, ih]
    constructor
    · rintro (⟨v, h1, h2⟩ | h)
      · exact ⟨v, by omega, h2⟩
      · exact ⟨m, by omega, h⟩
    · rintro ⟨v, h1, h2⟩
      by_cases hv : v = m
      · subst hv; exact Or.inr h2
      · exact Or.inl ⟨v, by omega, h2⟩

/-! ### What holds -/
/-- The list at the head of the round for level j + 1. -/
def Lev (n : Nat) (es : List Ed) (j : Nat) (cl : List Nat) : Prop :=
  cl.length = n ∧ ∀ v, v < n → inAt cl v ≤ j ∧ inC n es (inAt cl v) v ∧ (inAt cl v < j → ¬ inC n es (inAt cl v + 1) v)
/-- What is left, on the way. -/
def Lft (n : Nat) (es : List Ed) (j : Nat) (cl : List Nat) (L : List Bool) : Prop :=
  L.length = n ∧ (∀ v, inC n es (j + 1) v → lat L v = true) ∧ ∀ v, lat L v = true → inAt cl v = j
def Stable (es : List Ed) (j : Nat) (L : List Bool) : Prop := ∀ v, lat L v = true → j + 1 ≤ dgT es (lat L) v
def cntL (n : Nat) (L : List Bool) : Nat := (List.range n).countP (lat L)

theorem inC_lt {n : Nat} {es : List Ed} {k v : Nat} (h : inC n es k v) : v < n := by
  obtain ⟨T, h1, h2⟩ := h; exact (h2 v h1).1

theorem lev_zero (n : Nat) (es : List Ed) : Lev n es 0 (List.replicate n 0) := by
  refine ⟨by simp, fun v hv => ?_⟩
  have : inAt (List.replicate n 0) v = 0 := by unfold inAt; rw [List.getElem?_replicate, if_pos hv]; rfl
  rw [this]
  exact ⟨Nat.le_refl _, inC_zero es hv, fun h => absurd h (Nat.lt_irrefl _)⟩

theorem lft_init {n : Nat} {es : List Ed} {j : Nat} {cl : List Nat} (h : Lev n es j cl) : Lft n es j cl (initL n cl j n) := by
  refine ⟨tab_len _ _, fun v hv => ?_, fun v hv => ?_⟩
  · have hn := inC_lt hv
    unfold initL
    rw [lat_tab _ hn]
    obtain ⟨h1, _, h3⟩ := h.2 v hn
    have : inAt cl v = j := by
      apply Classical.byContradiction
      intro hne
      exact h3 (by omega) (inC_le (by omega) hv)
    simp [hn, this]
  · have hn : v < n := by have := lat_lt hv; unfold initL at this; rwa [tab_len] at this
    unfold initL at hv
    rw [lat_tab _ hn] at hv
    simpa [hn] using hv

theorem deg_at {n : Nat} (es : List Ed) (L : List Bool) {v : Nat} (hv : v < n) : inAt (degRow n L es) v = dgT es (lat L) v := by unfold degRow; rw [inAt_tab _ hv]

theorem lft_prune {n : Nat} {es : List Ed} {j : Nat} {cl : List Nat} {L : List Bool} (h : Lft n es j cl L) : Lft n es j cl (pruneL n L (degRow n L es) (j + 1) n) := by
  obtain ⟨h1, h2, h3⟩ := h
  refine ⟨tab_len _ _, fun v hv => ?_, fun v hv => ?_⟩
  · have hn := inC_lt hv
    unfold pruneL
    rw [lat_tab _ hn, h2 v hv, deg_at es L hn]
    obtain ⟨T, hT1, hT2⟩ := hv
    have hm := dgT_mono es (T := T) (U := lat L) (fun u hu => h2 u ⟨T, hu, hT2⟩) v
    have := (hT2 v hT1).2
    have hno : ¬ dgT es (lat L) v < j + 1 := by omega
    simp [hno]
  · have hn : v < n := by have := lat_lt hv; unfold pruneL at this; rwa [tab_len] at this
    unfold pruneL at hv
    rw [lat_tab _ hn, Bool.and_eq_true] at hv
    exact h3 v hv.1

theorem stable_of {n : Nat} {es : List Ed} {j : Nat} {L : List Bool} (h : L.length = n) (ha : again L (degRow n L es) (j + 1) n = false) : pruneL n L (degRow n L es) (j + 1) n = L ∧ Stable es j L := by
  have hno : ∀ v, v < n → lat L v = true → ¬ inAt (degRow n L es) v < j + 1 := by
    intro v hv hl hd
    have := (again_iff L (degRow n L es) (j + 1) n).2 ⟨v, hv, hl, hd⟩
    rw [ha] at this; exact absurd this (by simp)
  constructor
  · subst h
    unfold pruneL
    conv => rhs; rw [← tab_self L false]
    apply tab_congr
    intro v hv
    show _ = lat L v
    cases hl : lat L v
    · rfl
    · simp [hno v hv hl]
  · intro v hl
    have hv : v < n := by have := lat_lt hl; omega
    have := hno v hv hl
    rw [deg_at es L hv] at this
    omega

theorem prune_less {n : Nat} {es : List Ed} {j : Nat} {L : List Bool} (ha : again L (degRow n L es) (j + 1) n = true) : cntL n (pruneL n L (degRow n L es) (j + 1) n) < cntL n L := by
  obtain ⟨v, hv, hl, hd⟩ := (again_iff _ _ _ _).1 ha
  unfold cntL
  refine (count_lt (List.range n) (lat L) (lat (pruneL n L (degRow n L es) (j + 1) n)) (fun x hx h => ?_)).2 ⟨v, List.mem_range.2 hv, hl, ?_⟩
  · have hxn := List.mem_range.1 hx
    unfold pruneL at h
    rw [lat_tab _ hxn, Bool.and_eq_true] at h
    exact h.1
  · unfold pruneL
    rw [lat_tab _ hv]; simp [hv, hd]

theorem left_is {n : Nat} {es : List Ed} {j : Nat} {cl : List Nat} {L : List Bool} (h : Lft n es j cl L) (hs : Stable es j L) (v : Nat) : lat L v = true ↔ inC n es (j + 1) v :=
  ⟨fun hv => inC_of_set (L := lat L) (fun u hu => ⟨by have := lat_lt hu; rw [h.1] at this; exact this, hs u hu⟩) hv, h.2.1 v⟩

theorem lev_next {n : Nat} {es : List Ed} {j : Nat} {cl : List Nat} {L : List Bool} (hl : Lev n es j cl) (h : Lft n es j cl L) (hs : Stable es j L) : Lev n es (j + 1) (raiseL n cl L (j + 1) n) := by
  refine ⟨tab_len _ _, fun v hv => ?_⟩
  unfold raiseL
  rw [inAt_tab _ hv]
  obtain ⟨h1, h2, h3⟩ := hl.2 v hv
  by_cases hL : lat L v = true
  · rw [if_pos ⟨hv, hL⟩]
    exact ⟨Nat.le_refl _, (left_is h hs v).1 hL, fun hh => absurd hh (Nat.lt_irrefl _)⟩
  · rw [if_neg (fun hh => hL hh.2)]
    refine ⟨by omega, h2, fun _ hc => ?_⟩
    by_cases hj : inAt cl v < j
    · exact h3 hj hc
    · have : inAt cl v = j := by omega
      rw [this] at hc
      exact hL ((left_is h hs v).2 hc)

theorem lev_break {n : Nat} {es : List Ed} {j : Nat} {cl : List Nat} {L : List Bool} (hl : Lev n es j cl) (h : Lft n es j cl L) (hs : Stable es j L) (hno : someL L n = false) : ∀ v, v < n → IsCore n es v (inAt (raiseL n cl L (j + 1) n) v) := by
  intro v hv
  have hL : ¬ lat L v = true := fun hh => by
    have := (someL_iff L n).2 ⟨v, hv, hh⟩
    rw [hno] at this; exact absurd this (by simp)
  obtain ⟨h1, h2, h3⟩ := (lev_next hl h hs).2 v hv
  refine ⟨h2, h3 ?_⟩
  unfold raiseL
  rw [inAt_tab _ hv, if_neg (fun hh => hL hh.2)]
  have := (hl.2 v hv).1
  omega

theorem lev_end {n : Nat} {es : List Ed} {j : Nat} {cl : List Nat} (hj : 2 * es.length ≤ j) (hl : Lev n es j cl) : ∀ v, v < n → IsCore n es v (inAt cl v) := by
  intro v hv
  obtain ⟨h1, h2, h3⟩ := hl.2 v hv
  refine ⟨h2, fun hc => ?_⟩
  by_cases h : inAt cl v < j
  · exact h3 h hc
  · have := inC_len hc
    omega

end Go.Proofs.Ytjmggfpomnnegaa
