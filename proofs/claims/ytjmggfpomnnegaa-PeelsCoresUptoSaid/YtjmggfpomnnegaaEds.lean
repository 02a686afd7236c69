/-
  Lists of edges in memory; neighbours.
-/
import Derived.Test.YtjmggfpomnnegaaGraph
import Derived.Test.YtjmggfpomnnegaaNums
namespace Go.Proofs.Ytjmggfpomnnegaa
open Go.RowKit
set_option maxRecDepth 100000

/-- A slice of edges that is read. -/
structure IsEds (w : World) (a : Option Addr) (eb eo : Nat) (es : List Ed) : Prop where
  ad : 0 < es.length → a = some ⟨eb, eo, none⟩
  lt : 0 < es.length → eb < w.heap.size
  c0 : ∀ j (h : j < es.length), w.cell? ⟨eb, eo + j * 3, none⟩ = some (.int .u32 es[j].src)
  c1 : ∀ j (h : j < es.length), w.cell? ⟨eb, eo + j * 3 + 1, none⟩ = some (.int .u32 es[j].dst)
  c2 : ∀ j (h : j < es.length), w.cell? ⟨eb, eo + j * 3 + 2, none⟩ = some (.int .u32 es[j].w)

theorem IsEds.below {w w' : World} {a : Option Addr} {eb eo B : Nat} {es : List Ed} (h : IsEds w a eb eo es) (hb : Below B w w') (hB : 0 < es.length → eb < B) : IsEds w' a eb eo es where
  ad := h.ad
  lt := fun h0 => Nat.lt_of_lt_of_le (h.lt h0) hb.size
  c0 := fun j hj => by rw [hb.cell (p := ⟨eb, eo + j * 3, none⟩) (hB (by omega))]; exact h.c0 j hj
  c1 := fun j hj => by rw [hb.cell (p := ⟨eb, eo + j * 3 + 1, none⟩) (hB (by omega))]; exact h.c1 j hj
  c2 := fun j hj => by rw [hb.cell (p := ⟨eb, eo + j * 3 + 2, none⟩) (hB (by omega))]; exact h.c2 j hj

def liesB (e : Ed) (v u : Nat) : Bool := decide (v ≠ u ∧ (e.src = v ∧ e.dst = u ∨ e.src = u ∧ e.dst = v))
def nearB (es : List Ed) (v u : Nat) : Bool := es.any fun e => liesB e v u

set_option maxHeartbeats 1000000 in
theorem lies_any (s d x v u : Nat) (w : World) :
    Calls Try.prog 54 #[.agg #[.int .u32 s, .int .u32 d, .int .u32 x], .int .u32 v, .int .u32 u] w fun e w' => e = .returned (.bool (liesB ⟨s, d, x⟩ v u)) ∧ Below w.heap.size w w' := by
  go_enter Try.func54, Try.ntmps54
  go_wp2
  all_goals
    go_ret
    refine ⟨congrArg (fun b => Ending.returned (.bool b)) ?_, (by repeat (first | with_reducible exact Below.refl _ _ | with_reducible assumption | with_reducible refine below_drewN ?_ _ | with_reducible refine Below.drew ?_ | ((with_reducible refine Bset ?_ ?_); focus (first | omega | (simp; done) | (simp; omega))) | ((with_reducible refine Ball ?_ ?_); focus (first | omega | (simp; done) | (simp; omega)))))⟩
    rw [Bool.eq_iff_iff]
    simp [liesB]
    try omega

set_option maxHeartbeats 1000000 in
theorem nearL_any (a : Option Addr) (cap eb eo : Nat) (es : List Ed) (v u : Nat) (w : World) (hE : IsEds w a eb eo es) (hlen : es.length ≤ 1048576) :
    Calls Try.prog 39 #[.slice a es.length cap, .int .u32 v, .int .u32 u] w fun e w' => e = .returned (.bool (nearB es v u)) ∧ Below w.heap.size w w' := by
  go_enter Try.func39, Try.ntmps39
  go_wp2
  go_loopw [7, 8] (fun i _ wr => ∃ k : Nat, k ≤ es.length ∧ i = .int .i64 k ∧ nearB (es.take k) v u = false ∧ Below w.heap.size w wr) (fun i _ _ => es.length - (intOf i).toNat)
  case atStart => exact ⟨0, Nat.zero_le _, rfl, rfl, Below.refl _ _⟩
  case round =>
    obtain ⟨k, hk, rfl, hnear, hbl⟩ := hrel
    have HN := Lib.hid hnear
    clear hnear
    by_cases hlt : k < es.length
    · have hEr := hE.below hbl hE.lt
      obtain rfl := hE.ad (by omega)
      have c0 := hEr.c0 k hlt
      have c1 := hEr.c1 k hlt
      have c2 := hEr.c2 k hlt
      have hstep : nearB (es.take (k + 1)) v u = (nearB (es.take k) v u || liesB es[k] v u) := by
        rw [List.take_succ_eq_append_getElem hlt]; unfold nearB; rw [List.any_append]; simp only [List.any_cons, List.any_nil, Bool.or_false]
      have hin : liesB es[k] v u = true → nearB es v u = true := fun h => List.any_eq_true.2 ⟨_, List.getElem_mem hlt, h⟩
      have HS := Lib.hid hstep
      have HI := Lib.hid hin
      clear hstep hin hEr
      cases h1 : ((v : Int) != (u : Int))
      · go_wp2
        have hz := hbl.size
        go_roundw
        case rel => exact ⟨k + 1, by omega, by go_num, by rw [HS.out, HN.out]; simp at h1; simp [liesB]; omega, (by repeat (first | with_reducible exact Below.refl _ _ | with_reducible assumption | with_reducible refine below_drewN ?_ _ | with_reducible refine Below.drew ?_ | ((with_reducible refine Bset ?_ ?_); focus (first | omega | (simp; done) | (simp; omega))) | ((with_reducible refine Ball ?_ ?_); focus (first | omega | (simp; done) | (simp; omega)))))⟩
        case measure => simp [intOf]; omega
      · cases h2 : ((es[k].src : Int) == (v : Int))
        · cases h4 : ((es[k].src : Int) == (u : Int))
          · go_wp2
            have hz := hbl.size
            go_roundw
            case rel => exact ⟨k + 1, by omega, by go_num, by rw [HS.out, HN.out]; simp at h1 h2 h4; simp [liesB]; omega, (by repeat (first | with_reducible exact Below.refl _ _ | with_reducible assumption | with_reducible refine below_drewN ?_ _ | with_reducible refine Below.drew ?_ | ((with_reducible refine Bset ?_ ?_); focus (first | omega | (simp; done) | (simp; omega))) | ((with_reducible refine Ball ?_ ?_); focus (first | omega | (simp; done) | (simp; omega)))))⟩
            case measure => simp [intOf]; omega
          · cases h5 : ((es[k].dst : Int) == (v : Int))
            · go_wp2
              have hz := hbl.size
              go_roundw
              case rel => exact ⟨k + 1, by omega, by go_num, by rw [HS.out, HN.out]; simp at h1 h2 h4 h5; simp [liesB]; omega, (by repeat (first | with_reducible exact Below.refl _ _ | with_reducible assumption | with_reducible refine below_drewN ?_ _ | with_reducible refine Below.drew ?_ | ((with_reducible refine Bset ?_ ?_); focus (first | omega | (simp; done) | (simp; omega))) | ((with_reducible refine Ball ?_ ?_); focus (first | omega | (simp; done) | (simp; omega)))))⟩
              case measure => simp [intOf]; omega
            · go_wp2
              have hz := hbl.size
              go_ret
              exact ⟨congrArg (fun b => Ending.returned (.bool b)) (HI.out (by simp at h1 h2 h4 h5; simp [liesB]; omega)).symm, (by repeat (first | with_reducible exact Below.refl _ _ | with_reducible assumption | with_reducible refine below_drewN ?_ _ | with_reducible refine Below.drew ?_ | ((with_reducible refine Bset ?_ ?_); focus (first | omega | (simp; done) | (simp; omega))) | ((with_reducible refine Ball ?_ ?_); focus (first | omega | (simp; done) | (simp; omega)))))⟩
        · cases h3 : ((es[k].dst : Int) == (u : Int))
          · cases h4 : ((es[k].src : Int) == (u : Int))
            · go_wp2
              have hz := hbl.size
              go_roundw
              case rel => exact ⟨k + 1, by omega, by go_num, by rw [HS.out, HN.out]; simp at h1 h2 h3 h4; simp [liesB]; omega, (by repeat (first | with_reducible exact Below.refl _ _ | with_reducible assumption | with_reducible refine below_drewN ?_ _ | with_reducible refine Below.drew ?_ | ((with_reducible refine Bset ?_ ?_); focus (first | omega | (simp; done) | (simp; omega))) | ((with_reducible refine Ball ?_ ?_); focus (first | omega | (simp; done) | (simp; omega)))))⟩
              case measure => simp [intOf]; omega
            · cases h5 : ((es[k].dst : Int) == (v : Int))
              · go_wp2
                have hz := hbl.size
                go_roundw
                case rel => exact ⟨k + 1, by omega, by go_num, by rw [HS.out, HN.out]; simp at h1 h2 h3 h4 h5; simp [liesB]; omega, (by repeat (first | with_reducible exact Below.refl _ _ | with_reducible assumption | with_reducible refine below_drewN ?_ _ | with_reducible refine Below.drew ?_ | ((with_reducible refine Bset ?_ ?_); focus (first | omega | (simp; done) | (simp; omega))) | ((with_reducible refine Ball ?_ ?_); focus (first | omega | (simp; done) | (simp; omega)))))⟩
                case measure => simp [intOf]; omega
              · go_wp2
                have hz := hbl.size
                go_ret
                exact ⟨congrArg (fun b => Ending.returned (.bool b)) (HI.out (by simp at h1 h2 h3 h4 h5; simp [liesB]; omega)).symm, (by repeat (first | with_reducible exact Below.refl _ _ | with_reducible assumption | with_reducible refine below_drewN ?_ _ | with_reducible refine Below.drew ?_ | ((with_reducible refine Bset ?_ ?_); focus (first | omega | (simp; done) | (simp; omega))) | ((with_reducible refine Ball ?_ ?_); focus (first | omega | (simp; done) | (simp; omega)))))⟩
          · go_wp2
            have hz := hbl.size
            go_ret
            exact ⟨congrArg (fun b => Ending.returned (.bool b)) (HI.out (by simp at h1 h2 h3; simp [liesB]; omega)).symm, (by repeat (first | with_reducible exact Below.refl _ _ | with_reducible assumption | with_reducible refine below_drewN ?_ _ | with_reducible refine Below.drew ?_ | ((with_reducible refine Bset ?_ ?_); focus (first | omega | (simp; done) | (simp; omega))) | ((with_reducible refine Ball ?_ ?_); focus (first | omega | (simp; done) | (simp; omega)))))⟩
    · obtain rfl : k = es.length := by omega
      have HF : Hid (nearB es v u = false) := Lib.hid (by have := HN.out; rwa [List.take_length] at this)
      go_wp2
      go_ret
      exact ⟨congrArg (fun b => Ending.returned (.bool b)) HF.out.symm, hbl⟩


set_option maxHeartbeats 1000000 in
theorem nearR_any (a : Option Addr) (cap eb eo : Nat) (es : List Ed) (v u : Nat) (w : World) (hE : IsEds w a eb eo es) (hlen : es.length ≤ 1048576) :
    Calls Try.prog 50 #[.slice a es.length cap, .int .u32 v, .int .u32 u] w fun e w' => e = .returned (.bool (nearB es v u)) ∧ Below w.heap.size w w' := by
  go_enter Try.func50, Try.ntmps50
  go_wp2
  go_loopw [7] (fun i wr => ∃ k : Nat, k ≤ es.length ∧ i = .int .i64 k ∧ nearB (es.take k) v u = false ∧ Below w.heap.size w wr) (fun i _ => es.length - (intOf i).toNat)
  case atStart => exact ⟨0, Nat.zero_le _, rfl, rfl, Below.refl _ _⟩
  case round =>
    obtain ⟨k, hk, rfl, hnear, hbl⟩ := hrel
    have HN := Lib.hid hnear
    clear hnear
    by_cases hlt : k < es.length
    · have hEr := hE.below hbl hE.lt
      obtain rfl := hE.ad (by omega)
      have c0 := hEr.c0 k hlt
      have c1 := hEr.c1 k hlt
      have c2 := hEr.c2 k hlt
      have hstep : nearB (es.take (k + 1)) v u = (nearB (es.take k) v u || liesB es[k] v u) := by
        rw [List.take_succ_eq_append_getElem hlt]; unfold nearB; rw [List.any_append]; simp only [List.any_cons, List.any_nil, Bool.or_false]
      have hin : liesB es[k] v u = true → nearB es v u = true := fun h => List.any_eq_true.2 ⟨_, List.getElem_mem hlt, h⟩
      have HS := Lib.hid hstep
      have HI := Lib.hid hin
      clear hstep hin hEr
      have hz := hbl.size
      cases hq : liesB es[k] v u
      · have HQ := Lib.hid hq
        clear hq
        go_wp2_with (go_at_call 54; refine (lies_any _ _ _ v u _).mono ?_; rintro e w1 ⟨rfl, hb1⟩; rw [HQ.out])
        have hbb : Below w.heap.size w w1 := hbl.trans (hb1.mono (by omega))
        go_roundw
        case rel => exact ⟨k + 1, by omega, by go_num, by rw [HS.out, HN.out, HQ.out]; rfl, hbb⟩
        case measure => simp [intOf]; omega
      · have HQ := Lib.hid hq
        clear hq
        go_wp2_with (go_at_call 54; refine (lies_any _ _ _ v u _).mono ?_; rintro e w1 ⟨rfl, hb1⟩; rw [HQ.out])
        have hbb : Below w.heap.size w w1 := hbl.trans (hb1.mono (by omega))
        go_ret
        exact ⟨congrArg (fun b => Ending.returned (.bool b)) (HI.out HQ.out).symm, hbb⟩
    · obtain rfl : k = es.length := by omega
      have HF : Hid (nearB es v u = false) := Lib.hid (by have := HN.out; rwa [List.take_length] at this)
      go_wp2
      go_ret
      exact ⟨congrArg (fun b => Ending.returned (.bool b)) HF.out.symm, hbl⟩

theorem IsEds.of_own {w : World} {base g n cap : Nat} {es : List Ed} (h : w.ownsRow base 37 3 (.slice (some ⟨g, 0, none⟩) n cap) n (edCells es)) (hn : n = es.length) (hg : g < w.heap.size) :
    IsEds w (some ⟨g, 0, none⟩) g 0 es := by
  subst hn
  have hx : ∀ (l : List Ed) (j : Nat) (hj : j < l.length), (edCells l)[j * 3]? = some (.int .u32 l[j].src) ∧ (edCells l)[j * 3 + 1]? = some (.int .u32 l[j].dst) ∧ (edCells l)[j * 3 + 2]? = some (.int .u32 l[j].w) := by
    intro l
    induction l with
    | nil => intro j hj; simp at hj
    | cons e l ih =>
      intro j hj
      cases j with
      | zero => simp [edCells, Ed.cells]
      | succ j =>
        have := ih j (by simpa using hj)
        have e3 : (j + 1) * 3 = j * 3 + 3 := by omega
        simp only [edCells, List.flatMap_cons, Ed.cells] at this ⊢
        rw [e3]
        simpa using this
  refine ⟨fun _ => rfl, fun _ => hg, fun j hj => ?_, fun j hj => ?_, fun j hj => ?_⟩
  · rw [Nat.zero_add, h.cellAt _ (by omega)]; exact (hx es j hj).1
  · rw [Nat.zero_add, h.cellAt _ (by omega)]; exact (hx es j hj).2.1
  · rw [Nat.zero_add, h.cellAt _ (by omega)]; exact (hx es j hj).2.2

end Go.Proofs.Ytjmggfpomnnegaa
