/-
  Small laws over any program: what two arrays of integers compare to.
-/
import Derived.WalkKit
import Derived.WalkSpells
import Derived.WalkLawsBesides
namespace Go
section
variable {P : Program} (w : World)
theorem run_sizeOf_info {t : TypeId} {i : TypeInfo} (h : P.info? t = some i) : (sizeOf t).run P w = .ok i.size w := by
  simp [sizeOf, typeInfo, h]
theorem run_part_int {t : TypeId} {k : IntKind} (h : P.underlying t = some (.int k)) (cs : Array Value) (off : Nat) (v : Value) (hv : cs[off]? = some v) :
    (part t cs off).run P w = .ok v w := by
  simp [part, isAgg, run_underlying h, hv]
theorem run_equalIn_arr_int (d : Nat) (t e : TypeId) (k : IntKind) (len : Nat) {i : TypeInfo} (xs ys : Array Value) (xv yv : Nat → Int)
    (hx : ∀ j, j < len → xs[j]? = some (.int k (xv j))) (hy : ∀ j, j < len → ys[j]? = some (.int k (yv j)))
    (ht : P.underlying t = some (.array len e)) (he : P.underlying e = some (.int k)) (hi : P.info? e = some i) (hs : i.size = 1) :
    (Op.equalIn (d + 2) t (.agg xs) (.agg ys)).run P w = .ok ((List.range' 0 len).all fun j => xv j == yv j) w := by
  have hq : ∀ (x y : Int), (Op.equalIn (d + 1) e (.int k x) (.int k y)).run P w = .ok (x == y) w := fun x y => run_equalIn_int w d e k k x y he

  rw [Op.equalIn]
  simp only [Sem.run_bind, run_underlying ht, Result.andThen_ok, run_sizeOf_info w hi, hs, Nat.mul_one, Std.Legacy.Range.forIn_eq_forIn_range', Std.Legacy.Range.size, Nat.sub_zero, Nat.add_sub_cancel, Nat.div_one]
  have hp : ∀ (cs : Array Value) (off : Nat) (v : Value), cs[off]? = some v → (part e cs off).run P w = .ok v w := fun cs off v h => run_part_int w he cs off v h
  have key : ∀ (m s : Nat), s + m ≤ len → (forIn (List.range' s m) (none, ()) fun (i : Nat) (_ : Option Bool × Unit) => do
        let a ← part e xs i
        let b ← part e ys i
        let r ← Op.equalIn (d + 1) e a b
        if (!r) = true then pure (ForInStep.done (some false, ())) else pure (ForInStep.yield (none, ()))).run P w
      = .ok (if (List.range' s m).all (fun j => xv j == yv j) then (none, ()) else (some false, ())) w := by
    intro m
    induction m with
    | zero => intro s _; simp
    | succ m ih =>
      intro s hm
      simp only [List.range'_succ, List.forIn_cons, Sem.run_bind, hp xs s _ (hx s (by omega)), hp ys s _ (hy s (by omega)), hq, Result.andThen_ok, Sem.run_ite, List.all_cons]
      cases hc : xv s == yv s
      · simp
      · have := ih (s + 1) (by omega)
        simp only [Bool.not_true, Bool.false_eq_true, if_false, Sem.run_pure, Result.andThen_ok, Bool.true_and]
        exact this
  rw [key len 0 (by omega)]
  cases (List.range' 0 len).all fun j => xv j == yv j <;> simp
theorem run_equalIn_arr4 (d : Nat) (t e : TypeId) (k : IntKind) {i : TypeInfo} (a0 a1 a2 a3 b0 b1 b2 b3 : Int)
    (ht : P.underlying t = some (.array 4 e)) (he : P.underlying e = some (.int k)) (hi : P.info? e = some i) (hs : i.size = 1) :
    (Op.equalIn (d + 2) t (.agg #[.int k a0, .int k a1, .int k a2, .int k a3]) (.agg #[.int k b0, .int k b1, .int k b2, .int k b3])).run P w = .ok (a0 == b0 && (a1 == b1 && (a2 == b2 && (a3 == b3)))) w := by
  rw [run_equalIn_arr_int w d t e k 4 _ _ (fun j => [a0, a1, a2, a3].getD j 0) (fun j => [b0, b1, b2, b3].getD j 0) (by intro j hj; match j, hj with | 0, _ => rfl | 1, _ => rfl | 2, _ => rfl | 3, _ => rfl) (by intro j hj; match j, hj with | 0, _ => rfl | 1, _ => rfl | 2, _ => rfl | 3, _ => rfl) ht he hi hs]
  simp [List.range']
theorem run_equalIn_arr8 (d : Nat) (t e : TypeId) (k : IntKind) {i : TypeInfo} (a0 a1 a2 a3 a4 a5 a6 a7 b0 b1 b2 b3 b4 b5 b6 b7 : Int)
    (ht : P.underlying t = some (.array 8 e)) (he : P.underlying e = some (.int k)) (hi : P.info? e = some i) (hs : i.size = 1) :
    (Op.equalIn (d + 2) t (.agg #[.int k a0, .int k a1, .int k a2, .int k a3, .int k a4, .int k a5, .int k a6, .int k a7]) (.agg #[.int k b0, .int k b1, .int k b2, .int k b3, .int k b4, .int k b5, .int k b6, .int k b7])).run P w = .ok (a0 == b0 && (a1 == b1 && (a2 == b2 && (a3 == b3 && (a4 == b4 && (a5 == b5 && (a6 == b6 && (a7 == b7)))))))) w := by
  rw [run_equalIn_arr_int w d t e k 8 _ _ (fun j => [a0, a1, a2, a3, a4, a5, a6, a7].getD j 0) (fun j => [b0, b1, b2, b3, b4, b5, b6, b7].getD j 0) (by intro j hj; match j, hj with | 0, _ => rfl | 1, _ => rfl | 2, _ => rfl | 3, _ => rfl | 4, _ => rfl | 5, _ => rfl | 6, _ => rfl | 7, _ => rfl) (by intro j hj; match j, hj with | 0, _ => rfl | 1, _ => rfl | 2, _ => rfl | 3, _ => rfl | 4, _ => rfl | 5, _ => rfl | 6, _ => rfl | 7, _ => rfl) ht he hi hs]
  simp [List.range']
end
end Go
