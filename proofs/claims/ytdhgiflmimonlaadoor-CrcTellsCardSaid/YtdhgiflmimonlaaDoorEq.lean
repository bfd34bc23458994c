/- Arrays of integers held against each other. -/
import Derived.Test.YtdhgiflmimonlaaDoorBase
namespace Go.Proofs.YtdhgiflmimonlaaDoor
open Go Go.RowKit

variable {P : Program} {w : World} {t e : TypeId} {k : IntKind}

theorem run_part_int (he : P.underlying e = some (.int k)) (xs : List Int) (j : Nat) (x : Int) (h : xs[j]? = some x) :
    (part e (xs.map (.int k)).toArray j).run P w = .ok (.int k x) w := by
  simp [part, isAgg, run_underlying he, h]

theorem run_eq_loop (he : P.underlying e = some (.int k)) (d : Nat) (xs ys : List Int) (hl : ys.length = xs.length) :
    ∀ (m j : Nat), j + m = xs.length →
    (forIn (List.range' j m) (none, ()) fun i (_ : Option Bool × Unit) => do
              let a ← part e (List.map (Value.int k) xs).toArray (i * 1)
              let b ← part e (List.map (Value.int k) ys).toArray (i * 1)
              let c ← Op.equalIn (d + 1) e a b
              if (!c) = true then pure (ForInStep.done (some false, ())) else pure (ForInStep.yield (none, ())) : Sem (Option Bool × Unit)).run P w =
      .ok (if xs.drop j == ys.drop j then (none, ()) else (some false, ())) w := by
  intro m
  induction m with
  | zero =>
    intro j hj
    rw [List.drop_eq_nil_of_le (by omega), List.drop_eq_nil_of_le (by omega)]
    simp
  | succ m ih =>
    intro j hj
    have hx : xs[j]? = some (xs[j]'(by omega)) := List.getElem?_eq_getElem (by omega)
    have hy : ys[j]? = some (ys[j]'(by omega)) := List.getElem?_eq_getElem (by omega)
    rw [List.range'_succ, List.forIn_cons]
    simp only [Nat.mul_one, Sem.run_bind, run_part_int he xs j _ hx, run_part_int he ys j _ hy, Result.andThen_ok, run_equalIn_int w d e k k _ _ he]
    have hd : (xs.drop j == ys.drop j) = ((xs[j]'(by omega) == ys[j]'(by omega)) && (xs.drop (j + 1) == ys.drop (j + 1))) := by
      rw [List.drop_eq_getElem_cons (show j < xs.length by omega), List.drop_eq_getElem_cons (show j < ys.length by omega)]; rfl
    rw [hd]
    have := ih (j + 1) (by omega)
    simp only [Nat.mul_one, Sem.run_bind] at this
    cases hab : (xs[j]'(by omega) == ys[j]'(by omega))
    · simp only [Bool.not_false, if_true, Sem.run_pure, Result.andThen_ok, Bool.false_and, Bool.false_eq_true, if_false]
    · simp only [Bool.not_true, Bool.false_eq_true, if_false, Sem.run_pure, Result.andThen_ok, Bool.true_and]
      exact this

theorem run_equalIn_ints (d : Nat) (xs ys : List Int) (hn : P.underlying t = some (.array xs.length e)) (he : P.underlying e = some (.int k)) (hs : (P.info? e).map (·.size) = some 1) (hl : ys.length = xs.length) :
    (Op.equalIn (d + 2) t (.agg (xs.map (.int k)).toArray) (.agg (ys.map (.int k)).toArray)).run P w = .ok (xs == ys) w := by
  obtain ⟨i, hi, hi1⟩ : ∃ i, P.info? e = some i ∧ i.size = 1 := by
    cases h : P.info? e with
    | none => rw [h] at hs; cases hs
    | some i => rw [h] at hs; exact ⟨i, rfl, by simpa using hs⟩
  rw [Op.equalIn]
  simp only [Sem.run_bind, run_underlying hn, Result.andThen_ok, Std.Legacy.Range.forIn_eq_forIn_range', sizeOf, typeInfo, run_program, hi, hi1, Sem.run_pure]
  have hz : [:xs.length].size = xs.length := by simp [Std.Legacy.Range.size]
  rw [hz]
  have := run_eq_loop (P := P) (w := w) he d xs ys hl xs.length 0 (by omega)
  simp only [Sem.run_bind, List.drop_zero] at this
  rw [this]
  by_cases h : xs = ys <;> simp [h]

/-- '==' of two arrays of integers. -/
theorem run_eql_ints (xs ys : List Int) (hn : P.underlying t = some (.array xs.length e)) (he : P.underlying e = some (.int k)) (hs : (P.info? e).map (·.size) = some 1) (hl : ys.length = xs.length) :
    (Op.equalIn 10000 t (.agg (xs.map (.int k)).toArray) (.agg (ys.map (.int k)).toArray)).run P w = .ok (xs == ys) w := run_equalIn_ints 9998 xs ys hn he hs hl
end Go.Proofs.YtdhgiflmimonlaaDoor
