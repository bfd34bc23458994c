/- A map that the call makes out of a literal with int keys, and a look into it. -/
import Derived.Test.YtoehcmddfpompaaRange
import Derived.MapKept
namespace Go.Proofs.Ytoehcmddfpompaa
open Go Go.RowKit Go.MapKept

/-- What stands at a key. -/
def mget : List (Int × Value) → Int → Option Value
  | [], _ => none
  | p :: l, k => if p.1 = k then some p.2 else mget l k
/-- Block r is a map with these entries. -/
def MapIs (w : World) (r : Nat) (l : List (Int × Value)) : Prop :=
  ∃ es c, w.heap[r]? = some (.map es c) ∧ es.toList.map (fun e => (e.key, e.val)) = l.map fun p => (.int .i64 p.1, p.2)
theorem MapIs.lt {w : World} {r : Nat} {l : List (Int × Value)} (h : MapIs w r l) : r < w.heap.size := by
  obtain ⟨es, c, h1, _⟩ := h; exact (Array.getElem?_eq_some_iff.1 h1).1
theorem MapIs.keep {S : Nat → Prop} {w w' : World} {r : Nat} {l : List (Int × Value)} (h : MapIs w r l) (hk : KeepB S w w') (hs : S r) : MapIs w' r l := by
  obtain ⟨es, c, h1, h2⟩ := h; exact ⟨es, c, hk.heap hs h1, h2⟩
theorem MapIs.below {B : Nat} {w w' : World} {r : Nat} {l : List (Int × Value)} (h : MapIs w r l) (hb : Below B w w') (hr : r < B) : MapIs w' r l := by
  obtain ⟨es, c, h1, h2⟩ := h; exact ⟨es, c, (hb.block r hr).trans h1, h2⟩
theorem MapIs.made (w : World) : MapIs (w.alloc (.map #[] 0)) w.heap.size [] := ⟨#[], 0, (heap_alloc w _).1, rfl⟩

theorem findNow_mget (k : Int) : ∀ (es : List MapEntry) (l : List (Int × Value)) (i : Nat), es.map (fun e => (e.key, e.val)) = (l.map fun p => (Value.int .i64 p.1, p.2)) →
    ∃ j, Instr.findNow (.int .i64) (.int .i64 k) es i = some ((mget l k).map fun v => (j, v))
  | [], [], i, _ => ⟨i, rfl⟩
  | [], _ :: _, i, h => by simp at h
  | _ :: _, [], i, h => by simp at h
  | e :: es, p :: l, i, h => by
    simp only [List.map_cons, List.cons.injEq, Prod.mk.injEq] at h
    obtain ⟨⟨h1, h2⟩, h3⟩ := h
    by_cases hk : p.1 = k
    · refine ⟨i, ?_⟩
      simp [Instr.findNow, Instr.sameNow, h1, h2, hk, mget]
    · obtain ⟨j, hj⟩ := findNow_mget k es l (i + 1) h3
      refine ⟨j, ?_⟩
      have hk' : (k == p.1) = false := by simpa using fun e => hk e.symm
      simp [Instr.findNow, Instr.sameNow, h1, hk', hk, mget, hj]

section
variable {P : Program} {w : World} {t kt e : TypeId} {r : Nat} {l : List (Int × Value)}
theorem isKey_i64 (k : Int) : IsKey (.int .i64) (.int .i64 k) := rfl

theorem run_lookup_map (ht : P.underlying t = some (.map kt e)) (hk : P.underlying kt = some (.int .i64)) {z : Value} (hz : ∀ w, (zeroValue e).run P w = .ok z w) (h : MapIs w r l) (k : Int) (ok : Bool) :
    (Instr.lookup t (.map (some r)) (.int .i64 k) ok).run P w = .ok (if ok then .tuple #[(mget l k).getD z, .bool (mget l k).isSome] else (mget l k).getD z) w := by
  obtain ⟨es, c, h1, h2⟩ := h
  obtain ⟨j, hj⟩ := findNow_mget k es.toList l 0 h2
  simp only [Instr.lookup, Sem.run_bind, run_underlying ht, Result.andThen_ok, MapKept.run_getObj_map h1, Sem.run_pure, run_checkKey hk (isKey_i64 k), run_findKey hk hj]
  cases hm : mget l k with
  | none => simp [hz]
  | some v => simp

theorem run_insert_map (ht : P.underlying t = some (.map kt e)) (hk : P.underlying kt = some (.int .i64)) (h : MapIs w r l) (k : Int) (v : Value) (hn : mget l k = none) :
    ∃ w', (Instr.mapUpdate t (.map (some r)) (.int .i64 k) v).run P w = .ok () w' ∧ MapIs w' r (l ++ [(k, v)]) ∧ KeepB (fun b => b ≠ r) w w' := by
  obtain ⟨es, c, h1, h2⟩ := h
  obtain ⟨j, hj⟩ := findNow_mget k es.toList l 0 h2
  rw [hn] at hj
  refine ⟨w.putObj r (.map (es.push { key := .int .i64 k, val := v, born := c }) (c + 1)), ?_, ⟨_, _, World.putObj_heap_same (Array.getElem?_eq_some_iff.1 h1).1, ?_⟩, (KeepB.refl _ _).putObj _ _ (fun _ h => h rfl)⟩
  · simp only [Instr.mapUpdate, Sem.run_bind, run_underlying ht, Result.andThen_ok, MapKept.run_getObj_map h1, run_checkKey hk (isKey_i64 k), run_findKey hk hj, Option.map_none, MapKept.run_setObj_map _ h1]
    rfl
  · simp [h2]

/-- An entry of a literal, at the operation. -/
theorem list_insert {ops : Array Oper} {rest : List Oper} {o : Oper} {a : Act} {Q : Exit → Act → World → Prop} (hgd : o.guard = none) (m x y : Operand) (hop : o.op = .insert t m x y)
    (ht : P.underlying t = some (.map kt e)) (hk : P.underlying kt = some (.int .i64)) (h : MapIs w r l) (hm : a.eval m = .map (some r)) (k : Int) (hx : a.eval x = .int .i64 k) (hn : mget l k = none)
    (hK : ∀ w', MapIs w' r (l ++ [(k, a.eval y)]) → KeepB (fun b => b ≠ r) w w' → wpList P ops Q rest (a.put o.dst undef) w') : wpList P ops Q (o :: rest) a w := by
  refine wpList_plain hgd fun K' hK' => ?_
  obtain ⟨w', hrun, r1, r2⟩ := run_insert_map ht hk h k (a.eval y) hn
  unfold Oper.wp
  simp [execOp, hop, hm, hx, hrun, Result.andThen]
  exact hK' _ _ (hK w' r1 r2)
end
end Go.Proofs.Ytoehcmddfpompaa
