/- Which operations do not write. -/
import Derived.Test.YtefpagijgiggmabCalm2
namespace Go.Proofs.Ytefpagijgiggmab
open Go Go.RowKit
section
variable {P : Program}
theorem NW.elemOf_ (t : TypeId) : NW P (elemOf t) := by
  unfold elemOf
  repeat' first | exact NW.underlying_ _ | exact NW.pure_ _ | exact NW.stuck_ _ | (refine NW.bind_ _ _ ?_ fun _ => ?_) | split | dsimp only
theorem NW.newVar_ (t : TypeId) (v : Value) : NW P (newVar t v) := by
  unfold newVar newRow
  exact NW.bind_ _ _ (NW.newObj_ _) fun _ => NW.pure_ _
theorem NW.runtimePanic_ {α : Type} (e : RuntimeError) : NW P (runtimePanic e : Sem α) := by
  unfold runtimePanic
  cases e <;> repeat' first | exact NW.program_ | exact NW.goPanic_ _ | exact NW.elemOf_ _ | exact NW.newVar_ _ _ | (refine NW.bind_ _ _ ?_ fun _ => ?_) | split | dsimp only
theorem NW.boundsPanic_ {α : Type} (k : IntKind) (x y : Int) (c : BoundsCode) : NW P (boundsPanic k x y c : Sem α) := by
  unfold boundsPanic
  repeat' first | exact NW.runtimePanic_ _ | exact NW.pure_ _ | exact NW.map_ _ _ (NW.choose_ _) | (refine NW.bind_ _ _ ?_ fun _ => ?_) | split | dsimp only
theorem NW.byteOf_ (a : Addr) : NW P (byteOf a) := by
  unfold byteOf
  repeat' first | exact NW.program_ | exact NW.noView_ _ | exact NW.shape_ _ | exact NW.pure_ _ | exact NW.stuck_ _ | (refine NW.bind_ _ _ ?_ fun _ => ?_) | split | dsimp only
theorem NW.fieldPlace_ (a : Addr) (f : Field) : NW P (fieldPlace a f) := by
  unfold fieldPlace partAt
  repeat' first | exact NW.byteOf_ _ | exact NW.sizeOf_ _ | exact NW.pure_ _ | (refine NW.bind_ _ _ ?_ fun _ => ?_) | split | dsimp only
theorem NW.asIntOf_ (v : Value) : NW P (asIntOf v) := by
  unfold asIntOf
  split <;> trivial
theorem NW.asBool_ (v : Value) : NW P (asBool v) := by
  unfold asBool
  split <;> trivial
theorem NW.asAgg_ (v : Value) : NW P (asAgg v) := by
  unfold asAgg
  split <;> trivial
theorem NW.sureAddr_ (v : Value) : NW P (Instr.sureAddr v) := by
  unfold Instr.sureAddr
  split <;> trivial
theorem NW.typeStr_ (t : TypeId) : NW P (typeStr t) := by
  unfold typeStr
  repeat' first | exact NW.typeInfo_ _ | exact NW.unsupported_ _ | exact NW.pure_ _ | (refine NW.bind_ _ _ ?_ fun _ => ?_) | split | dsimp only
theorem NW.samePointer_ (a b : Option Addr) : NW P (samePointer a b) := by
  unfold samePointer
  split
  · exact NW.sameAddr_ _ _
  · exact NW.pure_ _
set_option maxHeartbeats 4000000 in
theorem NW.equalIn_ : ∀ (d : Nat) (t : TypeId) (x y : Value), NW P (Op.equalIn d t x y)
  | 0, t, x, y => trivial
  | d + 1, t, x, y => by
    rw [Op.equalIn]
    refine NW.bind_ _ _ (NW.underlying_ _) fun u => ?_
    split <;> repeat' first | exact NW.equalIn_ d _ _ _ | exact NW.samePointer_ _ _ | exact NW.sameAddr_ _ _ | exact NW.behindNumber_ _ | exact NW.byteOf_ _ | exact NW.typeStr_ _ | exact NW.runtimePanic_ _ | exact NW.part_ _ _ _ | exact NW.sizeOf_ _ | exact NW.typeInfo_ _ | exact NW.program_ | exact NW.choose_ _ | exact NW.pure_ _ | exact NW.stuck_ _ | exact NW.unsupported_ _ | (refine NW.forInA_ _ (fun _ _ => ?_) _ _) | (refine NW.forInR_ _ (fun _ _ => ?_) _ _) | (refine NW.bind_ _ _ ?_ fun _ => ?_) | split | dsimp only
theorem NW.eqGuardIn_ : ∀ (d : Nat) (t : TypeId) (x y : Value), NW P (Op.eqGuardIn d t x y)
  | 0, t, x, y => trivial
  | d + 1, t, x, y => by
    rw [Op.eqGuardIn]
    refine NW.bind_ _ _ (NW.underlying_ _) fun u => ?_
    split <;> repeat' first | exact NW.eqGuardIn_ d _ _ _ | exact NW.part_ _ _ _ | exact NW.sizeOf_ _ | exact NW.pure_ _ | (refine NW.forInA_ _ (fun _ _ => ?_) _ _) | (refine NW.forInR_ _ (fun _ _ => ?_) _ _) | (refine NW.bind_ _ _ ?_ fun _ => ?_) | split | dsimp only
end
end Go.Proofs.Ytefpagijgiggmab
