/- Operations that only read. -/
import Derived.Test.YtefpagijgiggmabCalm3
namespace Go.Proofs.Ytefpagijgiggmab
open Go Go.RowKit
section
variable {P : Program}
theorem NW.ite_ {α : Type} (c : Prop) [Decidable c] (a b : Sem α) (ha : NW P a) (hb : NW P b) : NW P (if c then a else b) := by split <;> assumption
theorem NW.intArith_ (op : BinOp) (k : IntKind) (x y : Int) : NW P (Op.intArith op k x y) := by unfold Op.intArith; split <;> trivial
theorem NW.intBits_ (op : BinOp) (k : IntKind) (x y : Int) : NW P (Op.intBits op k x y) := by unfold Op.intBits; dsimp only; split <;> trivial
theorem NW.intCmp_ (op : BinOp) (x y : Int) : NW P (Op.intCmp op x y) := by unfold Op.intCmp; split <;> trivial
theorem NW.intDiv_ (op : BinOp) (k : IntKind) (x y : Int) : NW P (Op.intDiv op k x y) := by
  unfold Op.intDiv
  split
  · exact NW.runtimePanic_ _
  · split <;> trivial
theorem NW.shift_ (op : BinOp) (k : IntKind) (x : Int) (yk : IntKind) (y : Int) : NW P (Op.shift op k x yk y) := by
  unfold Op.shift
  split
  · exact NW.runtimePanic_ _
  · dsimp only; split <;> trivial
theorem NW.stringOp_ (op : BinOp) (x y : ByteArray) : NW P (Op.stringOp op x y) := by
  unfold Op.stringOp
  dsimp only
  (repeat' split) <;> trivial
theorem NW.floatCmp_ (op : BinOp) (k : FloatKind) (x y : Nat) : NW P (Op.floatCmp op k x y) := by
  unfold Op.floatCmp
  dsimp only
  split <;> trivial
theorem NW.floatArith_ (op : BinOp) (k : FloatKind) (x y : Nat) : NW P (Op.floatArith op k x y) := by
  unfold Op.floatArith
  repeat' first | exact NW.pure_ _ | exact NW.stuck_ _ | exact NW.choose_ _ | (refine NW.bind_ _ _ ?_ fun _ => ?_) | split | dsimp only
theorem NW.asInt_ (v : Value) : NW P (asInt v) := by
  unfold asInt
  exact NW.bind_ _ _ (NW.asIntOf_ _) fun _ => NW.pure_ _
theorem NW.asNumber_ (a : Addr) (b : Bool) : NW P (asNumber a b) := by
  unfold asNumber
  exact NW.bind_ _ _ (NW.newObj_ _) fun _ => NW.pure_ _
theorem NW.unsafeAdd_ (ts : Array TypeId) (t : TypeId) (vs : Array Value) : NW P (Builtin.unsafeAdd_ ts t vs) := by
  rcases vs with ⟨l⟩
  rcases l with _ | ⟨x, _ | ⟨y, _ | ⟨z, r⟩⟩⟩
  · exact NW.stuck_ _
  · exact NW.stuck_ _
  · cases x <;> first | exact NW.stuck_ _ | skip
    unfold Builtin.unsafeAdd_
    dsimp only
    repeat' first | exact NW.pure_ _ | exact NW.stuck_ _ | exact NW.unsupported_ _ | exact NW.asInt_ _ | exact NW.viewAt_ _ | exact NW.shape_ _ | exact NW.program_ | (refine NW.bind_ _ _ ?_ fun _ => ?_) | split | dsimp only
  · cases x <;> exact NW.stuck_ _
theorem NW.movedNumber_ (t : TypeId) (x y : Value) : NW P (movedNumber t x y) := by
  unfold movedNumber
  repeat' first | exact NW.underlying_ _ | exact NW.pure_ _ | exact NW.stuck_ _ | exact NW.unsupported_ _ | exact NW.unsafeAdd_ _ _ _ | exact NW.behindNumber_ _ | exact NW.asNumber_ _ _ | (refine NW.bind_ _ _ ?_ fun _ => ?_) | split | dsimp only
theorem NW.movedPointer_ (t : TypeId) (x y : Value) : NW P (movedPointer t x y) := by
  unfold movedPointer
  repeat' first | exact NW.numberAt_ _ | exact NW.pure_ _ | exact NW.stuck_ _ | exact NW.unsupported_ _ | exact NW.unsafeAdd_ _ _ _ | (refine NW.bind_ _ _ ?_ fun _ => ?_) | split | dsimp only
theorem NW.twoPlaces_ (a b : Addr) : NW P (Op.twoPlaces a b) := by
  unfold Op.twoPlaces
  repeat' first | exact NW.byteOf_ _ | exact NW.program_ | exact NW.pure_ _ | exact NW.unsupported_ _ | (refine NW.bind_ _ _ ?_ fun _ => ?_) | split | dsimp only
theorem NW.addrSub_ (k : IntKind) (a b : Addr) : NW P (Op.addrSub k a b) := by
  unfold Op.addrSub
  exact NW.bind_ _ _ (NW.twoPlaces_ _ _) fun _ => NW.pure_ _
theorem NW.addrCmp_ (op : BinOp) (a b : Addr) : NW P (Op.addrCmp op a b) := by
  unfold Op.addrCmp
  refine NW.bind_ _ _ (NW.twoPlaces_ _ _) fun _ => ?_
  dsimp only
  split <;> trivial
theorem NW.addrMod_ (k : IntKind) (a : Addr) (n : Int) : NW P (Op.addrMod k a n) := by
  unfold Op.addrMod
  repeat' first | exact NW.byteOf_ _ | exact NW.shape_ _ | exact NW.typeInfo_ _ | exact NW.pure_ _ | exact NW.unsupported_ _ | (refine NW.bind_ _ _ ?_ fun _ => ?_) | split | dsimp only
theorem NW.eqGuard_ (op : BinOp) (t : TypeId) (x y : Operand) (a b : Value) : NW P (eqGuard op t x y a b) := by
  unfold eqGuard Op.maxDepth
  repeat' first | exact NW.eqGuardIn_ _ _ _ _ | exact NW.program_ | exact NW.pure_ _ | exact NW.unsupported_ _ | (refine NW.bind_ _ _ ?_ fun _ => ?_) | split | dsimp only
theorem NW.floatToFloat_ (a : FloatKind) (x : Nat) (b : FloatKind) : NW P (Conv.floatToFloat a x b) := by
  unfold Conv.floatToFloat
  repeat' first | exact NW.pure_ _ | exact NW.stuck_ _ | exact NW.choose_ _ | (refine NW.bind_ _ _ ?_ fun _ => ?_) | split | dsimp only
theorem NW.cArith_ (op : BinOp) (k : FloatKind) (x y : Nat) : NW P (Op.Complex.arith op k x y) := by
  unfold Op.Complex.arith
  repeat' first | exact NW.pure_ _ | exact NW.stuck_ _ | exact NW.floatArith_ _ _ _ _ | (refine NW.bind_ _ _ ?_ fun _ => ?_) | split | dsimp only
theorem NW.cCmp_ (op : BinOp) (k : FloatKind) (x y : Nat) : NW P (Op.Complex.cmp op k x y) := by
  unfold Op.Complex.cmp
  exact NW.bind_ _ _ (NW.floatCmp_ _ _ _ _) fun _ => NW.asBool_ _
theorem NW.cConv_ (k : FloatKind) (x : Nat) (d : FloatKind) : NW P (Op.Complex.conv k x d) := by
  unfold Op.Complex.conv
  repeat' first | exact NW.pure_ _ | exact NW.stuck_ _ | exact NW.floatToFloat_ _ _ _ | (refine NW.bind_ _ _ ?_ fun _ => ?_) | split | dsimp only
set_option maxHeartbeats 4000000 in
theorem NW.cQuot_ (a b c d : Nat) : NW P (Op.Complex.quotient a b c d) := by
  unfold Op.Complex.quotient Op.Complex.corrected Op.Complex.add Op.Complex.sub Op.Complex.mul Op.Complex.quo
  repeat' first | exact NW.pure_ _ | exact NW.cArith_ _ _ _ _ | exact NW.cCmp_ _ _ _ _ | (refine NW.bind_ _ _ ?_ fun _ => ?_) | split | dsimp only
theorem NW.cProd_ (a b c d : Nat) : NW P (Op.Complex.product a b c d) := by
  unfold Op.Complex.product Op.Complex.add Op.Complex.sub Op.Complex.mul
  repeat' first | exact NW.pure_ _ | exact NW.cArith_ _ _ _ _ | (refine NW.bind_ _ _ ?_ fun _ => ?_) | split | dsimp only
theorem NW.complexOp_ (op : BinOp) (k : FloatKind) (a b c d : Nat) : NW P (Op.complexOp op k a b c d) := by
  unfold Op.complexOp
  split <;> repeat' first | (with_reducible exact NW.pure_ _) | (with_reducible exact NW.stuck_ _) | (with_reducible exact NW.cArith_ _ _ _ _) | (with_reducible exact NW.cCmp_ _ _ _ _) | (with_reducible exact NW.cConv_ _ _ _) | (with_reducible exact NW.cQuot_ _ _ _ _) | (with_reducible exact NW.cProd_ _ _ _ _) | (with_reducible refine NW.bind_ _ _ ?_ fun _ => ?_) | split | dsimp only
set_option maxHeartbeats 4000000 in
theorem NW.binOp_ (op : BinOp) (t : TypeId) (x y : Value) : NW P (binOp op t x y) := by
  unfold binOp Op.equal
  split <;> repeat' first | exact NW.shift_ _ _ _ _ _ | exact NW.intArith_ _ _ _ _ | exact NW.intDiv_ _ _ _ _ | exact NW.intBits_ _ _ _ _ | exact NW.intCmp_ _ _ _ | exact NW.floatArith_ _ _ _ _ | exact NW.floatCmp_ _ _ _ _ | exact NW.complexOp_ _ _ _ _ _ _ | exact NW.stringOp_ _ _ _ | exact NW.equalIn_ _ _ _ _ | exact NW.movedPointer_ _ _ _ | exact NW.movedNumber_ _ _ _ | exact NW.addrSub_ _ _ _ | exact NW.addrCmp_ _ _ _ | exact NW.addrMod_ _ _ _ | exact NW.behindNumber_ _ | exact NW.underlying_ _ | exact NW.pure_ _ | exact NW.stuck_ _ | exact NW.unsupported_ _ | (refine NW.bind_ _ _ ?_ fun _ => ?_) | split | dsimp only
end
end Go.Proofs.Ytefpagijgiggmab
