/- Lights: operations that only read, by their kind. -/
import Derived.Test.YtefpagijgiggmabCalm4
namespace Go.Proofs.Ytefpagijgiggmab
open Go Go.RowKit
section
variable {P : Program}
theorem NW.unary_ (op : UnOp) (x : Value) : NW P (Op.unary op x) := by
  unfold Op.unary
  split <;> first | exact NW.intArith_ _ _ _ _ | exact NW.intBits_ _ _ _ _ | trivial
theorem NW.sliceBounds_ (b : Bool) (n c : Nat) (x y z : Option Value) : NW P (Instr.sliceBounds b n c x y z) := by
  unfold Instr.sliceBounds Instr.sliceBound
  repeat' first | exact NW.asIntOf_ _ | exact NW.boundsPanic_ _ _ _ _ | exact NW.pure_ _ | exact NW.stuck_ _ | (refine NW.bind_ _ _ ?_ fun _ => ?_) | split | dsimp only
theorem NW.asAddr_ (x : Value) : NW P (asAddr x) := by
  unfold asAddr
  split <;> first | exact NW.runtimePanic_ _ | trivial
theorem NW.sliceAt_ (t : TypeId) (x : Value) (a b c : Option Value) : NW P (Instr.sliceAt t x a b c) := by
  unfold Instr.sliceAt Instr.slice
  repeat' first | exact NW.underlying_ _ | exact NW.asAddr_ _ | exact NW.sizeOf_ _ | exact NW.sureAddr_ _ | exact NW.sliceBounds_ _ _ _ _ _ _ | exact NW.pure_ _ | exact NW.stuck_ _ | (refine NW.bind_ _ _ ?_ fun _ => ?_) | split | dsimp only
theorem NW.fieldAt_ (t : TypeId) (x : Value) (f : Nat) : NW P (Instr.fieldAt t x f) := by
  unfold Instr.fieldAt
  repeat' first | exact NW.underlying_ _ | exact NW.sureAddr_ _ | exact NW.fieldPlace_ _ _ | exact NW.pure_ _ | exact NW.stuck_ _ | (refine NW.bind_ _ _ ?_ fun _ => ?_) | split | dsimp only
theorem NW.field_ (t : TypeId) (x : Value) (f : Nat) : NW P (Instr.field t x f) := by
  unfold Instr.field
  repeat' first | exact NW.underlying_ _ | exact NW.asAgg_ _ | exact NW.part_ _ _ _ | exact NW.pure_ _ | exact NW.stuck_ _ | (refine NW.bind_ _ _ ?_ fun _ => ?_) | split | dsimp only
theorem NW.indexAt_ (t : TypeId) (x i : Value) : NW P (Instr.indexAt t x i) := by
  unfold Instr.indexAt
  repeat' first | exact NW.underlying_ _ | exact NW.asIntOf_ _ | exact NW.sureAddr_ _ | exact NW.sizeOf_ _ | exact NW.boundsPanic_ _ _ _ _ | exact NW.unsupported_ _ | exact NW.pure_ _ | exact NW.stuck_ _ | (refine NW.bind_ _ _ ?_ fun _ => ?_) | split | dsimp only
theorem NW.index_ (t : TypeId) (x i : Value) : NW P (Instr.index t x i) := by
  unfold Instr.index
  repeat' first | exact NW.underlying_ _ | exact NW.asIntOf_ _ | exact NW.part_ _ _ _ | exact NW.sizeOf_ _ | exact NW.boundsPanic_ _ _ _ _ | exact NW.unsupported_ _ | exact NW.pure_ _ | exact NW.stuck_ _ | (refine NW.bind_ _ _ ?_ fun _ => ?_) | split | dsimp only
theorem NW.extract_ (x : Value) (i : Nat) : NW P (Instr.extract x i) := by
  unfold Instr.extract
  (repeat' split) <;> trivial
theorem NW.len_ (ts : Array TypeId) (t : TypeId) (vs : Array Value) : NW P (Builtin.len_ ts t vs) := by
  unfold Builtin.len_
  repeat' first | exact NW.underlying_ _ | exact NW.getObj_ _ | exact NW.pure_ _ | exact NW.stuck_ _ | (refine NW.bind_ _ _ ?_ fun _ => ?_) | split | dsimp only
theorem NW.cap_ (ts : Array TypeId) (t : TypeId) (vs : Array Value) : NW P (Builtin.cap_ ts t vs) := by
  unfold Builtin.cap_
  repeat' first | exact NW.underlying_ _ | exact NW.getObj_ _ | exact NW.pure_ _ | exact NW.stuck_ _ | (refine NW.bind_ _ _ ?_ fun _ => ?_) | split | dsimp only
theorem NW.foldlM_ {α β : Type} (f : β → α → Sem β) (hf : ∀ b a, NW P (f b a)) : ∀ (l : List α) (b : β), NW P (l.foldlM f b)
  | [], b => trivial
  | x :: l, b => by
    rw [List.foldlM_cons]
    exact NW.bind_ _ _ (hf b x) fun r => NW.foldlM_ f hf l r
theorem NW.max_ (ts : Array TypeId) (t : TypeId) (vs : Array Value) : NW P (Builtin.max_ ts t vs) := by
  unfold Builtin.max_
  split
  · exact NW.stuck_ _
  · refine NW.foldlM_ _ (fun a b => ?_) _ _
    unfold Builtin.max2
    repeat' first | exact NW.choose_ _ | exact NW.asBool_ _ | exact NW.stringOp_ _ _ _ | exact NW.unsupported_ _ | exact NW.pure_ _ | exact NW.stuck_ _ | (refine NW.bind_ _ _ ?_ fun _ => ?_) | split | dsimp only
theorem NW.min_ (ts : Array TypeId) (t : TypeId) (vs : Array Value) : NW P (Builtin.min_ ts t vs) := by
  unfold Builtin.min_
  split
  · exact NW.stuck_ _
  · refine NW.foldlM_ _ (fun a b => ?_) _ _
    unfold Builtin.min2
    repeat' first | exact NW.choose_ _ | exact NW.asBool_ _ | exact NW.stringOp_ _ _ _ | exact NW.unsupported_ _ | exact NW.pure_ _ | exact NW.stuck_ _ | (refine NW.bind_ _ _ ?_ fun _ => ?_) | split | dsimp only

/-- By its kind it only reads. -/
def isLight (o : Oper) : Bool :=
  match o.op with
  | .move _ | .assign _ | .pick _ _ _ | .load _ _ | .binOp _ _ _ _ _ | .unOp _ _ _ | .slice _ _ _ _ _ | .fieldAddr _ _ _ | .field _ _ _ | .indexAddr _ _ _ | .index _ _ _ | .extract _ _ => true
  | .call c => match c.callee with
    | .builtin .len | .builtin .cap | .builtin .min | .builtin .max => true
    | _ => false
  | _ => false

theorem light_form {o : Oper} (h : isLight o = true) (ρ : Operand → Value) : ∃ s : Sem Value, NW P s ∧ execOp ρ o = (s >>= fun v => pure (.value v)) := by
  obtain ⟨dst, op, ty, pos, aft, gd⟩ := o
  cases op <;> first | (cases h; done) | skip
  case move x => exact ⟨pure (ρ x), trivial, rfl⟩
  case assign x => exact ⟨pure (ρ x), trivial, rfl⟩
  case pick c x y =>
    refine ⟨asBool (ρ c) >>= fun b => pure (if b then ρ x else ρ y), NW.bind_ _ _ (NW.asBool_ _) fun _ => NW.pure_ _, ?_⟩
    show (asBool (ρ c) >>= fun b => (pure (Next.value (if b then ρ x else ρ y)) : Sem Next)) = _
    cases ρ c <;> rfl
  case load t x => exact ⟨Instr.loadAt t (ρ x), NW.bind_ _ _ (NW.sureAddr_ _) fun _ => NW.loadVar_ _ _, rfl⟩
  case binOp b t x y r => exact ⟨do eqGuard b t x y (ρ x) (ρ y); binOp b t (ρ x) (ρ y), NW.bind_ _ _ (NW.eqGuard_ _ _ _ _ _ _) fun _ => NW.binOp_ _ _ _ _, rfl⟩
  case unOp b t x => exact ⟨Op.unary b (ρ x), NW.unary_ _ _, rfl⟩
  case slice t x lo hi mx => exact ⟨Instr.sliceAt t (ρ x) (lo.map ρ) (hi.map ρ) (mx.map ρ), NW.sliceAt_ _ _ _ _ _, rfl⟩
  case fieldAddr t x f => exact ⟨Instr.fieldAt t (ρ x) f, NW.fieldAt_ _ _ _, rfl⟩
  case field t x f => exact ⟨Instr.field t (ρ x) f, NW.field_ _ _ _, rfl⟩
  case indexAddr t x i => exact ⟨Instr.indexAt t (ρ x) (ρ i), NW.indexAt_ _ _ _, rfl⟩
  case index t x i => exact ⟨Instr.index t (ρ x) (ρ i), NW.index_ _ _ _, rfl⟩
  case extract x i => exact ⟨Instr.extract (ρ x) i, NW.extract_ _ _, rfl⟩
  case call c =>
    obtain ⟨callee, args, ats⟩ := c
    cases callee <;> first | (cases h; done) | skip
    case builtin b =>
      cases b <;> first | (cases h; done) | skip
      case len => exact ⟨Builtin.len_ ats ty (args.map ρ), NW.len_ _ _ _, rfl⟩
      case cap => exact ⟨Builtin.cap_ ats ty (args.map ρ), NW.cap_ _ _ _, rfl⟩
      case min => exact ⟨Builtin.min_ ats ty (args.map ρ), NW.min_ _ _ _, rfl⟩
      case max => exact ⟨Builtin.max_ ats ty (args.map ρ), NW.max_ _ _ _, rfl⟩
/-- What a light leaves. -/
theorem light_run {o : Oper} (h : isLight o = true) {ρ : Operand → Value} {w w' : World} {n : Next} (hr : (execOp ρ o).run P w = .ok n w') :
    (∃ v, n = .value v) ∧ w.drawn ≤ w'.drawn ∧ w.heap.size ≤ w'.heap.size ∧ (w'.drawn = w.drawn → w'.heap.size = w.heap.size → w' = w) := by
  obtain ⟨s, hs, he⟩ := light_form (P := P) h ρ
  rw [he, Sem.run_bind] at hr
  cases hrun : s.run P w with
  | ok v w2 =>
    rw [hrun] at hr
    simp only [Result.andThen_ok, Sem.run_pure, Result.ok.injEq] at hr
    obtain ⟨rfl, rfl⟩ := hr
    exact ⟨⟨v, rfl⟩, NW.mono_ s hs w v w2 hrun⟩
  | halt x w2 => rw [hrun] at hr; cases hr
end
end Go.Proofs.Ytefpagijgiggmab
