/- What does not write. -/
import Derived.Test.YtefpagijgiggmabBase
namespace Go.Proofs.Ytefpagijgiggmab
open Go Go.RowKit

/-- On no road does it write. -/
def NW {α : Type} (P : Program) : Sem α → Prop
  | .pure _ => True
  | .load _ _ k => ∀ v, NW P (k v)
  | .store _ _ _ _ => False
  | .new _ k => ∀ r, NW P (k r)
  | .shape _ k => ∀ s, NW P (k s)
  | .freeze _ _ _ => False
  | .frozen _ k => ∀ b, NW P (k b)
  | .getObj _ k => ∀ o, NW P (k o)
  | .setObj _ _ _ => False
  | .choose _ k => ∀ n, NW P (k n)
  | .sys _ _ => False
  | .program k => NW P (k P)
  | .mark _ k => NW P k
  | .halt _ => True

theorem NW.bind_ {α β : Type} {P : Program} (e : Sem α) (f : α → Sem β) (he : NW P e) (hf : ∀ a, NW P (f a)) : NW P (e >>= f) := by
  show NW P (Sem.bind e f)
  induction e with
  | pure a => exact hf a
  | load m a k ih => exact fun v => ih v (he v)
  | store => exact he.elim
  | new o k ih => exact fun v => ih v (he v)
  | shape s k ih => exact fun v => ih v (he v)
  | freeze => exact he.elim
  | frozen a k ih => exact fun v => ih v (he v)
  | getObj r k ih => exact fun v => ih v (he v)
  | setObj => exact he.elim
  | choose q k ih => exact fun v => ih v (he v)
  | sys => exact he.elim
  | program k ih => exact ih _ he
  | mark m k ih => exact ih he
  | halt h => trivial
theorem NW.mono_ {α : Type} {P : Program} (e : Sem α) : NW P e → ∀ w v w', e.run P w = .ok v w' → w.drawn ≤ w'.drawn ∧ w.heap.size ≤ w'.heap.size ∧ (w'.drawn = w.drawn → w'.heap.size = w.heap.size → w' = w) := by
  induction e with
  | pure a => intro _ w v w' h; simp only [Sem.run, Result.ok.injEq] at h; obtain ⟨_, rfl⟩ := h; exact ⟨Nat.le_refl _, Nat.le_refl _, fun _ _ => rfl⟩
  | load m a k ih =>
    intro hn w v w' h
    simp only [Sem.run] at h
    split at h
    · exact ih _ (hn _) _ _ _ h
    · split at h
      · exact ih _ (hn _) _ _ _ h
      · cases h
  | store => intro hn; exact hn.elim
  | new o k ih =>
    intro hn w v w' h
    simp only [Sem.run] at h
    have := ih _ (hn _) _ _ _ h
    have h2 := this.2.1
    simp at h2
    exact ⟨this.1, by omega, fun _ h3 => by omega⟩
  | shape r k ih => intro hn w v w' h; simp only [Sem.run] at h; exact ih _ (hn _) _ _ _ h
  | freeze => intro hn; exact hn.elim
  | frozen a k ih => intro hn w v w' h; simp only [Sem.run] at h; exact ih _ (hn _) _ _ _ h
  | getObj r k ih =>
    intro hn w v w' h
    simp only [Sem.run] at h
    split at h
    · cases h
    · exact ih _ (hn _) _ _ _ h
    · cases h
  | setObj => intro hn; exact hn.elim
  | choose q k ih =>
    intro hn w v w' h
    simp only [Sem.run] at h
    split at h
    · exact ih _ (hn _) _ _ _ h
    · have := ih _ (hn _) _ _ _ h
      have h2 := this.1
      simp at h2
      exact ⟨by omega, this.2.1, fun h3 _ => by omega⟩
  | sys => intro hn; exact hn.elim
  | program k ih => intro hn w v w' h; exact ih _ hn _ _ _ h
  | mark m k ih => intro hn w v w' h; exact ih hn _ _ _ h
  | halt h => intro _ w v w' h; simp [Sem.run] at h

section
variable {P : Program}
theorem NW.halt_ {α : Type} (h : Halt) : NW P (Sem.halt h : Sem α) := trivial
theorem NW.pure_ {α : Type} (a : α) : NW P (pure a : Sem α) := trivial
theorem NW.stuck_ {α : Type} (h : String) : NW P (stuck h : Sem α) := trivial
theorem NW.unsupported_ {α : Type} (h : Unsupported) : NW P (unsupported h : Sem α) := trivial
theorem NW.program_ : NW P program := trivial
theorem NW.shape_ (r : Nat) : NW P (shape r) := fun _ => trivial
theorem NW.getObj_ (r : Nat) : NW P (getObj r) := fun _ => trivial
theorem NW.frozen_ (r : Addr) : NW P (frozen r) := fun _ => trivial
theorem NW.choose_ (q : Question) : NW P (choose q) := fun _ => trivial
theorem NW.load_ (a : Addr) : NW P (load a) := fun _ => trivial
theorem NW.newObj_ (o : Obj) : NW P (newObj o) := fun _ => trivial
theorem NW.map_ {α β : Type} (f : α → β) (e : Sem α) (h : NW P e) : NW P (f <$> e) := NW.bind_ e (fun a => pure (f a)) h fun _ => trivial
theorem NW.forIn_ {α β : Type} (f : α → β → Sem (ForInStep β)) (hf : ∀ a b, NW P (f a b)) : ∀ (l : List α) (b : β), NW P (forIn l b f)
  | [], b => trivial
  | x :: l, b => by
    rw [List.forIn_cons]
    refine NW.bind_ _ _ (hf x b) fun r => ?_
    cases r with
    | done b => trivial
    | yield b => exact NW.forIn_ f hf l b
theorem NW.forInA_ {α β : Type} (f : α → β → Sem (ForInStep β)) (hf : ∀ a b, NW P (f a b)) (l : Array α) (b : β) : NW P (forIn l b f) := by
  rw [← Array.forIn_toList]
  exact NW.forIn_ f hf l.toList b
theorem NW.forInR_ {β : Type} (f : Nat → β → Sem (ForInStep β)) (hf : ∀ a b, NW P (f a b)) (l : Std.Legacy.Range) (b : β) : NW P (forIn l b f) := by
  rw [Std.Legacy.Range.forIn_eq_forIn_range']
  exact NW.forIn_ f hf _ b
theorem NW.underlying_ (t : TypeId) : NW P (underlying t) := by
  unfold underlying
  refine NW.bind_ _ _ trivial fun p => ?_
  split <;> trivial
theorem NW.typeInfo_ (t : TypeId) : NW P (typeInfo t) := by
  unfold typeInfo
  refine NW.bind_ _ _ trivial fun p => ?_
  split <;> trivial
theorem NW.sizeOf_ (t : TypeId) : NW P (Go.sizeOf t) := by
  unfold Go.sizeOf
  exact NW.bind_ _ _ (NW.typeInfo_ t) fun _ => trivial
theorem NW.isAgg_ (t : TypeId) : NW P (isAgg t) := by
  unfold isAgg
  refine NW.bind_ _ _ (NW.underlying_ t) fun p => ?_
  split <;> trivial
theorem NW.goPanic_ {α : Type} (v : Value) : NW P (goPanic v : Sem α) := trivial
theorem NW.part_ (t : TypeId) (cs : Array Value) (off : Nat) : NW P (part t cs off) := by
  unfold part
  repeat' first | exact NW.isAgg_ _ | exact NW.sizeOf_ _ | exact NW.pure_ _ | exact NW.stuck_ _ | (refine NW.bind_ _ _ ?_ fun _ => ?_) | split
theorem NW.loadCellsFrom_ (a : Addr) : ∀ (n i : Nat) (acc : Array Value), NW P (loadCellsFrom a i n acc)
  | 0, i, acc => trivial
  | n + 1, i, acc => by
    unfold loadCellsFrom
    exact NW.bind_ _ _ (NW.load_ _) fun _ => NW.loadCellsFrom_ a n _ _
theorem NW.loadVar_ (t : TypeId) (a : Addr) : NW P (loadVar t a) := by
  unfold loadVar loadCells
  repeat' first | exact NW.isAgg_ _ | exact NW.sizeOf_ _ | exact NW.pure_ _ | exact NW.load_ _ | exact NW.loadCellsFrom_ _ _ _ _ | (refine NW.bind_ _ _ ?_ fun _ => ?_) | split
theorem NW.numberAt_ (r : Nat) : NW P (numberAt r) := by
  unfold numberAt
  repeat' first | exact NW.shape_ _ | exact NW.getObj_ _ | exact NW.pure_ _ | (refine NW.bind_ _ _ ?_ fun _ => ?_) | split
theorem NW.viewAt_ (r : Nat) : NW P (viewAt r) := by
  unfold viewAt
  repeat' first | exact NW.shape_ _ | exact NW.getObj_ _ | exact NW.pure_ _ | (refine NW.bind_ _ _ ?_ fun _ => ?_) | split
theorem NW.noView_ (r : Addr) : NW P (noView r) := by
  unfold noView
  repeat' first | exact NW.viewAt_ _ | exact NW.pure_ _ | exact NW.unsupported_ _ | (refine NW.bind_ _ _ ?_ fun _ => ?_) | split
theorem NW.behindNumber_ (n : Addr) : NW P (behindNumber n) := by
  unfold behindNumber
  repeat' first | exact NW.numberAt_ _ | exact NW.pure_ _ | (refine NW.bind_ _ _ ?_ fun _ => ?_) | split
theorem NW.stringish_ (n : Addr) : NW P (stringish n) := by
  unfold stringish
  repeat' first | exact NW.frozen_ _ | exact NW.shape_ _ | exact NW.pure_ _ | (refine NW.bind_ _ _ ?_ fun _ => ?_) | split
theorem NW.mayBeOne_ (a b : Addr) : NW P (mayBeOne a b) := by
  unfold mayBeOne
  repeat' first | exact NW.stringish_ _ | exact NW.shape_ _ | exact NW.pure_ _ | (refine NW.bind_ _ _ ?_ fun _ => ?_) | split
theorem NW.sameAddr_ (a b : Addr) : NW P (sameAddr a b) := by
  unfold sameAddr
  repeat' first | exact NW.frozen_ _ | exact NW.noView_ _ | exact NW.mayBeOne_ _ _ | exact NW.choose_ _ | exact NW.unsupported_ _ | exact NW.pure_ _ | (refine NW.bind_ _ _ ?_ fun _ => ?_) | split
end
end Go.Proofs.Ytefpagijgiggmab
