/- Calls that give the same in every grown world may be taken first; two calls that are ready at once, in one way. -/
import Derived.Test.YtefpagijgiggmabCalm6
namespace Go.Proofs.Ytefpagijgiggmab
open Go Go.RowKit
section
variable {P : Program} {ops : Array Oper} {Q : Exit → Act → World → Prop} {md : Region.Mode}

/-- It gives v, and only makes memory. -/
def Gives (P : Program) (v : Value) (w1 : World) : Result Next → Prop
  | .ok (.value u) w' => u = v ∧ Below w1.heap.size w1 w'
  | .ok (.enter f args) w' => Calls P f args w' fun e w'' => e = .returned v ∧ Below w1.heap.size w1 w''
  | .ok .skip w' => undef = v ∧ Below w1.heap.size w1 w'
  | .ok (.row row args) w' => Rows P row args w' fun u w'' => u = v ∧ Below w1.heap.size w1 w''
  | _ => False
/-- .. in every world grown from w. -/
def GivesIf (P : Program) (ops : Array Oper) (o : Oper) (v : Value) (a : Act) (w : World) : Prop :=
  Region.wanted o (yielded ops a.tmps) = true ∧ ∀ w1, Below w.heap.size w w1 → Gives P v w1 ((execOp a.eval o).run P w1)
theorem GivesIf.grow {oi : Oper} {v : Value} {a : Act} {w w' : World} (h : GivesIf P ops oi v a w) (hb : Below w.heap.size w w') : GivesIf P ops oi v a w' :=
  ⟨h.1, fun W hW => h.2 W (bTr hb hW)⟩
theorem GivesIf.of_same {o : Oper} {v : Value} {a a' : Act} {w : World} (hy : GivesIf P ops o v a w) (he : execOp a'.eval o = execOp a.eval o)
    (hw : Region.wanted o (yielded ops a'.tmps) = Region.wanted o (yielded ops a.tmps)) : GivesIf P ops o v a' w := by
  unfold GivesIf at *
  rw [he, hw]
  exact hy
theorem GivesIf.wpOp {i : Nat} {o : Oper} {v : Value} {a : Act} {w w1 : World} (hi : ops[i]? = some o) (hy : GivesIf P ops o v a w) (h1 : Below w.heap.size w w1)
    {K : Act → World → Prop} (h : ∀ w', Below w1.heap.size w1 w' → K (a.put o.dst v) w') : wpOp P ops Q i K a w1 := by
  unfold Go.wpOp
  simp only [hi]
  rw [if_pos hy.1]
  refine .inl ?_
  have hg := hy.2 w1 h1
  unfold Oper.wp
  generalize (execOp a.eval o).run P w1 = r at *
  cases r with
  | ok n w' =>
    cases n <;> simp only [Gives] at hg <;> simp only [Oper.upon]
    case value u => obtain ⟨rfl, hb⟩ := hg; exact h _ hb
    case enter f args =>
      refine Calls.mono hg fun e w'' he => ?_
      obtain ⟨rfl, hb⟩ := he
      exact h _ hb
    case skip => obtain ⟨rfl, hb⟩ := hg; exact h _ hb
    case row row args =>
      refine Rows.mono hg fun u w'' he => ?_
      obtain ⟨rfl, hb⟩ := he
      exact h _ hb
  | halt x w' => exact hg.elim

theorem wpOp_putG {j : Nat} {oi oj : Oper} {v : Value} {w0 : World} (hj : ops[j]? = some oj) (hap : oi.apart ops oj = true)
    (hsi : ∀ cs b, oi.op ≠ .select cs b) (hsj : ∀ cs b, oj.op ≠ .select cs b)
    (hQ : ∀ c a w, Q (.panic c) (a.put oi.dst v) w → Q (.panic c) a w) {K : Act → World → Prop} {a : Act} {w : World}
    (hy : GivesIf P ops oi v a w0) (h : wpOp P ops Q j K (a.put oi.dst v) w) :
    wpOp P ops Q j (fun a' w' => GivesIf P ops oi v a' w0 ∧ K (a'.put oi.dst v) w') a w := by
  obtain ⟨h1, h2, h3⟩ := Oper.apart_spec hap
  have keep : ∀ (a : Act), GivesIf P ops oi v a w0 → ∀ u, GivesIf P ops oi v (a.put oj.dst u) w0 := fun a hy u =>
    hy.of_same (execOp_put oi hsi a oj.dst u h3) (wanted_put oi a oj.dst u h3)
  have keepD : ∀ d, GivesIf P ops oi v { a with defers := d :: a.defers } w0 := fun d => hy.of_same rfl rfl
  unfold wpOp at *
  simp only [hj] at *
  rw [wanted_put oj a oi.dst v h1] at h
  split
  · rename_i hw
    simp only [hw, if_true] at h
    rcases h with h | ⟨hasks, hlets⟩
    case inr => exact .inr ⟨by unfold Oper.asks at *; rw [execOp_put oj hsj a oi.dst v h1] at hasks; exact hasks, hlets⟩
    refine .inl ?_
    unfold Oper.wp at *
    rw [execOp_put oj hsj a oi.dst v h1] at h
    generalize (execOp a.eval oj).run P w = r at *
    cases r with
    | ok n w' =>
      cases n <;> simp only [Oper.upon] at h ⊢
      case value u => exact ⟨keep a hy u, by rw [← Act.put_comm a v u h2]; exact h⟩
      case skip => exact ⟨keep a hy _, by rw [← Act.put_comm a v undef h2]; exact h⟩
      case defer d =>
        refine ⟨keep _ (keepD d) _, ?_⟩
        rw [← Act.put_comm _ v undef h2, ← Act.put_defers]
        exact h
      case enter f args =>
        refine Calls.mono h fun e w'' he => ?_
        cases e with
        | returned u => exact ⟨keep a hy u, by rw [← Act.put_comm a v u h2]; exact he⟩
        | panicked c => exact hQ _ _ _ he
        | outgrown => exact he
      case row row args => exact Rows.mono h fun u w'' he => ⟨keep a hy u, by rw [← Act.put_comm a v u h2]; exact he⟩
    | halt x w' =>
      cases x <;> simp only [Oper.upon] at h ⊢
      case panic u => exact hQ _ _ _ h
  · rename_i hw
    simp only [hw] at h
    exact ⟨keep a hy _, by rw [← Act.put_comm a v undef h2]; exact h⟩

theorem wpAnyM_firstG {i : Nat} {oi : Oper} {v : Value} (hi : ops[i]? = some oi) (hsel : ∀ (j : Nat) (o : Oper) cs b, ops[j]? = some o → o.op ≠ .select cs b)
    (hQ : ∀ c a w, Q (.panic c) (a.put oi.dst v) w → Q (.panic c) a w) :
    ∀ (fuel : Nat) (listed : Array Bool) (a : Act) (w : World),
      (∀ j oj, ops[j]? = some oj → j ≠ i → listed.getD j true = false → (∀ e ∈ oj.after, Region.binds md e = true → e.on ≠ i) → oi.apart ops oj = true) →
      i ∈ Region.ready md ops listed → GivesIf P ops oi v a w →
      wpAnyM P md ops Q fuel (listed.setIfInBounds i true) (a.put oi.dst v) w → wpAnyM P md ops Q (fuel + 1) listed a w := by
  intro fuel
  induction fuel with
  | zero =>
    intro listed a w hfree hr hy H w1 h1
    refine ⟨fun h => (by rw [h] at hr; cases hr), fun j hj => ?_⟩
    by_cases hji : j = i
    · subst hji; exact hy.wpOp hi h1 fun w' hw' => ⟨hw', H.mono (bTr h1 hw')⟩
    · have := ready_mono hj hji
      rw [H.1] at this
      cases this
  | succ fuel ih =>
    intro listed a w hfree hr hy H w1 hw1
    refine ⟨fun h => (by rw [h] at hr; cases hr), fun j hj => ?_⟩
    by_cases hji : j = i
    · subst hji; exact hy.wpOp hi hw1 fun w' hw' => ⟨hw', H.mono (bTr hw1 hw')⟩
    · have h1 := (H w1 hw1).2 j (ready_mono hj hji)
      obtain ⟨hjun, oj, hoj, hall⟩ := mem_ready.1 hj
      have hnot : ∀ e ∈ oj.after, Region.binds md e = true → e.on ≠ i := fun e he hb heq => by
        have h1 := hall e he hb
        have h0 := (mem_ready.1 hr).1
        rw [heq] at h1
        rcases Nat.lt_or_ge i listed.size with h' | h'
        · simp [h'] at h0 h1; rw [h0] at h1; cases h1
        · simp [Array.getElem?_eq_none h'] at h1
      have h2 := wpOp_putG hoj (hfree j oj hoj hji hjun hnot) (fun cs b => hsel i oi cs b hi) (fun cs b => hsel j oj cs b hoj) hQ (GivesIf.grow hy hw1) h1
      have hfree' : ∀ k ok, ops[k]? = some ok → k ≠ i → (listed.setIfInBounds j true).getD k true = false →
          (∀ e ∈ ok.after, Region.binds md e = true → e.on ≠ i) → oi.apart ops ok = true := fun k ok hk hki hun hno => by
        refine hfree k ok hk hki ?_ hno
        by_cases hjk : j = k
        · subst hjk; exact hjun
        · rw [getD_set_ne true hjk] at hun; exact hun
      refine wpOp_mono (fun a' w' h3 => ⟨h3.2.1, ih (listed.setIfInBounds j true) a' w' hfree' (ready_mono hr (Ne.symm hji)) (GivesIf.grow h3.1 h3.2.1) ?_⟩) h2
      rw [Array.setIfInBounds_comm _ _ hji]
      exact h3.2.2

/-- A call that gives the same in every grown world: first, whoever else is ready. -/
theorem wpAnyM_same (m : List Bool) (i sz d : Nat) (v : Value) {o : Oper} {l : List Oper} {a : Act} {w : World} {f : Nat} {listed : Array Bool}
    (hr : (0 < f ∧ Region.noSelect l.toArray = true ∧ (Region.ready md l.toArray listed).contains i = true ∧ Region.free md l.toArray listed i = true ∧ pickL m l = [o] ∧ l.toArray[i]? = some o ∧ o.dst = some d ∧ d < sz))
    (hsz : a.tmps.size = sz) (hw : Region.wanted o (yielded l.toArray a.tmps) = true)
    (H : ∀ w1, Below w.heap.size w w1 → wpList P l.toArray (fun e a' w' => e = .normal ∧ Below w1.heap.size w1 w' ∧ a'.tmps[d]? = some v ∧ a'.defers = a.defers) (pickL m l) a w1)
    (K : wpAnyM P md l.toArray (NoPanic Q) (f - 1) (listed.setIfInBounds i true) (a.put (some d) v) w) : wpAnyM P md l.toArray (NoPanic Q) f listed a w := by
  obtain ⟨hf, hns, hr, hfree, hp, hi, hd, hdsz⟩ := hr
  obtain ⟨f, rfl⟩ : ∃ g, f = g + 1 := ⟨f - 1, by omega⟩
  subst hsz
  have hput : ∀ u, (a.put o.dst u).tmps[d]? = some v → u = v := fun u h => by
    rw [hd] at h
    simpa [Act.put, hdsz] using h
  have hg : GivesIf P l.toArray o v a w := by
    refine ⟨hw, fun w1 h1 => ?_⟩
    have h := H w1 h1
    rw [hp] at h
    unfold wpList at h
    rw [if_pos hw] at h
    rcases h with h | ⟨_, _, _, h, _⟩
    · unfold Oper.wp at h
      generalize (execOp a.eval o).run P w1 = r at *
      cases r with
      | ok n w' =>
        cases n <;> simp only [Oper.upon] at h <;> simp only [Gives]
        case value u => exact ⟨hput u h.2.2.1, h.2.1⟩
        case skip => exact ⟨hput undef h.2.2.1, h.2.1⟩
        case row row args => exact Rows.mono h fun u w'' he => ⟨hput u he.2.2.1, he.2.1⟩
        case defer dd =>
          have := congrArg List.length h.2.2.2
          simp [Act.put, hd] at this
        case enter f args =>
          refine Calls.mono h fun e w'' he => ?_
          cases e with
          | returned u => exact ⟨by rw [hput u he.2.2.1], he.2.1⟩
          | panicked c => cases he.1
          | outgrown => obtain ⟨_, _, h, _⟩ := he; cases h
      | halt x w' =>
        cases x <;> simp only [Oper.upon] at h
        case panic u => cases h.1
    · cases h
  have K' : wpAnyM P md l.toArray (NoPanic Q) f (listed.setIfInBounds i true) (a.put o.dst v) w := by rw [hd]; exact K
  exact wpAnyM_firstG hi (Region.noSelect_spec hns) (fun c a w h => h) f listed a w (Region.free_spec hi hfree) (by simpa using hr) hg K'
end
end Go.Proofs.Ytefpagijgiggmab
