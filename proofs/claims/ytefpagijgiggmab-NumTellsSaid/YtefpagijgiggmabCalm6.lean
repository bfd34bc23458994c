/- A region that draws its order, with calls that make memory: lights first, calls one by one, each in a world that has grown however. -/
import Derived.Test.YtefpagijgiggmabCalm5
import Derived.OrdersHeld
import Derived.Deep.RegionHeld3
namespace Go.Proofs.Ytefpagijgiggmab
open Go Go.RowKit
section
variable {P : Program} {ops : Array Oper} {Q : Exit → Act → World → Prop} {md : Region.Mode}

/-- Whatever order is picked from here on, and however the world grows meanwhile. -/
def wpAnyM (P : Program) (md : Region.Mode) (ops : Array Oper) (Q : Exit → Act → World → Prop) : Nat → Array Bool → Act → World → Prop
  | 0, listed, a, w => Region.ready md ops listed = [] ∧ ∀ w1, Below w.heap.size w w1 → Q .normal a w1
  | fuel + 1, listed, a, w => ∀ w1, Below w.heap.size w w1 → (Region.ready md ops listed = [] → Q .normal a w1) ∧
    ∀ i ∈ Region.ready md ops listed, wpOp P ops Q i (fun a' w' => Below w1.heap.size w1 w' ∧ wpAnyM P md ops Q fuel (listed.setIfInBounds i true) a' w') a w1

theorem wpAnyM.any : ∀ (fuel : Nat) (listed : Array Bool) (a : Act) (w : World), wpAnyM P md ops Q fuel listed a w → wpAny P md ops Q fuel listed a w
  | 0, _, _, w, h => ⟨h.1, h.2 w (Below.refl _ _)⟩
  | fuel + 1, _, _, w, h => ⟨(h w (Below.refl _ _)).1, fun i hi => wpOp_mono (fun a' w' h' => wpAnyM.any fuel _ a' w' h'.2) ((h w (Below.refl _ _)).2 i hi)⟩
theorem wpAnyM.mono : ∀ {fuel : Nat} {listed : Array Bool} {a : Act} {w w' : World}, wpAnyM P md ops Q fuel listed a w → Below w.heap.size w w' → wpAnyM P md ops Q fuel listed a w'
  | 0, _, _, _, _, h, hb => ⟨h.1, fun w1 h1 => h.2 w1 (bTr hb h1)⟩
  | _ + 1, _, _, _, _, h, hb => fun w1 h1 => h w1 (bTr hb h1)
theorem wpAnyM_done {listed : Array Bool} {a : Act} {w : World} (hr : Region.ready md ops listed = []) (h : ∀ w1, Below w.heap.size w w1 → Q .normal a w1) : ∀ fuel, wpAnyM P md ops Q fuel listed a w
  | 0 => ⟨hr, h⟩
  | _ + 1 => fun w1 h1 => ⟨fun _ => h w1 h1, by rw [hr]; simp⟩
theorem YieldsIf.grow {oi : Oper} {v : Value} {a : Act} {w w' : World} (h : YieldsIf P ops (fun W => Below w.heap.size w W) oi v a) (hb : Below w.heap.size w w') : YieldsIf P ops (fun W => Below w'.heap.size w' W) oi v a :=
  h.imp (fun ⟨h1, h2⟩ => ⟨h1, fun W hW => h2 W (bTr hb hW)⟩) id
/-- What yields in every grown world may be taken first. -/
theorem wpAnyM_first {i : Nat} {oi : Oper} {v : Value} (hi : ops[i]? = some oi) (hsel : ∀ (j : Nat) (o : Oper) cs b, ops[j]? = some o → o.op ≠ .select cs b)
    (hQ : ∀ c a w, Q (.panic c) (a.put oi.dst v) w → Q (.panic c) a w) :
    ∀ (fuel : Nat) (listed : Array Bool) (a : Act) (w : World),
      (∀ j oj, ops[j]? = some oj → j ≠ i → listed.getD j true = false → (∀ e ∈ oj.after, Region.binds md e = true → e.on ≠ i) → oi.apart ops oj = true) →
      i ∈ Region.ready md ops listed → YieldsIf P ops (fun W => Below w.heap.size w W) oi v a →
      wpAnyM P md ops Q fuel (listed.setIfInBounds i true) (a.put oi.dst v) w → wpAnyM P md ops Q (fuel + 1) listed a w := by
  intro fuel
  induction fuel with
  | zero =>
    intro listed a w hfree hr hy H w1 h1
    refine ⟨fun h => (by rw [h] at hr; cases hr), fun j hj => ?_⟩
    by_cases hji : j = i
    · subst hji; exact hy.wpOp hi h1 ⟨Below.refl _ _, H.mono h1⟩
    · have := ready_mono hj hji
      rw [H.1] at this
      cases this
  | succ fuel ih =>
    intro listed a w hfree hr hy H w1 hw1
    refine ⟨fun h => (by rw [h] at hr; cases hr), fun j hj => ?_⟩
    by_cases hji : j = i
    · subst hji; exact hy.wpOp hi hw1 ⟨Below.refl _ _, H.mono hw1⟩
    · have h1 := (H w1 hw1).2 j (ready_mono hj hji)
      obtain ⟨hjun, oj, hoj, hall⟩ := mem_ready.1 hj
      have hnot : ∀ e ∈ oj.after, Region.binds md e = true → e.on ≠ i := fun e he hb heq => by
        have h1 := hall e he hb
        have h0 := (mem_ready.1 hr).1
        rw [heq] at h1
        rcases Nat.lt_or_ge i listed.size with h' | h'
        · simp [h'] at h0 h1; rw [h0] at h1; cases h1
        · simp [Array.getElem?_eq_none h'] at h1
      have h2 := wpOp_putIf hoj (hfree j oj hoj hji hjun hnot) (fun cs b => hsel i oi cs b hi) (fun cs b => hsel j oj cs b hoj) hQ (YieldsIf.grow hy hw1) h1
      have hfree' : ∀ k ok, ops[k]? = some ok → k ≠ i → (listed.setIfInBounds j true).getD k true = false →
          (∀ e ∈ ok.after, Region.binds md e = true → e.on ≠ i) → oi.apart ops ok = true := fun k ok hk hki hun hno => by
        refine hfree k ok hk hki ?_ hno
        by_cases hjk : j = k
        · subst hjk; exact hjun
        · rw [getD_set_ne true hjk] at hun; exact hun
      refine wpOp_mono (fun a' w' h3 => ⟨h3.2.1, ih (listed.setIfInBounds j true) a' w' hfree' (ready_mono hr (Ne.symm hji)) (YieldsIf.grow h3.1 h3.2.1) ?_⟩) h2
      rw [Array.setIfInBounds_comm _ _ hji]
      exact h3.2.2
/-- The end of a batch of lights. -/
def Lend (A : Act) (wE : World) : Exit → Act → World → Prop := fun e a w => e = .normal ∧ a = A ∧ w = wE

theorem light_wp {o : Oper} (hl : isLight o = true) {a A : Act} {u wE : World} {K : Act → World → Prop} (h : o.wp P a u K (Lend A wE) ∨ (o.asks P a u ∧ LetsOut (Lend A wE))) :
    ∃ v u', (execOp a.eval o).run P u = .ok (.value v) u' ∧ K (a.put o.dst v) u' := by
  rcases h with h | ⟨_, _, _, h, _⟩
  · unfold Oper.wp at h
    cases hr : (execOp a.eval o).run P u with
    | ok n u' =>
      obtain ⟨⟨v, rfl⟩, _⟩ := light_run hl hr
      rw [hr] at h
      exact ⟨v, u', rfl, h⟩
    | halt x u' =>
      rw [hr] at h
      cases x <;> first | exact h.elim | (obtain ⟨h, _⟩ := h; cases h)
  · cases h

theorem lights_end {A : Act} {wE : World} : ∀ (ls : List Oper) (a : Act) (u : World), (∀ o ∈ ls, isLight o = true) → wpList P ops (Lend A wE) ls a u →
    u.drawn ≤ wE.drawn ∧ u.heap.size ≤ wE.heap.size ∧ ∀ d, (∀ o ∈ ls, o.dst ≠ some d) → A.tmps[d]? = a.tmps[d]?
  | [], a, u, _, h => by
    obtain ⟨_, rfl, rfl⟩ := h
    exact ⟨Nat.le_refl _, Nat.le_refl _, fun _ _ => rfl⟩
  | o :: ls, a, u, hl, h => by
    unfold wpList at h
    have hput : ∀ (v : Value) (d : Tmp), o.dst ≠ some d → (a.put o.dst v).tmps[d]? = a.tmps[d]? := fun v d hd => by
      unfold Act.put
      split
      · rename_i d' hd'
        have : d' ≠ d := fun e => hd (by rw [hd', e])
        simp [Array.getElem?_setIfInBounds, this]
      · rfl
    split at h
    · obtain ⟨v, u', hr, hk⟩ := light_wp (hl o (by simp)) h
      obtain ⟨_, h1, h2, _⟩ := light_run (hl o (by simp)) hr
      obtain ⟨i1, i2, i3⟩ := lights_end ls _ _ (fun o' ho => hl o' (by simp [ho])) hk
      exact ⟨by omega, by omega, fun d hd => (i3 d fun o' ho => hd o' (by simp [ho])).trans (hput v d (hd o (by simp)))⟩
    · obtain ⟨i1, i2, i3⟩ := lights_end ls _ _ (fun o' ho => hl o' (by simp [ho])) h
      exact ⟨i1, i2, fun d hd => (i3 d fun o' ho => hd o' (by simp [ho])).trans (hput undef d (hd o (by simp)))⟩

theorem put_size (a : Act) (d : Option Tmp) (v : Value) : (a.put d v).tmps.size = a.tmps.size := by
  unfold Act.put; split <;> simp

/-- Are these lights, each ready when those ahead of it have come up, and apart from all that could come ahead of it? -/
def lightsOk (md : Region.Mode) (ops : Array Oper) (sz : Nat) : Array Bool → List Nat → List Oper → Bool
  | _, [], [] => true
  | listed, i :: is, o :: ls => isLight o && (Region.ready md ops listed).contains i && Region.free md ops listed i && (match o.dst with | some d => decide (d < sz) && ls.all (fun o' => o'.dst != some d) | none => false) && lightsOk md ops sz (listed.setIfInBounds i true) is ls
  | _, _, _ => false
/-- Those numbers' operations. -/
def Sel (ops : Array Oper) : List Nat → List Oper → Prop
  | [], [] => True
  | i :: is, o :: ls => ops[i]? = some o ∧ Sel ops is ls
  | _, _ => False
def listAll : Array Bool → List Nat → Array Bool
  | listed, [] => listed
  | listed, i :: is => listAll (listed.setIfInBounds i true) is
theorem lightsOk_all {sz : Nat} : ∀ {listed : Array Bool} (is : List Nat) (ls : List Oper), lightsOk md ops sz listed is ls = true → ∀ o ∈ ls, isLight o = true
  | _, [], [], _ => by simp
  | _, i :: is, o :: ls, h => by
    simp only [lightsOk, Bool.and_eq_true] at h
    intro o' ho
    rcases List.mem_cons.1 ho with rfl | ho
    · exact h.1.1.1.1
    · exact lightsOk_all is ls h.2 o' ho
  | _, [], _ :: _, h => by simp [lightsOk] at h
  | _, _ :: _, [], h => by simp [lightsOk] at h

theorem wpAnyM_lightsI (hns : Region.noSelect ops = true) {A : Act} : ∀ (is : List Nat) (ls : List Oper) (fuel : Nat) (listed : Array Bool) (a : Act) (w : World),
    Sel ops is ls → lightsOk md ops a.tmps.size listed is ls = true →
    (∀ w1, Below w.heap.size w w1 → wpList P ops (Lend A w1) ls a w1) → wpAnyM P md ops (NoPanic Q) fuel (listAll listed is) A w → wpAnyM P md ops (NoPanic Q) (fuel + is.length) listed a w
  | [], _ :: _, _, _, _, _, hf, _, _, _ => hf.elim
  | _ :: _, [], _, _, _, _, hf, _, _, _ => hf.elim
  | [], [], fuel, listed, a, w, hf, _, H, K => by
    obtain ⟨_, rfl, _⟩ := H w (Below.refl _ _)
    exact K
  | i :: is, o :: ls, fuel, listed, a, w, ⟨hi, hf⟩, hok, H, K => by
    have hok' := hok
    simp only [lightsOk, Bool.and_eq_true] at hok
    obtain ⟨⟨⟨⟨hl, hr⟩, hfree⟩, hd⟩, hrest⟩ := hok
    have hall := lightsOk_all is ls hrest
    obtain ⟨d, hdst, hdsz, hdis⟩ : ∃ d, o.dst = some d ∧ d < a.tmps.size ∧ ∀ o' ∈ ls, o'.dst ≠ some d := by
      cases hdd : o.dst with
      | none => rw [hdd] at hd; cases hd
      | some d =>
        rw [hdd] at hd
        simp only [Bool.and_eq_true, decide_eq_true_eq, List.all_eq_true] at hd
        exact ⟨d, rfl, hd.1, fun o' ho => by simpa using hd.2 o' ho⟩
    have hQ : ∀ (v : Value) c a w, NoPanic Q (.panic c) (a.put o.dst v) w → NoPanic Q (.panic c) a w := fun v c a w h => h
    cases hw : Region.wanted o (yielded ops a.tmps) with
    | true =>
      have step : ∀ w1, Below w.heap.size w w1 → ∃ v, (execOp a.eval o).run P w1 = .ok (.value v) w1 ∧ wpList P ops (Lend A w1) ls (a.put o.dst v) w1 ∧ A.tmps[d]? = some v := fun w1 h1 => by
        have h := H w1 h1
        unfold wpList at h
        rw [if_pos hw] at h
        obtain ⟨v, u', hrun, hk⟩ := light_wp hl h
        obtain ⟨_, m1, m2, m3⟩ := light_run hl hrun
        obtain ⟨e1, e2, e3⟩ := lights_end ls _ _ hall hk
        obtain rfl := m3 (by omega) (by omega)
        refine ⟨v, hrun, hk, ?_⟩
        rw [e3 d hdis, hdst]
        simp [Act.put, hdsz]
      obtain ⟨v, _, _, hAv⟩ := step w (Below.refl _ _)
      have step2 : ∀ w1, Below w.heap.size w w1 → (execOp a.eval o).run P w1 = .ok (.value v) w1 ∧ wpList P ops (Lend A w1) ls (a.put o.dst v) w1 := fun w1 h1 => by
        obtain ⟨v', h2, h3, h4⟩ := step w1 h1
        rw [hAv] at h4
        injection h4 with h4
        subst h4
        exact ⟨h2, h3⟩
      have := wpAnyM_lightsI hns is ls fuel (listed.setIfInBounds i true) (a.put o.dst v) w hf (by rw [put_size]; exact hrest) (fun w1 h1 => (step2 w1 h1).2) K
      exact wpAnyM_first hi (Region.noSelect_spec hns) (hQ v) _ listed a w (Region.free_spec hi hfree) (by simpa using hr) (.inl ⟨hw, fun w1 h1 => (step2 w1 h1).1⟩) this
    | false =>
      have := wpAnyM_lightsI hns is ls fuel (listed.setIfInBounds i true) (a.put o.dst undef) w hf (by rw [put_size]; exact hrest) (fun w1 h1 => by
        have h := H w1 h1
        unfold wpList at h
        rw [if_neg (by rw [hw]; simp)] at h
        exact h) K
      exact wpAnyM_first hi (Region.noSelect_spec hns) (hQ undef) _ listed a w (Region.free_spec hi hfree) (by simpa using hr) (.inr ⟨hw, rfl⟩) this
def pickI : List Bool → Nat → List Nat
  | [], _ => []
  | true :: m, k => k :: pickI m (k + 1)
  | false :: m, k => pickI m (k + 1)
def pickL : List Bool → List Oper → List Oper
  | true :: m, o :: l => o :: pickL m l
  | false :: m, _ :: l => pickL m l
  | _, _ => []
theorem sel_pick : ∀ (m : List Bool) (l : List Oper) (k : Nat), m.length ≤ l.length → (∀ j, l[j]? = ops[k + j]?) → Sel ops (pickI m k) (pickL m l)
  | [], [], _, _, _ => trivial
  | [], _ :: _, _, _, _ => trivial
  | _ :: _, [], _, h, _ => by simp at h
  | b :: m, o :: l, k, h, hj => by
    have h0 : ops[k]? = some o := by simpa using (hj 0).symm
    have ih := sel_pick m l (k + 1) (by simpa using h) (fun j => by have := hj (j + 1); simpa [Nat.add_assoc, Nat.add_comm 1 j] using this)
    cases b with
    | true => exact ⟨h0, ih⟩
    | false => exact ih

/-- A batch of lights, by a mask over the region's operations. -/
theorem wpAnyM_lights (m : List Bool) (sz : Nat) {l : List Oper} {a : Act} (A : Act) {w : World} {f : Nat} {listed : Array Bool} (hm : (m.length ≤ l.length ∧ Region.noSelect l.toArray = true ∧ (pickI m 0).length ≤ f ∧ lightsOk md l.toArray sz listed (pickI m 0) (pickL m l) = true)) (hsz : a.tmps.size = sz)
    (H : ∀ w1, Below w.heap.size w w1 → wpList P l.toArray (Lend A w1) (pickL m l) a w1) (K : wpAnyM P md l.toArray (NoPanic Q) (f - (pickI m 0).length) (listAll listed (pickI m 0)) A w) : wpAnyM P md l.toArray (NoPanic Q) f listed a w := by
  have e : f = (f - (pickI m 0).length) + (pickI m 0).length := by omega
  rw [e]
  subst hsz
  exact wpAnyM_lightsI hm.2.1 (pickI m 0) (pickL m l) _ listed a w (sel_pick m l 0 hm.1 (fun j => by simp)) hm.2.2.2 H K
/-- One operation in a list of its own. -/
theorem one_op {i : Nat} {o : Oper} (hi : ops[i]? = some o) {a : Act} {w : World} {K : Act → World → Prop} (h : wpList P ops (fun e a' w' => e = .normal ∧ K a' w') [o] a w) : wpOp P ops Q i K a w := by
  unfold wpList at h
  unfold wpOp
  simp only [hi]
  split
  · rename_i hw
    rw [if_pos hw] at h
    rcases h with h | ⟨_, _, _, h, _⟩
    · refine .inl ?_
      unfold Oper.wp at *
      generalize (execOp a.eval o).run P w = r at *
      cases r with
      | ok n w' =>
        cases n <;> simp only [Oper.upon] at h ⊢ <;> first | exact h.2 | skip
        case enter f args =>
          refine Calls.mono h fun e w'' he => ?_
          cases e with
          | returned u => exact he.2
          | panicked c => cases he.1
          | outgrown => obtain ⟨_, _, h, _⟩ := he; cases h
        case row row args => exact Rows.mono h fun u w'' he => he.2
      | halt x w' =>
        cases x <;> simp only [Oper.upon] at h ⊢
        case panic u => cases h.1
    · cases h
  · rename_i hw
    rw [if_neg hw] at h
    exact h.2

/-- A call when it alone may come up. -/
theorem wpAnyM_call (m : List Bool) (i : Nat) {o : Oper} {l : List Oper} {a : Act} {w : World} {f : Nat} {listed : Array Bool}
    (hr : (0 < f ∧ Region.ready md l.toArray listed = [i] ∧ pickL m l = [o] ∧ l.toArray[i]? = some o))
    (H : ∀ w1, Below w.heap.size w w1 → wpList P l.toArray (fun e a' w' => e = .normal ∧ Below w1.heap.size w1 w' ∧ wpAnyM P md l.toArray (NoPanic Q) (f - 1) (listed.setIfInBounds i true) a' w') (pickL m l) a w1) :
    wpAnyM P md l.toArray (NoPanic Q) f listed a w := by
  obtain ⟨hf, hr, hp, hi⟩ := hr
  obtain ⟨f, rfl⟩ : ∃ g, f = g + 1 := ⟨f - 1, by omega⟩
  intro w1 h1
  refine ⟨fun h0 => (by rw [hr] at h0; cases h0), fun j hj => ?_⟩
  rw [hr] at hj
  obtain rfl : j = i := by simpa using hj
  have h := H w1 h1
  rw [hp] at h
  exact one_op hi h
end
end Go.Proofs.Ytefpagijgiggmab
