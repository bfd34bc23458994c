/- A region that draws its order: lights first, all else in the one order that its edges leave; operations that write are seals. -/
import Derived.Test.YtefpagijgiggmabCalm8
import Derived.Test.YtefpagijgiggmabRange
import Derived.Test.YtefpagijgiggmabApp
import Derived.OwnWalkIn
namespace Go.Proofs.Ytefpagijgiggmab
open Go Go.RowKit
section
variable {P : Program} {ops : Array Oper} {Q : Exit → Act → World → Prop} {md : Region.Mode} {G : Nat → Nat → Prop} {sl : List Nat}

/-- Whatever order is picked; what is no seal leaves all that was there; a seal leaves G. -/
def wpF (P : Program) (md : Region.Mode) (ops : Array Oper) (G : Nat → Nat → Prop) (sl : List Nat) (Q : Exit → Act → World → Prop) : Nat → Array Bool → Act → World → Prop
  | 0, listed, a, w => Region.ready md ops listed = [] ∧ Q .normal a w
  | fuel + 1, listed, a, w => (Region.ready md ops listed = [] → Q .normal a w) ∧
    ∀ i ∈ Region.ready md ops listed, wpOp P ops Q i (fun a' w' => ((i ∈ sl → KeepB (G i) w w') ∧ (i ∉ sl → Below w.heap.size w w')) ∧ wpF P md ops G sl Q fuel (listed.setIfInBounds i true) a' w') a w

theorem wpF.any : ∀ (fuel : Nat) (listed : Array Bool) (a : Act) (w : World), wpF P md ops G sl Q fuel listed a w → wpAny P md ops Q fuel listed a w
  | 0, _, _, _, h => h
  | fuel + 1, _, _, _, h => ⟨h.1, fun i hi => wpOp_mono (fun a' w' h' => wpF.any fuel _ a' w' h'.2) (h.2 i hi)⟩

/-- What the lights of a batch have to stand: R. -/
structure Stands (G : Nat → Nat → Prop) (R : World → World → Prop) (nw : List Nat) : Prop where
  refl : ∀ x, R x x
  below : ∀ x y, Below x.heap.size x y → R x y
  trans : ∀ x y z, R x y → R y z → R x z
  seal_ : ∀ j ∈ nw, ∀ x y, KeepB (G j) x y → R x y
theorem yields_turn {R : World → World → Prop} (ht : ∀ x y z, R x y → R y z → R x z) {oi : Oper} {v : Value} {a : Act} {w w' : World} (h : YieldsIf P ops (fun W => R w W) oi v a) (hb : R w w') : YieldsIf P ops (fun W => R w' W) oi v a :=
  h.imp (fun ⟨h1, h2⟩ => ⟨h1, fun W hW => h2 W (ht _ _ _ hb hW)⟩) id

theorem wpF_first {R : World → World → Prop} {nw : List Nat} (hR : Stands G R nw) {i : Nat} {oi : Oper} {v : Value} (hi : ops[i]? = some oi) (hsel : ∀ (j : Nat) (o : Oper) cs b, ops[j]? = some o → o.op ≠ .select cs b)
    (hQ : ∀ c a w, Q (.panic c) (a.put oi.dst v) w → Q (.panic c) a w) (hil : i ∉ sl) :
    ∀ (fuel : Nat) (listed : Array Bool) (a : Act) (w : World),
      (∀ j oj, ops[j]? = some oj → j ≠ i → listed.getD j true = false → (∀ e ∈ oj.after, Region.binds md e = true → e.on ≠ i) → oi.apart ops oj = true) →
      (∀ j oj, j ∈ sl → j ∉ nw → ops[j]? = some oj → listed.getD j true = false → ∃ e ∈ oj.after, Region.binds md e = true ∧ e.on = i) →
      i ∈ Region.ready md ops listed → YieldsIf P ops (fun W => R w W) oi v a →
      wpF P md ops G sl Q fuel (listed.setIfInBounds i true) (a.put oi.dst v) w → wpF P md ops G sl Q (fuel + 1) listed a w := by
  intro fuel
  induction fuel with
  | zero =>
    intro listed a w hfree hse hr hy H
    refine ⟨fun h => (by rw [h] at hr; cases hr), fun j hj => ?_⟩
    by_cases hji : j = i
    · subst hji; exact hy.wpOp hi (hR.refl w) ⟨⟨fun h => (hil h).elim, fun _ => Below.refl _ _⟩, H⟩
    · have := ready_mono hj hji
      rw [H.1] at this
      cases this
  | succ fuel ih =>
    intro listed a w hfree hse hr hy H
    refine ⟨fun h => (by rw [h] at hr; cases hr), fun j hj => ?_⟩
    by_cases hji : j = i
    · subst hji; exact hy.wpOp hi (hR.refl w) ⟨⟨fun h => (hil h).elim, fun _ => Below.refl _ _⟩, H⟩
    · have h1 := H.2 j (ready_mono hj hji)
      obtain ⟨hjun, oj, hoj, hall⟩ := mem_ready.1 hj
      have hnot : ∀ e ∈ oj.after, Region.binds md e = true → e.on ≠ i := fun e he hb heq => by
        have h1 := hall e he hb
        have h0 := (mem_ready.1 hr).1
        rw [heq] at h1
        rcases Nat.lt_or_ge i listed.size with h' | h'
        · simp [h'] at h0 h1; rw [h0] at h1; cases h1
        · simp [Array.getElem?_eq_none h'] at h1
      have hstep : ∀ w', ((j ∈ sl → KeepB (G j) w w') ∧ (j ∉ sl → Below w.heap.size w w')) → R w w' := fun w' h => by
        by_cases hjs : j ∈ sl
        · by_cases hp : j ∈ nw
          · exact hR.seal_ j hp _ _ (h.1 hjs)
          · obtain ⟨e, he, hb, heq⟩ := hse j oj hjs hp hoj hjun
            exact (hnot e he hb heq).elim
        · exact hR.below _ _ (h.2 hjs)
      have h2 := wpOp_putIf hoj (hfree j oj hoj hji hjun hnot) (fun cs b => hsel i oi cs b hi) (fun cs b => hsel j oj cs b hoj) hQ hy h1
      have hun' : ∀ k, (listed.setIfInBounds j true).getD k true = false → listed.getD k true = false := fun k hun => by
        by_cases hjk : j = k
        · subst hjk; exact hjun
        · rw [getD_set_ne true hjk] at hun; exact hun
      refine wpOp_mono (fun a' w' h3 => ⟨h3.2.1, ih (listed.setIfInBounds j true) a' w' (fun k ok hk hki hun hno => hfree k ok hk hki (hun' k hun) hno) (fun k ok hks hkn hk hun => hse k ok hks hkn hk (hun' k hun)) (ready_mono hr (Ne.symm hji))
        (yields_turn hR.trans h3.1 (hstep w' h3.2.1)) ?_⟩) h2
      rw [Array.setIfInBounds_comm _ _ hji]
      exact h3.2.2

/-- Does each seal that is to come wait for i? -/
def sealsWait (md : Region.Mode) (ops : Array Oper) (sl nw : List Nat) (listed : Array Bool) (i : Nat) : Bool :=
  sl.all fun j => nw.contains j || listed.getD j true || match ops[j]? with
    | some oj => oj.after.any fun e => Region.binds md e && e.on == i
    | none => true
theorem sealsWait_spec {listed : Array Bool} {i : Nat} {nw : List Nat} (h : sealsWait md ops sl nw listed i = true) (j : Nat) (oj : Oper) (hj : j ∈ sl) (hn : j ∉ nw) (ho : ops[j]? = some oj) (hu : listed.getD j true = false) : ∃ e ∈ oj.after, Region.binds md e = true ∧ e.on = i := by
  have := List.all_eq_true.1 h j hj
  have hn' : nw.contains j = false := by simpa using hn
  rw [hu, ho, hn'] at this
  simp only [Bool.false_or] at this
  obtain ⟨e, he, hb⟩ := Array.any_eq_true'.1 this
  simp only [Bool.and_eq_true, beq_iff_eq] at hb
  exact ⟨e, he, hb.1, hb.2⟩
def sealsOk (md : Region.Mode) (ops : Array Oper) (sl nw : List Nat) : Array Bool → List Nat → Bool
  | _, [] => true
  | listed, i :: is => !sl.contains i && sealsWait md ops sl nw listed i && sealsOk md ops sl nw (listed.setIfInBounds i true) is

theorem wpF_lightsI {R : World → World → Prop} {nw : List Nat} (hR : Stands G R nw) (hns : Region.noSelect ops = true) {A : Act} : ∀ (is : List Nat) (ls : List Oper) (fuel : Nat) (listed : Array Bool) (a : Act) (w : World),
    Sel ops is ls → lightsOk md ops a.tmps.size listed is ls = true → sealsOk md ops sl nw listed is = true →
    (∀ w1, R w w1 → wpList P ops (Lend A w1) ls a w1) → wpF P md ops G sl (NoPanic Q) fuel (listAll listed is) A w → wpF P md ops G sl (NoPanic Q) (fuel + is.length) listed a w
  | [], _ :: _, _, _, _, _, hf, _, _, _, _ => hf.elim
  | _ :: _, [], _, _, _, _, hf, _, _, _, _ => hf.elim
  | [], [], fuel, listed, a, w, hf, _, _, H, K => by
    obtain ⟨_, rfl, _⟩ := H w (hR.refl w)
    exact K
  | i :: is, o :: ls, fuel, listed, a, w, ⟨hi, hf⟩, hok, hso, H, K => by
    simp only [lightsOk, Bool.and_eq_true] at hok
    obtain ⟨⟨⟨⟨hl, hr⟩, hfree⟩, hd⟩, hrest⟩ := hok
    simp only [sealsOk, Bool.and_eq_true] at hso
    obtain ⟨⟨hil, hpw⟩, hsrest⟩ := hso
    have hil' : i ∉ sl := by simpa using hil
    have hse : ∀ j oj, j ∈ sl → j ∉ nw → ops[j]? = some oj → listed.getD j true = false → ∃ e ∈ oj.after, Region.binds md e = true ∧ e.on = i := sealsWait_spec hpw
    have hall := lightsOk_all is ls hrest
    obtain ⟨d, hdst, hdsz, hdis⟩ : ∃ d, o.dst = some d ∧ d < a.tmps.size ∧ ∀ o' ∈ ls, o'.dst ≠ some d := by
      cases hdd : o.dst with
      | none => rw [hdd] at hd; cases hd
      | some d =>
        rw [hdd] at hd
        simp only [Bool.and_eq_true, decide_eq_true_eq, List.all_eq_true] at hd
        exact ⟨d, rfl, hd.1, fun o' ho => by simpa using hd.2 o' ho⟩
    have hQ : ∀ (v : Value) c a w, NoPanic Q (.panic c) (a.put o.dst v) w → NoPanic Q (.panic c) a w := fun v c a w h => h
    cases hw : Region.wanted o (yielded ops a.tmps) with
    | true =>
      have step : ∀ w1, R w w1 → ∃ v, (execOp a.eval o).run P w1 = .ok (.value v) w1 ∧ wpList P ops (Lend A w1) ls (a.put o.dst v) w1 ∧ A.tmps[d]? = some v := fun w1 h1 => by
        have h := H w1 h1
        unfold wpList at h
        rw [if_pos hw] at h
        obtain ⟨v, u', hrun, hk⟩ := light_wp hl h
        obtain ⟨_, m1, m2, m3⟩ := light_run hl hrun
        obtain ⟨e1, e2, e3⟩ := lights_end ls _ _ hall hk
        obtain rfl := m3 (by omega) (by omega)
        refine ⟨v, hrun, hk, ?_⟩
        rw [e3 d hdis, hdst]
        simp [Act.put, hdsz]
      obtain ⟨v, _, _, hAv⟩ := step w (hR.refl w)
      have step2 : ∀ w1, R w w1 → (execOp a.eval o).run P w1 = .ok (.value v) w1 ∧ wpList P ops (Lend A w1) ls (a.put o.dst v) w1 := fun w1 h1 => by
        obtain ⟨v', h2, h3, h4⟩ := step w1 h1
        rw [hAv] at h4
        injection h4 with h4
        subst h4
        exact ⟨h2, h3⟩
      have := wpF_lightsI hR hns is ls fuel (listed.setIfInBounds i true) (a.put o.dst v) w hf (by rw [put_size]; exact hrest) hsrest (fun w1 h1 => (step2 w1 h1).2) K
      exact wpF_first hR hi (Region.noSelect_spec hns) (hQ v) hil' _ listed a w (Region.free_spec hi hfree) hse (by simpa using hr) (.inl ⟨hw, fun w1 h1 => (step2 w1 h1).1⟩) this
    | false =>
      have := wpF_lightsI hR hns is ls fuel (listed.setIfInBounds i true) (a.put o.dst undef) w hf (by rw [put_size]; exact hrest) hsrest (fun w1 h1 => by
        have h := H w1 h1
        unfold wpList at h
        rw [if_neg (by rw [hw]; simp)] at h
        exact h) K
      exact wpF_first hR hi (Region.noSelect_spec hns) (hQ undef) hil' _ listed a w (Region.free_spec hi hfree) hse (by simpa using hr) (.inr ⟨hw, rfl⟩) this

/-- A batch of lights, by a mask; each seal that is to come waits for each of them, or there is none. -/
theorem wpF_lights (m : List Bool) (sz : Nat) {l : List Oper} {a : Act} (A : Act) {w : World} {f : Nat} {listed : Array Bool}
    (hm : (m.length ≤ l.length ∧ Region.noSelect l.toArray = true ∧ (pickI m 0).length ≤ f ∧ lightsOk md l.toArray sz listed (pickI m 0) (pickL m l) = true ∧ sealsOk md l.toArray sl [] listed (pickI m 0) = true)) (hsz : a.tmps.size = sz)
    (H : ∀ w1, Below w.heap.size w w1 → wpList P l.toArray (Lend A w1) (pickL m l) a w1) (K : wpF P md l.toArray G sl (NoPanic Q) (f - (pickI m 0).length) (listAll listed (pickI m 0)) A w) : wpF P md l.toArray G sl (NoPanic Q) f listed a w := by
  have e : f = (f - (pickI m 0).length) + (pickI m 0).length := by omega
  rw [e]
  subst hsz
  exact wpF_lightsI (R := fun x y => Below x.heap.size x y) ⟨fun x => Below.refl _ _, fun _ _ h => h, fun _ _ _ => bTr, fun _ h => by cases h⟩ hm.2.1 (pickI m 0) (pickL m l) _ listed a w (sel_pick m l 0 hm.1 (fun j => by simp)) hm.2.2.2.1 hm.2.2.2.2 H K
/-- A batch of lights that stand whatever a seal may leave. -/
theorem wpF_lightsG (m : List Bool) (sz : Nat) (nw : List Nat) (S : Nat → Prop) {l : List Oper} {a : Act} (A : Act) {w : World} {f : Nat} {listed : Array Bool}
    (hm : (m.length ≤ l.length ∧ Region.noSelect l.toArray = true ∧ (pickI m 0).length ≤ f ∧ lightsOk md l.toArray sz listed (pickI m 0) (pickL m l) = true ∧ sealsOk md l.toArray sl nw listed (pickI m 0) = true)) (hS : ∀ j ∈ nw, ∀ b, S b → G j b) (hsz : a.tmps.size = sz)
    (H : ∀ w1, KeepB S w w1 → wpList P l.toArray (Lend A w1) (pickL m l) a w1) (K : wpF P md l.toArray G sl (NoPanic Q) (f - (pickI m 0).length) (listAll listed (pickI m 0)) A w) : wpF P md l.toArray G sl (NoPanic Q) f listed a w := by
  have e : f = (f - (pickI m 0).length) + (pickI m 0).length := by omega
  rw [e]
  subst hsz
  exact wpF_lightsI (R := KeepB S) ⟨fun x => KeepB.refl _ _, fun _ _ h => KeepB.of_below h (fun _ hk _ => hk), fun _ _ _ => KeepB.trans, fun j hj _ _ h => h.sub fun b _ hb => hS j hj b hb⟩ hm.2.1 (pickI m 0) (pickL m l) _ listed a w (sel_pick m l 0 hm.1 (fun j => by simp)) hm.2.2.2.1 hm.2.2.2.2 H K

/-- An operation that leaves all that was there, when it alone may come up. -/
theorem wpF_call (m : List Bool) (i : Nat) {o : Oper} {l : List Oper} {a : Act} {w : World} {f : Nat} {listed : Array Bool}
    (hr : (0 < f ∧ Region.ready md l.toArray listed = [i] ∧ sl.contains i = false)) (ho : pickL m l = [o]) (hi : l.toArray[i]? = some o)
    (H : wpList P l.toArray (fun e a' w' => e = .normal ∧ Below w.heap.size w w' ∧ wpF P md l.toArray G sl (NoPanic Q) (f - 1) (listed.setIfInBounds i true) a' w') (pickL m l) a w) :
    wpF P md l.toArray G sl (NoPanic Q) f listed a w := by
  obtain ⟨hf, hr, hs⟩ := hr
  have hs : i ∉ sl := by simpa using hs
  obtain ⟨f, rfl⟩ : ∃ g, f = g + 1 := ⟨f - 1, by omega⟩
  refine ⟨fun h0 => (by rw [hr] at h0; cases h0), fun j hj => ?_⟩
  rw [hr] at hj
  obtain rfl : j = i := by simpa using hj
  rw [ho] at H
  exact wpOp_mono (fun a' w' h => ⟨⟨fun hh => (hs hh).elim, fun _ => h.1⟩, h.2⟩) (one_op hi H)
/-- Two that leave all that was there, when they alone may come up. -/
theorem wpF_two (m m' : List Bool) (i j : Nat) {o o' : Oper} {l : List Oper} {a : Act} {w : World} {f : Nat} {listed : Array Bool}
    (hr : (0 < f ∧ Region.ready md l.toArray listed = [i, j] ∧ sl.contains i = false ∧ sl.contains j = false)) (ho : pickL m l = [o]) (hi : l.toArray[i]? = some o) (ho' : pickL m' l = [o']) (hj : l.toArray[j]? = some o')
    (H : wpList P l.toArray (fun e a' w' => e = .normal ∧ Below w.heap.size w w' ∧ wpF P md l.toArray G sl (NoPanic Q) (f - 1) (listed.setIfInBounds i true) a' w') (pickL m l) a w)
    (H' : wpList P l.toArray (fun e a' w' => e = .normal ∧ Below w.heap.size w w' ∧ wpF P md l.toArray G sl (NoPanic Q) (f - 1) (listed.setIfInBounds j true) a' w') (pickL m' l) a w) :
    wpF P md l.toArray G sl (NoPanic Q) f listed a w := by
  obtain ⟨hf, hr, hs, hs'⟩ := hr
  have hs : i ∉ sl := by simpa using hs
  have hs' : j ∉ sl := by simpa using hs'
  obtain ⟨f, rfl⟩ : ∃ g, f = g + 1 := ⟨f - 1, by omega⟩
  refine ⟨fun h0 => (by rw [hr] at h0; cases h0), fun k hk => ?_⟩
  rw [hr] at hk
  rw [ho] at H
  rw [ho'] at H'
  rcases List.mem_cons.1 hk with rfl | hk
  · exact wpOp_mono (fun a' w' h => ⟨⟨fun hh => (hs hh).elim, fun _ => h.1⟩, h.2⟩) (one_op hi H)
  · obtain rfl : k = j := by simpa using hk
    exact wpOp_mono (fun a' w' h => ⟨⟨fun hh => (hs' hh).elim, fun _ => h.1⟩, h.2⟩) (one_op hj H')
/-- A seal, when it alone may come up. -/
theorem wpF_seal (m : List Bool) (i : Nat) {o : Oper} {l : List Oper} {a : Act} {w : World} {f : Nat} {listed : Array Bool}
    (hr : (0 < f ∧ Region.ready md l.toArray listed = [i] ∧ sl.contains i = true)) (ho : pickL m l = [o]) (hi : l.toArray[i]? = some o)
    (H : wpList P l.toArray (fun e a' w' => e = .normal ∧ KeepB (G i) w w' ∧ wpF P md l.toArray G sl (NoPanic Q) (f - 1) (listed.setIfInBounds i true) a' w') (pickL m l) a w) :
    wpF P md l.toArray G sl (NoPanic Q) f listed a w := by
  obtain ⟨hf, hr, hs⟩ := hr
  have hs : i ∈ sl := by simpa using hs
  obtain ⟨f, rfl⟩ : ∃ g, f = g + 1 := ⟨f - 1, by omega⟩
  refine ⟨fun h0 => (by rw [hr] at h0; cases h0), fun j hj => ?_⟩
  rw [hr] at hj
  obtain rfl : j = i := by simpa using hj
  rw [ho] at H
  exact wpOp_mono (fun a' w' h => ⟨⟨fun _ => h.1, fun hh => (hh hs).elim⟩, h.2⟩) (one_op hi H)
theorem wpF_end {l : List Oper} {a : Act} {w : World} {f : Nat} {listed : Array Bool} (hr : Region.ready md l.toArray listed = []) (h : Q .normal a w) : wpF P md l.toArray G sl (NoPanic Q) f listed a w := by
  cases f with
  | zero => exact ⟨hr, h⟩
  | succ f => exact ⟨fun _ => h, by rw [hr]; simp⟩

theorem own_slice {w : World} {B : Nat} {e : TypeId} {size n : Nat} {v : Value} {xs : List Value} (h : w.ownsRow B e size v n xs) : ∃ A c, v = .slice A n c ∧ n ≤ c ∧ c ≤ maxLen := by
  rcases h.2 with ⟨rfl, rfl⟩ | ⟨g, cap, cur, rfl, _, _, h1, h2, _⟩
  · exact ⟨none, 0, rfl, Nat.le_refl _, by simp⟩
  · exact ⟨_, cap, rfl, h1, h2⟩
theorem own_row_base {w : World} {B : Nat} {e : TypeId} {size n : Nat} {v : Value} {xs : List Value} (h : w.ownsRow B e size v n xs) : ∀ k, v.ownBlock = some k → B ≤ k := fun k hk => by
  rcases h.2 with ⟨rfl, rfl⟩ | ⟨g, cap, cur, rfl, hb, _, h1, h2, _⟩
  · cases hk
  · have : g = k := by simpa [Value.ownBlock] using hk
    omega
/-- append inside a fence. -/
theorem listIn_append_rd {F : Fence} {n0 : Nat} {w : World} {base : Nat} {t e : TypeId} {z : Value} {size bytes : Nat} {rest : List Oper} {o : Oper} {a : Act} (hgd : o.guard = none) (s x : Operand)
    (ho : o.op = .call { callee := .builtin .append, args := #[s, x], argTypes := #[t, t] }) (E : Elem P t e z size bytes)
    {v : Value} {n : Nat} {xs : List Value} (hs : a.eval s = v) (hown : w.ownsRow base e size v n xs)
    {A : Option Addr} {m c : Nat} {news : List Value} (hx : a.eval x = .slice A m c) (hlen : news.length = m * size) (hr : Rd w A news) (h1 : ∀ u ∈ news, u.oneCell' = true)
    (h63 : n + m ≤ maxLen) (hbytes : (n + m) * bytes ≤ 140737488355328) (hbase : base ≤ w.heap.size)
    (h : ∀ v' w', w'.ownsRow base e size v' (n + m) (xs ++ news) → w.grownBy w' v.ownBlock → (v'.ownBlock = v.ownBlock ∨ v'.ownBlock = some w.heap.size) → wpListIn F n0 P ops Q rest (a.put o.dst v') w') : wpListIn F n0 P ops Q (o :: rest) a w := by
  refine wpListIn_plain hgd fun K hK' => ?_
  obtain ⟨v', w', hrun, h2, h3, h4⟩ := run_append_rd (w := w) E o.type hown c hlen hr h1 h63 hbytes hbase
  unfold Oper.wpIn
  refine ⟨?_, ?_⟩
  · simp [Oper.about, ho, resolve, Target.leads, Sem.run_pure]
  · rw [Oper.semAt_plain F _ _ (by rw [ho]; intro c hc'; cases hc')]
    simp [execOp, ho, resolve, invoke, builtin, hs, hx, hrun, Result.andThen]
    exact hK' _ _ (h v' w' h2 h3 h4)
/-- A region, in whatever order; it does not panic. -/
theorem region_flow {id : Nat} {l : List Oper} {a : Act} {w : World} (n : Nat) (sl : List Nat) (G : Nat → Nat → Prop) (hm : (P.follows .mixedOrders = true ∧ l.length = n))
    (h : ∀ w1, Below w.heap.size w w1 → wpF P .any l.toArray G sl (NoPanic Q) n (Array.replicate n false) a w1) : (Code.region id l.toArray true).wp P Q a w := by
  obtain ⟨hm, rfl⟩ := hm
  refine wp_region_noPanic (wp_region_any hm ?_)
  exact (h w.drew (Below.refl w.heap.size w).drew).any
/-- One without a writer. -/
theorem region_flow0 {id : Nat} {l : List Oper} {a : Act} {w : World} (n : Nat) (hm : (P.follows .mixedOrders = true ∧ l.length = n))
    (h : ∀ w1, Below w.heap.size w w1 → wpF P .any l.toArray (fun _ _ => True) [] (NoPanic Q) n (Array.replicate n false) a w1) : (Code.region id l.toArray true).wp P Q a w :=
  region_flow n [] _ hm h
end
end Go.Proofs.Ytefpagijgiggmab
