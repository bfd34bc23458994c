/- A region that draws its order and in which one new variable may come up whenever: the rest is walked without it. -/
import Derived.Test.YtefpagijgiggmabFlow
namespace Go.Proofs.Ytefpagijgiggmab
open Go Go.RowKit
section
variable {P : Program} {ops : Array Oper} {md : Region.Mode} {Q0 : Exit → Act → World → Prop} {Qs : List (Nat × Nat) → Array Bool → Act → World → Prop}

/-- Stretches of blocks that were made. -/
def pushI (a b : Nat) (L : List (Nat × Nat)) : List (Nat × Nat) := if a < b then (a, b) :: L else L
theorem mem_pushI {a b : Nat} {L : List (Nat × Nat)} {p : Nat × Nat} (h : p ∈ pushI a b L) : p = (a, b) ∨ p ∈ L := by
  unfold pushI at h; split at h
  · rcases List.mem_cons.1 h with h | h
    · exact .inl h
    · exact .inr h
  · exact .inr h
theorem pushI_same (a : Nat) (L : List (Nat × Nat)) : pushI a a L = L := by simp [pushI]

def outL (L : List (Nat × Nat)) (b : Nat) : Prop := ∀ p ∈ L, b < p.1 ∨ p.2 ≤ b
theorem outL_pushI {a b g : Nat} {L : List (Nat × Nat)} (h : outL (pushI a b L) g) : (g < a ∨ b ≤ g) ∧ outL L g := by
  unfold pushI at h
  split at h
  · exact ⟨h (a, b) (by simp), fun p hp => h p (by simp [hp])⟩
  · exact ⟨by omega, h⟩
theorem outL_ne {a b g x : Nat} {L : List (Nat × Nat)} (h : outL (pushI a b L) g) (h1 : a ≤ x) (h2 : x < b) : g ≠ x := by have := (outL_pushI h).1; omega
theorem outL_push {a b g : Nat} {L : List (Nat × Nat)} (h : outL L g) (hg : g < a ∨ b ≤ g) : outL (pushI a b L) g := fun p hp => by
  rcases mem_pushI hp with rfl | hp
  · exact hg
  · exact h p hp
theorem outL_nil (b : Nat) : outL [] b := fun p hp => by cases hp
theorem keepL_nil {w w' : World} (h : KeepB (outL []) w w') : Below w.heap.size w w' := h.to_below (Nat.le_refl _) (fun _ _ => outL_nil _)
/-- What stood before a step, and behind it, stood throughout. -/
theorem keepL_turn {L : List (Nat × Nat)} {w w1 w' W : World} (h : Below w.heap.size w w1) (h1 : KeepB (outL L) w1 w') (h2 : KeepB (outL (pushI w1.heap.size w'.heap.size L)) w' W) : KeepB (outL L) w W := by
  have a1 : KeepB (fun b => outL L b ∧ b < w1.heap.size) w w1 := KeepB.of_below h (fun _ hk _ => hk)
  have a2 : KeepB (fun b => outL L b ∧ b < w1.heap.size) w1 w' := h1.sub (fun _ _ h => h.1)
  have a3 : KeepB (fun b => outL L b ∧ b < w1.heap.size) w' W := h2.sub (fun _ _ h => outL_push h.1 (.inl h.2))
  exact ((a1.trans a2).trans a3).sub (fun b hb ho => ⟨ho, Nat.lt_of_lt_of_le hb h.size⟩)

/-- Whatever order is picked, however the world grows meanwhile; the stretches that are made are told. -/
def wpAnyL (P : Program) (md : Region.Mode) (ops : Array Oper) (Q0 : Exit → Act → World → Prop) (Qs : List (Nat × Nat) → Array Bool → Act → World → Prop) : Nat → Array Bool → List (Nat × Nat) → Act → World → Prop
  | 0, listed, L, a, w => Region.ready md ops listed = [] ∧ ∀ w1, Below w.heap.size w w1 → Qs L listed a w1
  | fuel + 1, listed, L, a, w => ∀ w1, Below w.heap.size w w1 → (Region.ready md ops listed = [] → Qs L listed a w1) ∧
    ∀ i ∈ Region.ready md ops listed, wpOp P ops (NoPanic Q0) i (fun a' w' => KeepB (outL L) w1 w' ∧ wpAnyL P md ops Q0 Qs fuel (listed.setIfInBounds i true) (pushI w1.heap.size w'.heap.size L) a' w') a w1
theorem wpAnyL.mono : ∀ {fuel : Nat} {listed : Array Bool} {L : List (Nat × Nat)} {a : Act} {w w' : World}, wpAnyL P md ops Q0 Qs fuel listed L a w → Below w.heap.size w w' → wpAnyL P md ops Q0 Qs fuel listed L a w'
  | 0, _, _, _, _, _, h, hb => ⟨h.1, fun w1 h1 => h.2 w1 (bTr hb h1)⟩
  | _ + 1, _, _, _, _, _, h, hb => fun w1 h1 => h w1 (bTr hb h1)
theorem wpAnyL_done {listed : Array Bool} {L : List (Nat × Nat)} {a : Act} {w : World} (hr : Region.ready md ops listed = []) (h : ∀ w1, Below w.heap.size w w1 → Qs L listed a w1) : ∀ fuel, wpAnyL P md ops Q0 Qs fuel listed L a w
  | 0 => ⟨hr, h⟩
  | _ + 1 => fun w1 h1 => ⟨fun _ => h w1 h1, by rw [hr]; simp⟩

theorem wpAnyL_first {i : Nat} {oi : Oper} {v : Value} (hi : ops[i]? = some oi) (hsel : ∀ (j : Nat) (o : Oper) cs b, ops[j]? = some o → o.op ≠ .select cs b) :
    ∀ (fuel : Nat) (listed : Array Bool) (L : List (Nat × Nat)) (a : Act) (w : World),
      (∀ j oj, ops[j]? = some oj → j ≠ i → listed.getD j true = false → (∀ e ∈ oj.after, Region.binds md e = true → e.on ≠ i) → oi.apart ops oj = true) →
      i ∈ Region.ready md ops listed → YieldsIf P ops (fun W => KeepB (outL L) w W) oi v a →
      wpAnyL P md ops Q0 Qs fuel (listed.setIfInBounds i true) L (a.put oi.dst v) w → wpAnyL P md ops Q0 Qs (fuel + 1) listed L a w := by
  have hQ : ∀ c a w, NoPanic Q0 (.panic c) (a.put oi.dst v) w → NoPanic Q0 (.panic c) a w := fun c a w h => h
  intro fuel
  induction fuel with
  | zero =>
    intro listed L a w hfree hr hy H w1 h1
    refine ⟨fun h => (by rw [h] at hr; cases hr), fun j hj => ?_⟩
    by_cases hji : j = i
    · subst hji; exact hy.wpOp hi (KeepB.of_below h1 (fun _ hk _ => hk)) ⟨KeepB.refl _ _, by rw [pushI_same]; exact H.mono h1⟩
    · have := ready_mono hj hji
      rw [H.1] at this
      cases this
  | succ fuel ih =>
    intro listed L a w hfree hr hy H w1 hw1
    refine ⟨fun h => (by rw [h] at hr; cases hr), fun j hj => ?_⟩
    by_cases hji : j = i
    · subst hji; exact hy.wpOp hi (KeepB.of_below hw1 (fun _ hk _ => hk)) ⟨KeepB.refl _ _, by rw [pushI_same]; exact H.mono hw1⟩
    · have h1 := (H w1 hw1).2 j (ready_mono hj hji)
      obtain ⟨hjun, oj, hoj, hall⟩ := mem_ready.1 hj
      have hnot : ∀ e ∈ oj.after, Region.binds md e = true → e.on ≠ i := fun e he hb heq => by
        have h1 := hall e he hb
        have h0 := (mem_ready.1 hr).1
        rw [heq] at h1
        rcases Nat.lt_or_ge i listed.size with h' | h'
        · simp [h'] at h0 h1; rw [h0] at h1; cases h1
        · simp [Array.getElem?_eq_none h'] at h1
      have h2 := wpOp_putIf hoj (hfree j oj hoj hji hjun hnot) (fun cs b => hsel i oi cs b hi) (fun cs b => hsel j oj cs b hoj) hQ hy h1
      have hfree' : ∀ k ok, ops[k]? = some ok → k ≠ i → (listed.setIfInBounds j true).getD k true = false →
          (∀ e ∈ ok.after, Region.binds md e = true → e.on ≠ i) → oi.apart ops ok = true := fun k ok hk hki hun hno => by
        refine hfree k ok hk hki ?_ hno
        by_cases hjk : j = k
        · subst hjk; exact hjun
        · rw [getD_set_ne true hjk] at hun; exact hun
      refine wpOp_mono (fun a' w' h3 => ⟨h3.2.1, ih (listed.setIfInBounds j true) _ a' w' hfree' (ready_mono hr (Ne.symm hji)) (h3.1.imp (fun ⟨x1, x2⟩ => ⟨x1, fun W hW => x2 W (keepL_turn hw1 h3.2.1 hW)⟩) id) ?_⟩) h2
      rw [Array.setIfInBounds_comm _ _ hji]
      exact h3.2.2

theorem wpAnyL_lightsI (hns : Region.noSelect ops = true) {A : Act} : ∀ (is : List Nat) (ls : List Oper) (fuel : Nat) (listed : Array Bool) (L : List (Nat × Nat)) (a : Act) (w : World),
    Sel ops is ls → lightsOk md ops a.tmps.size listed is ls = true →
    (∀ w1, KeepB (outL L) w w1 → wpList P ops (Lend A w1) ls a w1) → wpAnyL P md ops Q0 Qs fuel (listAll listed is) L A w → wpAnyL P md ops Q0 Qs (fuel + is.length) listed L a w
  | [], _ :: _, _, _, _, _, _, hf, _, _, _ => hf.elim
  | _ :: _, [], _, _, _, _, _, hf, _, _, _ => hf.elim
  | [], [], fuel, listed, L, a, w, hf, _, H, K => by
    obtain ⟨_, rfl, _⟩ := H w (KeepB.refl _ _)
    exact K
  | i :: is, o :: ls, fuel, listed, L, a, w, ⟨hi, hf⟩, hok, H, K => by
    simp only [lightsOk, Bool.and_eq_true] at hok
    obtain ⟨⟨⟨⟨hl, hr⟩, hfree⟩, hd⟩, hrest⟩ := hok
    have hall := lightsOk_all is ls hrest
    obtain ⟨d, hdst, hdsz, hdis⟩ : ∃ d, o.dst = some d ∧ d < a.tmps.size ∧ ∀ o' ∈ ls, o'.dst ≠ some d := by
      cases hdd : o.dst with
      | none => rw [hdd] at hd; cases hd
      | some d =>
        rw [hdd] at hd
        simp only [Bool.and_eq_true, decide_eq_true_eq, List.all_eq_true] at hd
        exact ⟨d, rfl, hd.1, fun o' ho => by simpa using hd.2 o' ho⟩
    cases hw : Region.wanted o (yielded ops a.tmps) with
    | true =>
      have step : ∀ w1, KeepB (outL L) w w1 → ∃ v, (execOp a.eval o).run P w1 = .ok (.value v) w1 ∧ wpList P ops (Lend A w1) ls (a.put o.dst v) w1 ∧ A.tmps[d]? = some v := fun w1 h1 => by
        have h := H w1 h1
        unfold wpList at h
        rw [if_pos hw] at h
        obtain ⟨v, u', hrun, hk⟩ := light_wp hl h
        obtain ⟨_, m1, m2, m3⟩ := light_run hl hrun
        obtain ⟨e1, e2, e3⟩ := lights_end ls _ _ hall hk
        obtain rfl := m3 (by omega) (by omega)
        refine ⟨v, hrun, hk, ?_⟩
        rw [e3 d hdis, hdst]
        simp [Act.put, hdsz]
      obtain ⟨v, _, _, hAv⟩ := step w (KeepB.refl _ _)
      have step2 : ∀ w1, KeepB (outL L) w w1 → (execOp a.eval o).run P w1 = .ok (.value v) w1 ∧ wpList P ops (Lend A w1) ls (a.put o.dst v) w1 := fun w1 h1 => by
        obtain ⟨v', h2, h3, h4⟩ := step w1 h1
        rw [hAv] at h4
        injection h4 with h4
        subst h4
        exact ⟨h2, h3⟩
      have := wpAnyL_lightsI hns is ls fuel (listed.setIfInBounds i true) L (a.put o.dst v) w hf (by rw [put_size]; exact hrest) (fun w1 h1 => (step2 w1 h1).2) K
      exact wpAnyL_first hi (Region.noSelect_spec hns) _ listed L a w (Region.free_spec hi hfree) (by simpa using hr) (.inl ⟨hw, fun w1 h1 => (step2 w1 h1).1⟩) this
    | false =>
      have := wpAnyL_lightsI hns is ls fuel (listed.setIfInBounds i true) L (a.put o.dst undef) w hf (by rw [put_size]; exact hrest) (fun w1 h1 => by
        have h := H w1 h1
        unfold wpList at h
        rw [if_neg (by rw [hw]; simp)] at h
        exact h) K
      exact wpAnyL_first hi (Region.noSelect_spec hns) _ listed L a w (Region.free_spec hi hfree) (by simpa using hr) (.inr ⟨hw, rfl⟩) this
theorem wpAnyL_lightsG (S : Nat → Prop) (m : List Bool) (sz : Nat) {l : List Oper} {a : Act} (A : Act) {w : World} {f : Nat} {listed : Array Bool} {L : List (Nat × Nat)} (hm : (m.length ≤ l.length ∧ Region.noSelect l.toArray = true ∧ (pickI m 0).length ≤ f ∧ lightsOk md l.toArray sz listed (pickI m 0) (pickL m l) = true)) (hS : ∀ b, b < w.heap.size → S b → outL L b) (hsz : a.tmps.size = sz)
    (H : ∀ w1, KeepB S w w1 → wpList P l.toArray (Lend A w1) (pickL m l) a w1) (K : wpAnyL P md l.toArray Q0 Qs (f - (pickI m 0).length) (listAll listed (pickI m 0)) L A w) : wpAnyL P md l.toArray Q0 Qs f listed L a w := by
  have e : f = (f - (pickI m 0).length) + (pickI m 0).length := by omega
  rw [e]
  subst hsz
  exact wpAnyL_lightsI hm.2.1 (pickI m 0) (pickL m l) _ listed L a w (sel_pick m l 0 hm.1 (fun j => by simp)) hm.2.2.2 (fun w1 h1 => H w1 (h1.sub hS)) K
theorem wpAnyL_lights (m : List Bool) (sz : Nat) {l : List Oper} {a : Act} (A : Act) {w : World} {f : Nat} {listed : Array Bool} (hm : (m.length ≤ l.length ∧ Region.noSelect l.toArray = true ∧ (pickI m 0).length ≤ f ∧ lightsOk md l.toArray sz listed (pickI m 0) (pickL m l) = true)) (hsz : a.tmps.size = sz)
    (H : ∀ w1, Below w.heap.size w w1 → wpList P l.toArray (Lend A w1) (pickL m l) a w1) (K : wpAnyL P md l.toArray Q0 Qs (f - (pickI m 0).length) (listAll listed (pickI m 0)) [] A w) : wpAnyL P md l.toArray Q0 Qs f listed [] a w :=
  wpAnyL_lightsG (outL []) m sz A hm (fun _ _ h => h) hsz (fun w1 h1 => H w1 (keepL_nil h1)) K
theorem wpAnyL_grow (S : Nat → Prop) (m : List Bool) (i : Nat) {o : Oper} {l : List Oper} {a : Act} {w : World} {f : Nat} {listed : Array Bool} {L : List (Nat × Nat)}
    (hr : (0 < f ∧ Region.ready md l.toArray listed = [i] ∧ pickL m l = [o] ∧ l.toArray[i]? = some o)) (hS : ∀ b, outL L b → S b)
    (H : ∀ w1, Below w.heap.size w w1 → wpList P l.toArray (fun e a' w' => e = .normal ∧ KeepB S w1 w' ∧ wpAnyL P md l.toArray Q0 Qs (f - 1) (listed.setIfInBounds i true) (pushI w1.heap.size w'.heap.size L) a' w') (pickL m l) a w1) :
    wpAnyL P md l.toArray Q0 Qs f listed L a w := by
  obtain ⟨hf, hr, hp, hi⟩ := hr
  obtain ⟨f, rfl⟩ : ∃ g, f = g + 1 := ⟨f - 1, by omega⟩
  intro w1 h1
  refine ⟨fun h0 => (by rw [hr] at h0; cases h0), fun j hj => ?_⟩
  rw [hr] at hj
  obtain rfl : j = i := by simpa using hj
  have h := H w1 h1
  rw [hp] at h
  exact wpOp_mono (fun a' w' h => ⟨h.1.sub (fun b _ hb => hS b hb), h.2⟩) (one_op hi h)
theorem wpAnyL_call (m : List Bool) (i : Nat) {o : Oper} {l : List Oper} {a : Act} {w : World} {f : Nat} {listed : Array Bool} {L : List (Nat × Nat)}
    (hr : (0 < f ∧ Region.ready md l.toArray listed = [i] ∧ pickL m l = [o] ∧ l.toArray[i]? = some o))
    (H : ∀ w1, Below w.heap.size w w1 → wpList P l.toArray (fun e a' w' => e = .normal ∧ Below w1.heap.size w1 w' ∧ wpAnyL P md l.toArray Q0 Qs (f - 1) (listed.setIfInBounds i true) (pushI w1.heap.size w'.heap.size L) a' w') (pickL m l) a w1) :
    wpAnyL P md l.toArray Q0 Qs f listed L a w := by
  obtain ⟨hf, hr, hp, hi⟩ := hr
  obtain ⟨f, rfl⟩ : ∃ g, f = g + 1 := ⟨f - 1, by omega⟩
  intro w1 h1
  refine ⟨fun h0 => (by rw [hr] at h0; cases h0), fun j hj => ?_⟩
  rw [hr] at hj
  obtain rfl : j = i := by simpa using hj
  have h := H w1 h1
  rw [hp] at h
  exact wpOp_mono (fun a' w' h => ⟨KeepB.of_below h.1 (fun _ hk _ => hk), h.2⟩) (one_op hi h)

theorem own_keep {S : Nat → Prop} {w w' : World} {base : Nat} {e : TypeId} {size : Nat} {v : Value} {n : Nat} {xs : List Value} (h : w.ownsRow base e size v n xs) (hk : KeepB S w w') (hs : ∀ b, v.ownBlock = some b → S b) : w'.ownsRow base e size v n xs := by
  obtain ⟨hl, h2⟩ := h
  refine ⟨hl, ?_⟩
  rcases h2 with h2 | ⟨g, cap, cur, rfl, h3, h4, h5, h6, h7⟩
  · exact .inl h2
  · exact .inr ⟨g, cap, cur, rfl, h3, hk.heap (hs g rfl) h4, h5, h6, h7⟩
theorem own_below {w w' : World} {base : Nat} {e : TypeId} {size : Nat} {v : Value} {n : Nat} {xs : List Value} (h : w.ownsRow base e size v n xs) (hb : Below w.heap.size w w') : w'.ownsRow base e size v n xs :=
  own_keep h (S := fun _ => True) (KeepB.of_below hb (fun _ hk _ => hk)) (fun _ _ => trivial)
/-- An empty row that the region makes. -/
theorem wpAnyL_empty (m : List Bool) (i : Nat) {o : Oper} {l : List Oper} {a : Act} {w : World} {f : Nat} {listed : Array Bool} {L : List (Nat × Nat)} (e : TypeId) (size : Nat)
    (hr : (0 < f ∧ Region.ready md l.toArray listed = [i] ∧ pickL m l = [o] ∧ l.toArray[i]? = some o)) (hgd : o.guard = none)
    (hrun : ∀ ρ w, (execOp ρ o).run P w = .ok (.value (.slice (some ⟨w.heap.size, 0, none⟩) 0 0)) (w.alloc (.cells #[] e)))
    (H : ∀ z W, w.heap.size ≤ z → W.heap.size = z + 1 → Below w.heap.size w W → W.ownsRow w.heap.size e size (.slice (some ⟨z, 0, none⟩) 0 0) 0 [] → (∀ b, outL (pushI z (z + 1) L) b → (Value.slice (some ⟨z, 0, none⟩) 0 0).ownBlock ≠ some b) →
      wpAnyL P md l.toArray Q0 Qs (f - 1) (listed.setIfInBounds i true) (pushI z (z + 1) L) (a.put o.dst (.slice (some ⟨z, 0, none⟩) 0 0)) W) :
    wpAnyL P md l.toArray Q0 Qs f listed L a w := by
  refine wpAnyL_call m i hr (fun W hW => ?_)
  rw [hr.2.2.1]
  refine wpList_plain hgd fun K hK => ?_
  unfold Oper.wp
  rw [hrun]
  refine hK _ _ ⟨rfl, (Below.refl _ _).alloc (Nat.le_refl _) _, ?_⟩
  rw [World.size_alloc]
  refine H _ _ hW.size (by simp) (bTr hW ((Below.refl _ _).alloc (Nat.le_refl _) _)) (World.ownsRow_lit W #[] 0 hW.size (by simp [maxLen]) (by simp)) (fun b hb he => outL_ne hb (Nat.le_refl _) (by omega) (by simpa [Value.ownBlock] using he.symm))
/-- An append onto a row of the region's own. -/
theorem wpAnyL_append (m : List Bool) (i : Nat) {o : Oper} {l : List Oper} {a : Act} {w : World} {f : Nat} {listed : Array Bool} {L : List (Nat × Nat)} (s x : Operand) {t e : TypeId} {z : Value} {size bytes base : Nat}
    (hr : (0 < f ∧ Region.ready md l.toArray listed = [i] ∧ pickL m l = [o] ∧ l.toArray[i]? = some o)) (hgd : o.guard = none)
    (ho : o.op = .call { callee := .builtin .append, args := #[s, x], argTypes := #[t, t] }) (E : Elem P t e z size bytes)
    {v : Value} {n : Nat} {xs : List Value} (hs : a.eval s = v) (hown : w.ownsRow base e size v n xs) (hL : ∀ b, outL L b → v.ownBlock ≠ some b)
    {A : Option Addr} {k c : Nat} {news : List Value} (hx : a.eval x = .slice A k c) (hlen : news.length = k * size) (hrd : Rd w A news) (h1 : ∀ u ∈ news, u.oneCell' = true)
    (h63 : n + k ≤ maxLen) (hbytes : (n + k) * bytes ≤ 140737488355328) (hbase : base ≤ w.heap.size)
    (H : ∀ W v' W', Below w.heap.size w W → W'.ownsRow base e size v' (n + k) (xs ++ news) → KeepB (fun b => v.ownBlock ≠ some b) w W' → Below base w W' → (∀ b, outL (pushI W.heap.size W'.heap.size L) b → v'.ownBlock ≠ some b) →
      wpAnyL P md l.toArray Q0 Qs (f - 1) (listed.setIfInBounds i true) (pushI W.heap.size W'.heap.size L) (a.put o.dst v') W') :
    wpAnyL P md l.toArray Q0 Qs f listed L a w := by
  refine wpAnyL_grow (fun b => v.ownBlock ≠ some b) m i hr hL (fun W hW => ?_)
  rw [hr.2.2.1]
  have hownW := own_below hown hW
  refine list_append_rd hgd s x ho E hs hownW hx hlen (hrd.below hW) h1 h63 hbytes (Nat.le_trans hbase hW.size) ?_
  intro v' W' hown' hg hloc
  have hk1 : KeepB (fun b => v.ownBlock ≠ some b) W W' := (KeepB.refl _ _).grown hg (fun k hk _ hne => hne hk)
  have hk0 : KeepB (fun b => v.ownBlock ≠ some b) w W := KeepB.of_below hW (fun _ hk _ => hk)
  have hb : Below base w W' := bGrow (hW.mono hbase) hg (Nat.le_trans hbase hW.size) hownW
  refine ⟨rfl, hk1, H W v' W' hW hown' (hk0.trans hk1) hb fun b hb he => ?_⟩
  have h2 := outL_pushI hb
  rcases hloc with hl | hl
  · exact hL b h2.2 (hl ▸ he)
  · obtain rfl : W.heap.size = b := Option.some.inj (hl.symm.trans he)
    have hlt := (hown'.lt _ he).2
    have := h2.1
    omega

theorem wpAny_more {Q : Exit → Act → World → Prop} : ∀ (n : Nat) (R : Array Bool) (a : Act) (w : World), wpAny P md ops Q n R a w → wpAny P md ops Q (n + 1) R a w
  | 0, _, _, _, h => ⟨fun _ => h.2, by rw [h.1]; simp⟩
  | n + 1, _, _, _, h => ⟨h.1, fun i hi => wpOp_mono (fun a' w' h' => wpAny_more n _ a' w' h') (h.2 i hi)⟩
theorem wpAny_mores {Q : Exit → Act → World → Prop} (n k : Nat) (R : Array Bool) (a : Act) (w : World) (h : wpAny P md ops Q n R a w) : wpAny P md ops Q (n + k) R a w := by
  induction k with
  | zero => exact h
  | succ k ih => exact wpAny_more _ _ _ _ ih

/-- An operation that is apart from what has been put. -/
theorem wpOp_into {j : Nat} {oi oj : Oper} {v : Value} (hj : ops[j]? = some oj) (hap : oi.apart ops oj = true) (hsj : ∀ cs b, oj.op ≠ .select cs b)
    {K : Act → World → Prop} {a : Act} {w : World} (h : wpOp P ops (NoPanic Q0) j K a w) :
    wpOp P ops (NoPanic Q0) j (fun a'' w' => ∃ a', a'' = a'.put oi.dst v ∧ K a' w') (a.put oi.dst v) w := by
  obtain ⟨h1, h2, h3⟩ := Oper.apart_spec hap
  unfold wpOp at *
  simp only [hj] at *
  rw [wanted_put oj a oi.dst v h1]
  split
  · rename_i hw
    simp only [hw, if_true] at h
    rcases h with h | ⟨hasks, hlets⟩
    case inr => exact .inr ⟨by unfold Oper.asks at *; rw [execOp_put oj hsj a oi.dst v h1]; exact hasks, hlets⟩
    refine .inl ?_
    unfold Oper.wp at *
    rw [execOp_put oj hsj a oi.dst v h1]
    generalize (execOp a.eval oj).run P w = r at *
    cases r with
    | ok n w' =>
      cases n <;> simp only [Oper.upon] at h ⊢
      case value u => exact ⟨_, (Act.put_comm a v u h2), h⟩
      case skip => exact ⟨_, (Act.put_comm a v undef h2), h⟩
      case defer d =>
        exact ⟨_, (congrArg (fun x => Act.put x oj.dst undef) (Act.put_defers a oi.dst v d)).trans (Act.put_comm _ v undef h2), h⟩
      case enter f args =>
        refine Calls.mono h fun e w'' he => ?_
        cases e with
        | returned u => exact ⟨_, (Act.put_comm a v u h2), he⟩
        | panicked c => exact he
        | outgrown => exact he
      case row row args => exact Rows.mono h fun u w'' he => ⟨_, (Act.put_comm a v u h2), he⟩
    | halt x w' =>
      cases x <;> simp only [Oper.upon] at h ⊢
      case panic u => exact h
  · rename_i hw
    simp only [hw] at h
    exact ⟨_, (Act.put_comm a v undef h2), h⟩

/-- What the region has to be: q a new variable, s what waits for all. -/
def allocOk (md : Region.Mode) (ops : Array Oper) (q s d : Nat) : Bool :=
  (q != s) && decide (s < ops.size) && Region.noSelect ops &&
  (match ops[q]?, ops[s]? with
   | some oq, some os => (oq.dst == some d) && oq.guard.isNone && (oq.after.all fun e => !Region.binds md e) &&
       (List.range ops.size).all fun j => match ops[j]? with
         | some oj => (j == s || (os.after.any fun e => Region.binds md e && e.on == j)) && (oj.after.all fun e => !Region.binds md e || e.on != s) && (j == q || j == s || oq.apart ops oj)
         | none => true
   | _, _ => false)

theorem set_unset {R : Array Bool} {s : Nat} (h : R.getD s true = false) : (R.setIfInBounds s true).setIfInBounds s false = R := by
  apply Array.ext_getElem?
  intro i
  rcases Nat.lt_or_ge s R.size with hs | hs
  · have h' : R[s] = false := by simpa [hs] using h
    by_cases hi : s = i
    · subst hi; simp [hs, h']
    · simp [Array.getElem?_setIfInBounds_ne hi]
  · simp [hs] at h
theorem getD_set_same {R : Array Bool} {q : Nat} (h : R.getD q true = false) : (R.setIfInBounds q true).getD q true = true := by
  rcases Nat.lt_or_ge q R.size with hs | hs <;> simp [hs]

variable {q s d n0 : Nat} {ob : Obj}
/-- What is to be shown when all but the last has come up. -/
def AllocEnd (P : Program) (md : Region.Mode) (ops : Array Oper) (Q0 : Exit → Act → World → Prop) (s d n0 : Nat) (ob : Obj) (L : List (Nat × Nat)) (listed : Array Bool) (a : Act) (w : World) : Prop :=
  ∀ g, n0 ≤ g → outL L g → w.heap[g]? = some ob → wpAny P md ops (NoPanic Q0) 1 (listed.setIfInBounds s false) (a.put (some d) (.pointer (some ⟨g, 0, none⟩))) w

theorem alloc_there {oq os : Oper} (hq : ops[q]? = some oq) (hs : ops[s]? = some os) (hd : oq.dst = some d)
    (hsel : ∀ (j : Nat) (o : Oper) cs b, ops[j]? = some o → o.op ≠ .select cs b)
    (hall : ∀ j oj, ops[j]? = some oj → (j ≠ s → ∃ e ∈ os.after, Region.binds md e = true ∧ e.on = j) ∧ (∀ e ∈ oj.after, Region.binds md e = true → e.on ≠ s) ∧ (j ≠ q → j ≠ s → oq.apart ops oj = true)) :
    ∀ (fuel : Nat) (R : Array Bool) (L : List (Nat × Nat)) (a : Act) (W : World) (g : Nat), R.getD s true = false → R.getD q true = true → n0 ≤ g → outL L g → W.heap[g]? = some ob →
      wpAnyL P md ops Q0 (AllocEnd P md ops Q0 s d n0 ob) fuel (R.setIfInBounds s true) L a W → wpAny P md ops (NoPanic Q0) (fuel + 1) R (a.put (some d) (.pointer (some ⟨g, 0, none⟩))) W := by
  intro fuel
  induction fuel with
  | zero =>
    intro R L a W g hRs hRq hg hL hz H
    have := H.2 W (Below.refl _ _) g hg hL hz
    rwa [set_unset hRs] at this
  | succ fuel ih =>
    intro R L a W g hRs hRq hg hL hz H
    by_cases hr : Region.ready md ops (R.setIfInBounds s true) = []
    · have := (H W (Below.refl _ _)).1 hr g hg hL hz
      rw [set_unset hRs] at this
      rw [show fuel + 1 + 1 = 1 + (fuel + 1) by omega]
      exact wpAny_mores 1 _ _ _ _ this
    · obtain ⟨j0, hj0⟩ : ∃ j, j ∈ Region.ready md ops (R.setIfInBounds s true) := by
        cases hh : Region.ready md ops (R.setIfInBounds s true) with
        | nil => exact (hr hh).elim
        | cons x xs => exact ⟨x, by simp⟩
      obtain ⟨hj0u, oj0, hoj0, hj0a⟩ := mem_ready.1 hj0
      have hj0s : j0 ≠ s := by
        rintro rfl
        rw [getD_set_same hRs] at hj0u; cases hj0u
      have hj0R : R.getD j0 true = false := by rwa [getD_set_ne true (Ne.symm hj0s)] at hj0u
      refine ⟨fun hnil => ?_, fun i hi => ?_⟩
      · exfalso
        have : j0 ∈ Region.ready md ops R := mem_ready.2 ⟨hj0R, oj0, hoj0, fun e he hb => by
          have := hj0a e he hb
          rwa [getD_set_ne false (Ne.symm ((hall j0 oj0 hoj0).2.1 e he hb))] at this⟩
        rw [hnil] at this; cases this
      · obtain ⟨hiu, oi, hoi, hia⟩ := mem_ready.1 hi
        have his : i ≠ s := by
          rintro rfl
          rw [hs] at hoi
          obtain rfl := Option.some.inj hoi
          obtain ⟨e, he, hb, heq⟩ := (hall j0 oj0 hoj0).1 hj0s
          have := hia e he hb
          rw [heq] at this
          rcases Nat.lt_or_ge j0 R.size with hh | hh
          · simp [hh] at this hj0R; rw [this] at hj0R; cases hj0R
          · simp [hh] at hj0R
        have hiq : i ≠ q := by rintro rfl; rw [hRq] at hiu; cases hiu
        have h2 := (H W (Below.refl _ _)).2 i (ready_mono hi his)
        have h3 := wpOp_into (v := .pointer (some ⟨g, 0, none⟩)) hoi ((hall i oi hoi).2.2 hiq his) (fun cs b => hsel i oi cs b hoi) h2
        rw [hd] at h3
        refine wpOp_mono (fun a'' w' h4 => ?_) h3
        obtain ⟨a', rfl, hb, hk⟩ := h4
        have hgl : g < W.heap.size := (Array.getElem?_eq_some_iff.1 hz).1
        refine ih (R.setIfInBounds i true) _ a' w' g (by rw [getD_set_ne true his]; exact hRs) (by rw [getD_set_ne true hiq]; exact hRq) hg (outL_push hL (.inl hgl)) (hb.heap hL hz) (by rw [Array.setIfInBounds_comm _ _ his]; exact hk)

theorem alloc_whenever {oq os : Oper} (hq : ops[q]? = some oq) (hs : ops[s]? = some os) (hqs : q ≠ s) (hd : oq.dst = some d) (hgd : oq.guard = none) (haf : ∀ e ∈ oq.after, Region.binds md e = false)
    (hsel : ∀ (j : Nat) (o : Oper) cs b, ops[j]? = some o → o.op ≠ .select cs b)
    (hall : ∀ j oj, ops[j]? = some oj → (j ≠ s → ∃ e ∈ os.after, Region.binds md e = true ∧ e.on = j) ∧ (∀ e ∈ oj.after, Region.binds md e = true → e.on ≠ s) ∧ (j ≠ q → j ≠ s → oq.apart ops oj = true))
    (hrun : ∀ ρ w, (execOp ρ oq).run P w = .ok (.value (.pointer (some ⟨w.heap.size, 0, none⟩))) (w.alloc ob)) :
    ∀ (fuel : Nat) (R : Array Bool) (L : List (Nat × Nat)) (a : Act) (W : World), R.getD s true = false → R.getD q true = false → n0 ≤ W.heap.size → (∀ p ∈ L, p.2 ≤ W.heap.size) →
      wpAnyL P md ops Q0 (AllocEnd P md ops Q0 s d n0 ob) fuel ((R.setIfInBounds q true).setIfInBounds s true) L a W → wpAny P md ops (NoPanic Q0) (fuel + 2) R a W := by
  have hqR : ∀ R : Array Bool, R.getD q true = false → q ∈ Region.ready md ops R := fun R h => mem_ready.2 ⟨h, oq, hq, fun e he hb => by rw [haf e he] at hb; cases hb⟩
  have hnots : ∀ (R : Array Bool), R.getD q true = false → ∀ i ∈ Region.ready md ops R, i ≠ s := fun R h i hi => by
    rintro rfl
    obtain ⟨_, oi, hoi, hia⟩ := mem_ready.1 hi
    rw [hs] at hoi
    obtain rfl := Option.some.inj hoi
    obtain ⟨e, he, hb, heq⟩ := (hall q oq hq).1 hqs
    have := hia e he hb
    rw [heq] at this
    rcases Nat.lt_or_ge q R.size with hh | hh
    · simp [hh] at this h; rw [this] at h; cases h
    · simp [hh] at h
  have hput : ∀ (fuel : Nat) (R : Array Bool) (L : List (Nat × Nat)) (a : Act) (W : World), R.getD s true = false → R.getD q true = false → n0 ≤ W.heap.size → (∀ p ∈ L, p.2 ≤ W.heap.size) →
      wpAnyL P md ops Q0 (AllocEnd P md ops Q0 s d n0 ob) fuel ((R.setIfInBounds q true).setIfInBounds s true) L a W → wpOp P ops (NoPanic Q0) q (wpAny P md ops (NoPanic Q0) (fuel + 1) (R.setIfInBounds q true)) a W := fun fuel R L a W hRs hRq hn hL H => by
    unfold wpOp
    simp only [hq]
    rw [if_pos (by simp [Region.wanted, hgd])]
    refine .inl ?_
    unfold Oper.wp
    rw [hrun]
    show wpAny P md ops (NoPanic Q0) (fuel + 1) (R.setIfInBounds q true) (a.put oq.dst _) (W.alloc ob)
    rw [hd]
    refine alloc_there hq hs hd hsel hall fuel _ L a _ W.heap.size (by rw [getD_set_ne true hqs]; exact hRs) (getD_set_same hRq) hn (fun p hp => .inr (hL p hp)) (heap_alloc_new W ob) ?_
    exact H.mono ((Below.refl _ _).alloc (Nat.le_refl _) _)
  intro fuel
  induction fuel with
  | zero =>
    intro R L a W hRs hRq hn hL H
    refine ⟨fun h => (by have := hqR R hRq; rw [h] at this; cases this), fun i hi => ?_⟩
    by_cases hiq : i = q
    · subst hiq; exact hput 0 R L a W hRs hRq hn hL H
    · have := ready_mono (ready_mono hi hiq) (hnots R hRq i hi)
      rw [H.1] at this; cases this
  | succ fuel ih =>
    intro R L a W hRs hRq hn hL H
    refine ⟨fun h => (by have := hqR R hRq; rw [h] at this; cases this), fun i hi => ?_⟩
    by_cases hiq : i = q
    · subst hiq; exact hput (fuel + 1) R L a W hRs hRq hn hL H
    · have his := hnots R hRq i hi
      have h2 := (H W (Below.refl _ _)).2 i (ready_mono (ready_mono hi hiq) his)
      refine wpOp_mono (fun a' w' h4 => ?_) h2
      obtain ⟨hb, hk⟩ := h4
      refine ih (R.setIfInBounds i true) _ a' w' (by rw [getD_set_ne true his]; exact hRs) (by rw [getD_set_ne true hiq]; exact hRq) (Nat.le_trans hn hb.size) (fun p hp => ?_) (by
        rw [Array.setIfInBounds_comm (i := i) (j := q) _ _ hiq, Array.setIfInBounds_comm (i := i) (j := s) _ _ his]; exact hk)
      rcases mem_pushI hp with rfl | hp
      · exact Nat.le_refl _
      · exact Nat.le_trans (hL p hp) hb.size

/-- A region in which one new variable may come up whenever; it does not panic. -/
theorem region_alloc {Q : Exit → Act → World → Prop} {id : Nat} {l : List Oper} {a : Act} {w : World} {oq : Oper} (n q s d : Nat) (ob : Obj)
    (hm : P.follows .mixedOrders = true ∧ l.length = n + 2 ∧ allocOk .any l.toArray q s d = true) (hq : l.toArray[q]? = some oq)
    (hrun : ∀ ρ w, (execOp ρ oq).run P w = .ok (.value (.pointer (some ⟨w.heap.size, 0, none⟩))) (w.alloc ob))
    (h : ∀ w1, Below w.heap.size w w1 → wpAnyL P .any l.toArray Q (AllocEnd P .any l.toArray Q s d w.heap.size ob) n (((Array.replicate (n + 2) false).setIfInBounds q true).setIfInBounds s true) [] a w1) : (Code.region id l.toArray true).wp P Q a w := by
  obtain ⟨hm, hl, hok⟩ := hm
  refine wp_region_noPanic (wp_region_any hm ?_)
  have hsz : l.toArray.size = n + 2 := by simpa using hl
  rw [hsz]
  simp only [allocOk, hq, Bool.and_eq_true, bne_iff_ne, decide_eq_true_eq] at hok
  obtain ⟨⟨⟨hqs, hss⟩, hns⟩, hrest⟩ := hok
  have hsk : l.toArray[s]? = some (l.toArray[s]'hss) := Array.getElem?_eq_getElem hss
  rw [hsk] at hrest
  simp only [Bool.and_eq_true, beq_iff_eq, Option.isNone_iff_eq_none] at hrest
  obtain ⟨⟨⟨hd, hgd⟩, haf⟩, hall⟩ := hrest
  have hql : q < l.toArray.size := (Array.getElem?_eq_some_iff.1 hq).1
  refine alloc_whenever hq hsk hqs hd hgd (fun e he => ?_) (Region.noSelect_spec hns) (fun j oj hj => ?_) hrun n _ [] a w.drew ?_ ?_ (n0 := w.heap.size) (Nat.le_refl _) (fun p hp => by cases hp) (h w.drew (Below.refl w.heap.size w).drew)
  · have := Array.all_eq_true_iff_forall_mem.1 haf e he
    simpa using this
  · have hjl : j < l.toArray.size := (Array.getElem?_eq_some_iff.1 hj).1
    have h1 := List.all_eq_true.1 hall j (List.mem_range.2 hjl)
    rw [hj] at h1
    simp only [Bool.and_eq_true, Bool.or_eq_true, beq_iff_eq] at h1
    obtain ⟨⟨h1, h2⟩, h3⟩ := h1
    refine ⟨fun hne => ?_, fun e he hb => ?_, fun hjq hjs => ?_⟩
    · rcases h1 with h1 | h1
      · exact (hne h1).elim
      · obtain ⟨e, he, hb⟩ := Array.any_eq_true'.1 h1
        simp only [Bool.and_eq_true, beq_iff_eq] at hb
        exact ⟨e, he, hb.1, hb.2⟩
    · have := Array.all_eq_true_iff_forall_mem.1 h2 e he
      simpa [hb] using this
    · rcases h3 with (h3 | h3) | h3
      · exact (hjq h3).elim
      · exact (hjs h3).elim
      · exact h3
  · have : s < n + 2 := by omega
    simp [this]
  · have : q < n + 2 := by omega
    simp [this]
/-- The last one: it stores into the new variable. -/
theorem alloc_end {l : List Oper} {Q : Exit → Act → World → Prop} {a : Act} {w : World} {listed : Array Bool} {f : Nat} (m : List Bool) {os : Oper} {L : List (Nat × Nat)}
    (hr : Region.ready md l.toArray listed = [] ∧ Region.ready md l.toArray (listed.setIfInBounds s false) = [s] ∧ Region.ready md l.toArray ((listed.setIfInBounds s false).setIfInBounds s true) = [])
    (ho : pickL m l = [os]) (hs : l.toArray[s]? = some os)
    (H : ∀ w1, Below w.heap.size w w1 → ∀ g, n0 ≤ g → outL L g → w1.heap[g]? = some ob → wpList P l.toArray (fun e a' w' => e = .normal ∧ Q .normal a' w') (pickL m l) (a.put (some d) (.pointer (some ⟨g, 0, none⟩))) w1) :
    wpAnyL P md l.toArray Q (AllocEnd P md l.toArray Q s d n0 ob) f listed L a w := by
  obtain ⟨h0, h1, h2⟩ := hr
  refine wpAnyL_done h0 (fun w1 hw1 g hg hL hz => ?_) f
  refine ⟨fun h => (by rw [h1] at h; cases h), fun i hi => ?_⟩
  rw [h1] at hi
  obtain rfl : i = s := by simpa using hi
  have h := H w1 hw1 g hg hL hz
  rw [ho] at h
  exact wpOp_mono (fun a' w' h' => ⟨h2, h'⟩) (one_op hs h)
/-- append in a plain region, whatever its guard, if it is wanted. -/
theorem list_append_rdW {rest : List Oper} {o : Oper} {a : Act} {w : World} {Q : Exit → Act → World → Prop} {base : Nat} {t e : TypeId} {z : Value} {size bytes : Nat} (hw : Region.wanted o (yielded ops a.tmps) = true) (s x : Operand)
    (ho : o.op = .call { callee := .builtin .append, args := #[s, x], argTypes := #[t, t] }) (E : Elem P t e z size bytes)
    {v : Value} {n : Nat} {xs : List Value} (hs : a.eval s = v) (hown : w.ownsRow base e size v n xs)
    {A : Option Addr} {m c : Nat} {news : List Value} (hx : a.eval x = .slice A m c) (hlen : news.length = m * size) (hr : Rd w A news) (h1 : ∀ u ∈ news, u.oneCell' = true)
    (h63 : n + m ≤ maxLen) (hbytes : (n + m) * bytes ≤ 140737488355328) (hbase : base ≤ w.heap.size)
    (h : ∀ v' w', w'.ownsRow base e size v' (n + m) (xs ++ news) → w.grownBy w' v.ownBlock → (v'.ownBlock = v.ownBlock ∨ v'.ownBlock = some w.heap.size) → wpList P ops Q rest (a.put o.dst v') w') : wpList P ops Q (o :: rest) a w :=
  wpList_step fun _ hK => by rw [if_pos hw]; exact wp_append_rd s x ho E hs hown hx hlen hr h1 h63 hbytes hbase fun v' w' h2 h3 h4 => hK _ _ (h v' w' h2 h3 h4)
end
end Go.Proofs.Ytefpagijgiggmab
