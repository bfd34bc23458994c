/- Texts of one claim put together: what its walks share. -/
import Derived.Test.YtamjlcaoieliaaaMj5
/- Layers 22, 23 and 25: what is met, what fits, in plain terms. -/
namespace Go.Proofs.Ytamjlcaoieliaaa
open Go Go.RowKit
set_option maxRecDepth 100000
theorem q_Hard (x : Tu) (t v : Int) (h : x.log.length ≤ 1000000) : m_tuple_Hard x t v = some (chgS x (hardR x t v), chgE x (hardR x t v)) := by unfold m_tuple_Hard; rw [decide_eq_true h]; rfl
theorem p_fits (x : Co) (m : Ms) (hx : BdC x) (hm : BdM m) : m_elect_fits x m = some (cdec (ToC x m)) := by
  simp only [m_elect_fits, p_mRight x hx, p_mFine m x.n hm, Option.bind_some, Bool.cond_decide]
  by_cases c1 : m.dst = x.id
  case neg => rw [if_neg c1, cdec_f fun h => c1 h.1]
  rw [if_pos c1]
  unfold rightC fineM
  by_cases c2 : FineM m x.n
  case neg => rw [cdec_f c2, cdec_f (p := ToC x m) fun h => c2 h.2.2]; rfl
  rw [cdec_t c2]
  show some _ = some _
  congr 1
  exact cdec_congr ⟨fun h => ⟨c1, h, c2⟩, fun h => h.2.1⟩
/-- Another term, another vote. -/
theorem hard_yes (x : Tu) (t v : Int) (hx : tupB x = true) (h : x.term < t ∨ t = x.term ∧ (x.vote = 0 ∨ x.vote = v)) (ht : t ≤ 1073741824) (hv : 0 ≤ v ∧ v ≤ 5) : tupB { x with term := t, vote := v } = true ∧ m_tuple_Hard x t v = some ({ x with term := t, vote := v }, 0) := by
  obtain ⟨g1, g2, g3, g4⟩ := (tupB_iff x).1 hx
  have hT : tupB { x with term := t, vote := v } = true := (tupB_iff _).2 ⟨g1, ⟨g2.1, g2.2.1, hv.1, hv.2, ht⟩, g3, by dsimp only; omega⟩
  refine ⟨hT, ?_⟩
  rw [q_Hard x t v (by omega)]
  have hr : hardR x t v = some { x with term := t, vote := v } := by unfold hardR; rw [if_pos h]
  have := chg_yes x _ _ hx hr hT
  rw [this.1, this.2]
theorem hear_no (x : Co) (m : Ms) (h : ¬ ToC x m) : hearC x m = x := by unfold hearC; rw [if_neg h]
theorem hear_eq (x : Co) (m : Ms) (h : ToC x m) : hearC x m = { x with caps := x.caps.set (m.frm - 1).toNat m.cap } := by unfold hearC; rw [if_pos h]
open Classical in
/-- A core that met a message. -/
noncomputable def meetC (x : Co) (m : Ms) : Co := if ToC x m ∧ x.tuple.term < m.term then { x with caps := x.caps.set (m.frm - 1).toNat m.cap, tuple := { x.tuple with term := m.term, vote := 0 }, role := 0, votes := List.replicate x.n.toNat false } else hearC x m
theorem p_Meet (x : Co) (m : Ms) (hx : BdC x) (hm : BdM m) : m_elect_Meet x m = some (meetC x m) := by
  simp only [m_elect_Meet, p_mOwn x hx, p_fits x m hx hm, p_Hear x m hx hm, Option.bind_some, Bool.cond_decide]
  unfold meetC
  by_cases c1 : ToC x m
  case neg => rw [cdec_f c1, if_neg (show ¬ (ToC x m ∧ x.tuple.term < m.term) from fun h => c1 h.1), hear_no x m c1]; rfl
  rw [cdec_t c1]
  simp only [Bool.not_true, cond_false]
  rw [hear_eq x m c1]
  by_cases c2 : x.tuple.term < m.term
  · rw [if_pos (show ToC x m ∧ x.tuple.term < m.term from ⟨c1, c2⟩), if_pos (show x.tuple.term < m.term from c2)]
    have hH := (hard_yes x.tuple m.term 0 c1.2.1.tup (.inl c2) c1.2.2.term.2 (by omega)).2
    have hn := c1.2.1.n
    obtain ⟨N, hN⟩ : ∃ N : Nat, x.n = (N : Int) := ⟨x.n.toNat, by omega⟩
    have hk : makeI false x.n = some (List.replicate x.n.toNat false) := by rw [hN, makeI_nat _ N (by omega), Int.toNat_natCast]
    simp only [hH, hk, Option.bind_some]
  · rw [if_neg (show ¬ (ToC x m ∧ x.tuple.term < m.term) from fun h => c2 h.2), if_neg (show ¬ x.tuple.term < m.term from c2)]
theorem meet_right (x : Co) (m : Ms) (h : RightC x) : RightC (meetC x m) := by
  unfold meetC
  split
  · rename_i c
    have hh := hear_right x m h
    rw [hear_eq x m c.1] at hh
    have hn := h.n
    refine ⟨h.n, h.id, by show (0 : Int) ≤ 2; decide, h.bin, (hard_yes x.tuple m.term 0 h.tup (.inl c.2) c.1.2.2.term.2 (by omega)).1, h.st, ?_, h.ln, h.lm, hh.lc, h.next, h.mtch, hh.caps, hh.own, .inl rfl⟩
    dsimp only; rw [List.length_replicate]; omega
  · exact hear_right x m h
/-- What a meeting leaves. -/
structure MeetF (x y : Co) : Prop where
  id : y.id = x.id
  n : y.n = x.n
  binary : y.binary = x.binary
  commit : y.commit = x.commit
  applied : y.applied = x.applied
  next : y.next = x.next
  mtch : y.mtch = x.mtch
  snap : y.tuple.snap = x.tuple.snap
  log : y.tuple.log = x.tuple.log
  term : x.tuple.term ≤ y.tuple.term
theorem meet_f (x : Co) (m : Ms) : MeetF x (meetC x m) := by
  unfold meetC
  split
  · rename_i c
    exact ⟨rfl, rfl, rfl, rfl, rfl, rfl, rfl, rfl, rfl, by dsimp only; omega⟩
  · by_cases c : ToC x m
    · rw [hear_eq x m c]; exact ⟨rfl, rfl, rfl, rfl, rfl, rfl, rfl, rfl, rfl, Int.le_refl _⟩
    · rw [hear_no x m c]; exact ⟨rfl, rfl, rfl, rfl, rfl, rfl, rfl, rfl, rfl, Int.le_refl _⟩
theorem MeetF.last {x y : Co} (h : MeetF x y) : y.tuple.last = x.tuple.last := by unfold Tu.last; rw [h.snap, h.log]
/-- The term behind a meeting. -/
theorem meet_term (x : Co) (m : Ms) (h : ToC x m) : (x.tuple.term < m.term ∧ (meetC x m).tuple.term = m.term ∧ (meetC x m).tuple.vote = 0 ∧ (meetC x m).role = 0) ∨ (m.term ≤ x.tuple.term ∧ meetC x m = { x with caps := x.caps.set (m.frm - 1).toNat m.cap }) := by
  by_cases c : x.tuple.term < m.term
  · left
    unfold meetC
    rw [if_pos ⟨h, c⟩]
    exact ⟨c, rfl, rfl, rfl⟩
  · right
    unfold meetC
    rw [if_neg (fun h => c h.2), hear_eq x m h]
    exact ⟨by omega, rfl⟩
theorem meet_ge (x : Co) (m : Ms) (h : ToC x m) : m.term ≤ (meetC x m).tuple.term := by
  rcases meet_term x m h with ⟨_, h2, _⟩ | ⟨h1, h2⟩
  · rw [h2]; exact Int.le_refl _
  · rw [h2]; exact h1
theorem meet_caps (x : Co) (m : Ms) (h : ToC x m) : (meetC x m).caps = x.caps.set (m.frm - 1).toNat m.cap := by
  unfold meetC
  split
  · rfl
  · rw [hear_eq x m h]
/-- Met again, nothing more comes. -/
theorem meet_again (d : Co) (m : Ms) (h : m.term ≤ d.tuple.term) (hc : ToC d m → d.caps[(m.frm - 1).toNat]? = some m.cap) : meetC d m = d := by
  unfold meetC
  rw [if_neg (fun h2 => by have := h2.2; omega)]
  by_cases c : ToC d m
  · rw [hear_eq d m c]
    have h2 := hc c
    obtain ⟨h3, h4⟩ := List.getElem?_eq_some_iff.1 h2
    have : d.caps.set (m.frm - 1).toNat m.cap = d.caps := by rw [← h4]; exact List.set_getElem_self h3
    rw [this]
  · exact hear_no d m c
theorem to_again (x d : Co) (m : Ms) (h : ToC x m) (hR : RightC d) (h1 : d.id = x.id) (h2 : d.n = x.n) : ToC d m := ⟨by rw [h1]; exact h.1, hR, by rw [h2]; exact h.2.2⟩
theorem caps_met (x : Co) (m : Ms) (h : ToC x m) : (x.caps.set (m.frm - 1).toNat m.cap)[(m.frm - 1).toNat]? = some m.cap := by
  have h1 := h.2.1.lc
  have h2 := h.2.2.frm
  exact List.getElem?_set_self (by omega)
/-! ### What fits -/
def mapTo (f : Int → Int) (k : Nat) (l : List Int) : List Int := (l.take k).map f ++ l.drop k
theorem mapTo_get (f : Int → Int) (l : List Int) (k : Nat) (e : Int) (h : l[k]? = some e) : (mapTo f k l)[k]? = some e := by
  have hk := (List.getElem?_eq_some_iff.1 h).1
  unfold mapTo
  rw [List.getElem?_append_right (by rw [List.length_map, List.length_take]; omega), List.length_map, List.length_take, List.getElem?_drop, ← h]
  congr 1; omega
theorem mapTo_set (f : Int → Int) (l : List Int) (k : Nat) (e : Int) (h : l[k]? = some e) : (mapTo f k l).set k (f e) = mapTo f (k + 1) l := by
  have hk := (List.getElem?_eq_some_iff.1 h).1
  obtain ⟨e', he', hd⟩ := drop_step hk
  rw [h] at he'
  obtain rfl := Option.some.inj he'
  unfold mapTo
  rw [List.set_append, if_neg (by rw [List.length_map, List.length_take]; omega), hd, List.take_add_one, h]
  have : k - ((l.take k).map f).length = 0 := by rw [List.length_map, List.length_take]; omega
  rw [this]
  simp
theorem mapTo_all (f : Int → Int) (l : List Int) (k : Nat) (h : l.length ≤ k) : mapTo f k l = l.map f := by
  unfold mapTo
  rw [List.take_of_length_le h, List.drop_eq_nil_of_le h, List.append_nil]
theorem mapTo_zero (f : Int → Int) (l : List Int) : mapTo f 0 l = l := by simp [mapTo]
theorem setI_nat {α : Type} (l : List α) (k : Nat) (v : α) : setI l (k : Int) v = l.set k v := by unfold setI; simp
/-- What is told back. -/
def backM (y : Co) (m : Ms) (k : Int) (ok : Bool) (last : Int) : Ms := ⟨k, y.id, m.frm, y.tuple.term, y.binary, last, 0, 0, ok, [], ⟨0, 0, 0, 0, false⟩⟩
end Go.Proofs.Ytamjlcaoieliaaa
/- The references of messages, in plain terms. -/
namespace Go.Proofs.Ytamjlcaoieliaaa
open Go Go.RowKit
set_option maxRecDepth 100000
theorem p_number20 (x : Int) : m_ref20_number x = some (numB x) := by
  unfold m_ref20_number numB
  by_cases h : 0 ≤ x <;> simp [h]
theorem p_entries20_l1 (x : Ms) (h : x.entries.length ≤ 1000000) : ∀ (m k n : Nat) (v : Bool) (last : Int), m = x.entries.length - k → k ≤ x.entries.length → m < n → m_ref20_entries_l1 x n v last k = some (cdec (entB last x.term (x.entries.drop k) ∧ x.entries.length ≤ 4)) := by
  intro m
  induction m with
  | zero =>
    intro k n v last hm hk hn
    obtain ⟨n, rfl⟩ : ∃ n', n = n' + 1 := ⟨n - 1, by omega⟩
    rw [m_ref20_entries_l1, List.drop_eq_nil_of_le (by omega)]
    simp only [Bool.cond_decide, if_neg (show ¬ ((k : Int) < (x.entries.length : Int)) by omega)]
    rw [dec_cdec]; congr 1
    exact cdec_congr ⟨fun h => ⟨trivial, by omega⟩, fun h => by have := h.2; omega⟩
  | succ m ih =>
    intro k n v last hm hk hn
    obtain ⟨n, rfl⟩ : ∃ n', n = n' + 1 := ⟨n - 1, by omega⟩
    obtain ⟨e, he, hd⟩ := drop_step (show k < x.entries.length by omega)
    rw [m_ref20_entries_l1, hd]
    simp only [Bool.cond_decide, if_pos (show ((k : Int) < (x.entries.length : Int)) by omega), idx_nat, he, Option.bind_some, p_Right]
    rw [w64i (by omega), show ((k : Int) + 1) = ((k + 1 : Nat) : Int) by omega, ih (k + 1) n v e.term (by omega) (by omega) (by omega)]
    cases c1 : rightB e with
    | false => rw [cdec_f (p := entB last x.term (e :: x.entries.drop (k + 1)) ∧ x.entries.length ≤ 4) fun h => by have h2 := h.1.1; rw [c1] at h2; cases h2]; rfl
    | true =>
      simp only [Bool.not_true, cond_false]
      by_cases c2 : e.term < last
      · rw [if_pos c2, cdec_f (p := entB last x.term (e :: x.entries.drop (k + 1)) ∧ x.entries.length ≤ 4) fun h => by have h2 := h.1.2.1; omega]
      rw [if_neg c2]
      by_cases c3 : x.term < e.term
      · rw [if_pos c3, cdec_f (p := entB last x.term (e :: x.entries.drop (k + 1)) ∧ x.entries.length ≤ 4) fun h => by have h2 := h.1.2.1; omega]
      rw [if_neg c3]
      congr 1
      exact cdec_congr ⟨fun h => ⟨⟨c1, ⟨by omega, by omega⟩, h.1⟩, h.2⟩, fun h => ⟨h.1.2.2, h.2⟩⟩
theorem p_entries20 (x : Ms) (h : x.entries.length ≤ 1000000) : m_ref20_entries x = some (cdec (entB x.lastTerm x.term x.entries ∧ x.entries.length ≤ 4)) := by
  have := p_entries20_l1 x h x.entries.length 0 fuelN false x.lastTerm (by omega) (by omega) (by unfold fuelN; omega)
  unfold m_ref20_entries
  simpa using this
theorem numB_no {x : Int} (h : numB x = false) : ¬ (0 ≤ x ∧ x ≤ 1073741824) := fun h2 => by rw [numB, decide_eq_true h2] at h; cases h
theorem numB_yes {x : Int} (h : numB x = true) : 0 ≤ x ∧ x ≤ 1073741824 := of_decide_eq_true h
theorem p_Fine20 (m : Ms) (n : Int) (h : BdM m) : m_ref20_Fine m n = some (fineM m n) := by
  simp only [m_ref20_Fine, p_number20, p_entries20 m h.ents, p_Fine, Option.bind_some, st_zero, Bool.cond_decide]
  unfold fineM
  by_cases c0 : n < 1
  · rw [if_pos c0, cdec_f (p := FineM m n) fun h => by have := h.many; omega]
  rw [if_neg c0]
  by_cases c1 : 5 < n
  · rw [if_pos c1, cdec_f (p := FineM m n) fun h => by have := h.many; omega]
  rw [if_neg c1]
  by_cases c2 : m.frm < 1
  · rw [if_pos c2, cdec_f (p := FineM m n) fun h => by have := h.frm; omega]
  rw [if_neg c2]
  by_cases c3 : n < m.frm
  · rw [if_pos c3, cdec_f (p := FineM m n) fun h => by have := h.frm; omega]
  rw [if_neg c3]
  by_cases c4 : m.dst < 1
  · rw [if_pos c4, cdec_f (p := FineM m n) fun h => by have := h.dst; omega]
  rw [if_neg c4]
  by_cases c5 : n < m.dst
  · rw [if_pos c5, cdec_f (p := FineM m n) fun h => by have := h.dst; omega]
  rw [if_neg c5]
  by_cases c6 : m.frm = m.dst
  · rw [if_pos c6, cdec_f (p := FineM m n) fun h => h.ne c6]
  rw [if_neg c6]
  by_cases c7 : m.kind < 1
  · rw [if_pos c7, cdec_f (p := FineM m n) fun h => by have := h.kind; omega]
  rw [if_neg c7]
  by_cases c8 : 6 ≤ m.kind
  · rw [if_pos c8, cdec_f (p := FineM m n) fun h => by have := h.kind; omega]
  rw [if_neg c8]
  by_cases c9 : m.term < 1
  · rw [if_pos c9, cdec_f (p := FineM m n) fun h => by have := h.term; omega]
  rw [if_neg c9]
  by_cases c10 : 1073741824 < m.term
  · rw [if_pos c10, cdec_f (p := FineM m n) fun h => by have := h.term; omega]
  rw [if_neg c10]
  by_cases c11 : m.cap < 1
  · rw [if_pos c11, cdec_f (p := FineM m n) fun h => by have := h.cap; omega]
  rw [if_neg c11]
  by_cases c12 : 2 < m.cap
  · rw [if_pos c12, cdec_f (p := FineM m n) fun h => by have := h.cap; omega]
  rw [if_neg c12]
  cases d0 : numB m.last with
  | false => rw [cdec_f (p := FineM m n) fun h => numB_no d0 h.last]; rfl
  | true =>
  have d0' := numB_yes d0
  cases d1 : numB m.lastTerm with
  | false => rw [cdec_f (p := FineM m n) fun h => numB_no d1 h.lastTerm]; rfl
  | true =>
  have d1' := numB_yes d1
  cases d2 : numB m.commit with
  | false => rw [cdec_f (p := FineM m n) fun h => numB_no d2 h.commit]; rfl
  | true =>
  have d2' := numB_yes d2
  by_cases c20 : entB m.lastTerm m.term m.entries ∧ m.entries.length ≤ 4
  case neg => rw [cdec_f c20, cdec_f (p := FineM m n) fun h => c20 ⟨h.ents, h.few⟩]; rfl
  rw [cdec_t c20]
  simp only [Bool.not_true, cond_false]
  have yes : ∀ (d1 : m.kind ≠ 3 → m.entries.length = 0 ∧ m.commit = 0) (d2 : m.okk = true → m.kind = 2 ∨ m.kind = 4), (if m.kind = 5 then (cond (fineB m.snap) (some (decide (0 < m.snap.index))) (some false)) else some (decide (m.snap = ⟨0, 0, 0, 0, false⟩))) = some (cdec (FineM m n)) := by
    intro d1 d2
    have mk : (m.kind = 5 → 0 < m.snap.index ∧ fineB m.snap = true) → (m.kind ≠ 5 → m.snap = ⟨0, 0, 0, 0, false⟩) → FineM m n := fun s1 s2 =>
      ⟨⟨by omega, by omega⟩, ⟨by omega, by omega⟩, ⟨by omega, by omega⟩, c6, ⟨by omega, by omega⟩, ⟨by omega, by omega⟩, ⟨by omega, by omega⟩, d0', d1', d2', c20.1, c20.2, d1, d2, s1, s2⟩
    by_cases e1 : m.kind = 5
    · rw [if_pos e1]
      cases e3 : fineB m.snap with
      | true =>
        simp only [cond_true]
        rw [dec_cdec]
        congr 1
        exact cdec_congr ⟨fun e2 => mk (fun _ => ⟨e2, e3⟩) (fun h => (h e1).elim), fun h => (h.snap e1).1⟩
      | false => rw [cdec_f (p := FineM m n) fun h => by have h2 := (h.snap e1).2; rw [e3] at h2; cases h2]; rfl
    · rw [if_neg e1, dec_cdec]
      congr 1
      exact cdec_congr ⟨fun e2 => mk (fun h => (e1 h).elim) (fun _ => e2), fun h => h.nosnap e1⟩
  by_cases e1 : m.kind = 3
  · rw [if_neg (fun h => h e1)]
    cases e2 : m.okk with
    | false => exact yes (fun h => (h e1).elim) (fun h => by rw [e2] at h; cases h)
    | true =>
      simp only [cond_true]
      rw [if_pos (by omega), if_pos (by omega), cdec_f (p := FineM m n) fun h => by have := h.okk e2; omega]
  · rw [if_pos e1]
    by_cases e3 : (0 : Int) < (m.entries.length : Int)
    · rw [if_pos e3, cdec_f (p := FineM m n) fun h => by have := (h.app e1).1; omega]
    rw [if_neg e3]
    by_cases e4 : 0 < m.commit
    · rw [if_pos e4, cdec_f (p := FineM m n) fun h => by have := (h.app e1).2; omega]
    rw [if_neg e4]
    have e5 : m.kind ≠ 3 → m.entries.length = 0 ∧ m.commit = 0 := fun _ => ⟨by omega, by omega⟩
    cases e2 : m.okk with
    | false => exact yes e5 (fun h => by rw [e2] at h; cases h)
    | true =>
      simp only [cond_true]
      by_cases e6 : m.kind = 2
      · rw [if_neg (fun h => h e6)]; exact yes e5 (fun _ => .inl e6)
      · rw [if_pos e6]
        by_cases e7 : m.kind = 4
        · rw [if_neg (fun h => h e7)]; exact yes e5 (fun _ => .inr e7)
        · rw [if_pos e7, cdec_f (p := FineM m n) fun h => by have := h.okk e2; omega]
theorem p_At12x (t : Tu) (h : bdT t) (k : Nat) (e : En) (he : t.log[k]? = some e) : m_ref12_At t (t.snap.index + 1 + k) = some (e, true) := by
  obtain ⟨h1, h2, h3⟩ := h
  have hk := (List.getElem?_eq_some_iff.1 he).1
  simp only [m_ref12_At, p_Last12 t ⟨h1, h2, h3⟩, Option.bind_some, Bool.cond_decide, if_neg (show ¬ t.snap.index + 1 + (k : Int) ≤ t.snap.index by omega), Tu.last, if_neg (show ¬ t.snap.index + (t.log.length : Int) < t.snap.index + 1 + (k : Int) by omega), w64i (n := t.snap.index + 1 + (k : Int) - t.snap.index) (by omega), w64i (n := t.snap.index + 1 + (k : Int) - t.snap.index - 1) (by omega), show t.snap.index + 1 + (k : Int) - t.snap.index - 1 = (k : Int) by omega, w64i (n := (k : Int)) (by omega), idx_nat, he]
end Go.Proofs.Ytamjlcaoieliaaa
/- Layer 22's functions, in plain terms. -/
namespace Go.Proofs.Ytamjlcaoieliaaa
open Go Go.RowKit
set_option maxRecDepth 100000
/-- The term at the end. -/
def endT (t : Tu) : Int := lastT t.snap.term t.log
theorem termAt_last (t : Tu) : termAt t t.last = some (endT t) := by
  have := termAt_log t t.log.length (Nat.le_refl _)
  rw [List.take_length] at this
  exact this
theorem p_end (x : Co) (h : BdC x) : m_elect_end x = some (x.tuple.last, endT x.tuple) := by
  simp only [m_elect_end, p_tLast x.tuple h.tup, p_tTermAt x.tuple _ h.tup, termAt_last, Option.bind_some, Option.getD_some]
/-- A log is no older. -/
def NewP (x : Co) (lt la : Int) : Prop := endT x.tuple < lt ∨ (lt = endT x.tuple ∧ x.tuple.last ≤ la)
theorem p_Newer (x : Co) (lt la : Int) (h : RightC x) : m_elect_Newer x lt la = some (cdec (NewP x lt la)) := by
  simp only [m_elect_Newer, p_mRight x h.bd, rightC, cdec_t h, p_end x h.bd, Option.bind_some, Bool.not_true, cond_false, Bool.cond_decide]
  by_cases c : endT x.tuple = lt
  · rw [if_neg (fun h => h c), dec_cdec]
    congr 1
    exact cdec_congr ⟨fun h => .inr ⟨c.symm, h⟩, fun h => by rcases h with h | h; omega; exact h.2⟩
  · rw [if_pos c, dec_cdec]
    congr 1
    exact cdec_congr ⟨fun h => .inl h, fun h => by rcases h with h | h; exact h; omega⟩
theorem p_Newer22 (x : Co) (lt la : Int) (h : RightC x) : m_ref22_Newer x lt la = some (cdec (NewP x lt la)) := by
  have hb := h.bd
  simp only [m_ref22_Newer, m_ref22_lastTerm, p_Right20 x hb, rightC, cdec_t h, p_Last12 x.tuple hb.tup, p_TermAt12 x.tuple _ hb.tup, termAt_last, Option.bind_some, Option.getD_some, Bool.not_true, cond_false, Bool.cond_decide]
  by_cases c : endT x.tuple < lt
  · rw [if_pos c, cdec_t (.inl c)]
  · rw [if_neg c]
    by_cases c2 : lt = endT x.tuple
    · rw [if_pos c2, dec_cdec]
      congr 1
      exact cdec_congr ⟨fun h => .inr ⟨c2, h⟩, fun h => by rcases h with h | h; omega; exact h.2⟩
    · rw [if_neg c2, cdec_f]
      rintro (h | h)
      · omega
      · omega
theorem new_same (x y : Co) (lt la : Int) (h1 : y.tuple.snap = x.tuple.snap) (h2 : y.tuple.log = x.tuple.log) : NewP y lt la ↔ NewP x lt la := by
  unfold NewP endT Tu.last
  rw [h1, h2]
/-! ### Leading -/
def leadC (x : Co) : Co := { x with role := 2, tuple := { x.tuple with log := x.tuple.log ++ [⟨x.tuple.term, 0, 0⟩] }, next := x.next.map (fun _ => x.tuple.last + 1 + 1), mtch := (x.mtch.map fun _ => 0).set (x.id - 1).toNat (x.tuple.last + 1) }
theorem p_Lead_l1 (x : Co) (t : Tu × Int) (r : Int) (h : RightC x) (hr : -3000000000000 ≤ r ∧ r ≤ 3000000000000) : ∀ (q k n : Nat), q = x.next.length - k → k ≤ x.next.length → q < n →
    m_elect_Lead_l1 x t r n k (mapTo (fun _ => r + 1) k x.next) (mapTo (fun _ => 0) k x.mtch) = some { x with role := 2, tuple := t.1, next := x.next.map (fun _ => r + 1), mtch := (x.mtch.map fun _ => 0).set (x.id - 1).toNat r } := by
  have hn := h.n
  have hl := h.ln
  have hm := h.lm
  have hid := h.id
  have hw : IntKind.wrap .i64 (x.id - 1) = (((x.id - 1).toNat : Nat) : Int) := by rw [w64i (by omega)]; omega
  intro q
  induction q with
  | zero =>
    intro k n hq hk hn'
    obtain ⟨n, rfl⟩ : ∃ n', n = n' + 1 := ⟨n - 1, by omega⟩
    obtain ⟨e, he, _⟩ := drop_step (show (x.id - 1).toNat < (x.mtch.map fun _ => (0 : Int)).length by rw [List.length_map]; omega)
    rw [m_elect_Lead_l1, mapTo_all _ _ _ (by omega), mapTo_all _ _ _ (by omega)]
    simp only [Bool.cond_decide, if_neg (show ¬ (k : Int) < x.n by omega), hw, idx_nat, he, Option.bind_some, setI_nat]
  | succ q ih =>
    intro k n hq hk hn'
    obtain ⟨n, rfl⟩ : ∃ n', n = n' + 1 := ⟨n - 1, by omega⟩
    obtain ⟨e, he, _⟩ := drop_step (show k < x.next.length by omega)
    obtain ⟨f, hf, _⟩ := drop_step (show k < x.mtch.length by omega)
    have s1 := mapTo_set (fun _ => r + 1) x.next k e he
    have s2 := mapTo_set (fun _ => 0) x.mtch k f hf
    rw [m_elect_Lead_l1]
    simp only [Bool.cond_decide, if_pos (show (k : Int) < x.n by omega), idx_nat, mapTo_get _ _ _ _ he, mapTo_get _ _ _ _ hf, Option.bind_some, setI_nat, w64i (n := r + 1) (by omega), s1, s2, w64i (n := (k : Int) + 1) (by omega)]
    rw [show ((k : Int) + 1) = ((k + 1 : Nat) : Int) by omega, ih (k + 1) n (by omega) (by omega) (by omega)]
theorem noop_right (x : Co) (h : RightC x) (hr : x.role ≠ 0) : rightB ⟨x.tuple.term, 0, 0⟩ = true ∧ 0 < x.tuple.term ∧ x.tuple.vote = x.id := by
  have h1 := h.lead
  have h2 := ((tupB_iff _).1 h.tup).2.1.2.2.2.2
  rcases h1 with h1 | h1
  · exact (hr h1).elim
  · refine ⟨?_, h1⟩
    unfold rightB
    exact decide_eq_true ⟨Int.le_refl 0, (by decide : (0 : Int) ≤ 4), h1.1, h2, Int.le_refl 0, (by decide : (0 : Int) ≤ 1073741824), .inl rfl⟩
theorem p_Lead_no (x : Co) (h : RightC x) (hr : x.role ≠ 1) : m_elect_Lead x = some x := by
  simp only [m_elect_Lead, p_mOwn x h.bd, Option.bind_some, Bool.cond_decide, if_pos hr]
theorem p_Lead_full (x : Co) (h : RightC x) (hr : x.role = 1) (hl : 200 ≤ x.tuple.log.length) : m_elect_Lead x = some { x with role := 0 } := by
  have hbd := h.bd
  have happ := q_Append x.tuple [⟨x.tuple.term, 0, 0⟩] ⟨hbd.tup.1, by simp⟩
  rw [chg_some, if_pos h.tup, if_neg (fun h2 => by have := ((tupB_iff _).1 h2).2.1.2.1; dsimp only at this; rw [List.length_append] at this; simp only [List.length_cons, List.length_nil] at this; omega)] at happ
  simp only [m_elect_Lead, p_mOwn x hbd, p_mRight x hbd, rightC, cdec_t h, happ, Option.bind_some, Bool.cond_decide, if_neg (show ¬ x.role ≠ 1 from fun h => h hr), Bool.not_true, cond_false, if_pos (show (2 : Int) ≠ 0 by decide)]
theorem lead_tup (x : Co) (h : RightC x) (hr : x.role = 1) (hl : x.tuple.log.length < 200) : tupB { x.tuple with log := x.tuple.log ++ [⟨x.tuple.term, 0, 0⟩] } = true :=
  add_tup x _ h (noop_right x h (by omega)).1 rfl hl
theorem lead_last (x : Co) : ({ x.tuple with log := x.tuple.log ++ [⟨x.tuple.term, 0, 0⟩] } : Tu).last = x.tuple.last + 1 := by unfold Tu.last; dsimp only; rw [List.length_append]; simp only [List.length_cons, List.length_nil]; omega
theorem p_Lead (x : Co) (h : RightC x) (hr : x.role = 1) (hl : x.tuple.log.length < 200) : m_elect_Lead x = some (leadC x) := by
  have hbd := h.bd
  have hlb := last_bd hbd.tup
  have ha := lead_tup x h hr hl
  have hxb := tupB_bd _ h.tup
  have hlen : x.tuple.last = x.tuple.snap.index + x.tuple.log.length := rfl
  have hbd' : bdT { x.tuple with log := x.tuple.log ++ [⟨x.tuple.term, 0, 0⟩] } := by
    refine ⟨?_, hbd.tup.2⟩
    show (x.tuple.log ++ [(⟨x.tuple.term, 0, 0⟩ : En)]).length ≤ 1000000
    rw [List.length_append]
    simp only [List.length_cons, List.length_nil]
    omega
  have happ := q_Append x.tuple [⟨x.tuple.term, 0, 0⟩] ⟨hbd.tup.1, by simp⟩
  rw [chg_some, if_pos h.tup, if_pos ha] at happ
  have hloop := p_Lead_l1 x ({ x.tuple with log := x.tuple.log ++ [⟨x.tuple.term, 0, 0⟩] }, 0) (x.tuple.last + 1) h (by omega) x.next.length 0 fuelN (by omega) (by omega) (by have := hbd.ln; unfold fuelN; omega)
  rw [mapTo_zero, mapTo_zero] at hloop
  simp only [m_elect_Lead, p_mOwn x hbd, p_mRight x hbd, rightC, cdec_t h, happ, Option.bind_some, Bool.cond_decide, if_neg (show ¬ x.role ≠ 1 from fun h => h hr), Bool.not_true, cond_false, if_neg (show ¬ (0 : Int) ≠ 0 by decide), p_tLast _ hbd', lead_last]
  exact hloop
theorem lead_right (x : Co) (h : RightC x) (hr : x.role = 1) (hl : x.tuple.log.length < 200) : RightC (leadC x) := by
  have ha := lead_tup x h hr hl
  have hcb := commit_bd h
  have hlen : x.tuple.last = x.tuple.snap.index + x.tuple.log.length := rfl
  have hxb := tupB_bd _ h.tup
  have hn := h.n
  have hid := h.id
  unfold leadC
  refine ⟨h.n, h.id, by show (2 : Int) ≤ 2; omega, h.bin, ha, ?_, h.lv, ?_, ?_, h.lc, ?_, ?_, h.caps, h.own, .inr ⟨(noop_right x h (by omega)).2.1, (noop_right x h (by omega)).2.2⟩⟩
  · dsimp only
    rw [← h.st]
    unfold stOf
    rw [lead_last, if_pos (by dsimp only; omega), if_pos hcb, List.take_append_of_le_length (by dsimp only; omega)]
  · dsimp only; rw [List.length_map]; exact h.ln
  · dsimp only; rw [List.length_set, List.length_map]; exact h.lm
  · dsimp only; rw [lead_last]
    intro a ha'
    obtain ⟨_, _, rfl⟩ := List.mem_map.1 ha'
    omega
  · dsimp only; rw [lead_last]
    refine InB.set (fun a ha' => ?_) (by omega)
    obtain ⟨_, _, rfl⟩ := List.mem_map.1 ha'
    omega
/-! ### Voting -/
def FreeP (y : Co) (m : Ms) : Prop := (y.tuple.vote = 0 ∨ y.tuple.vote = m.frm) ∧ y.role = 0 ∧ m.term = y.tuple.term ∧ NewP y m.lastTerm m.last
def votedC (y : Co) (m : Ms) : Co := { y with tuple := { y.tuple with term := m.term, vote := m.frm } }
theorem p_Vote_no (x : Co) (m : Ms) (hx : BdC x) (hm : BdM m) (h : ¬ (ToC x m ∧ m.kind = 1)) : m_elect_Vote x m = some (x, []) := by
  simp only [m_elect_Vote, p_fits x m hx hm, p_mOwn x hx, Option.bind_some, Bool.cond_decide]
  by_cases c1 : ToC x m
  case neg => rw [cdec_f c1]; rfl
  rw [cdec_t c1]
  simp only [Bool.not_true, cond_false]
  rw [if_pos (fun h2 => h ⟨c1, h2⟩)]
theorem p_Vote_yes (x : Co) (m : Ms) (hm : BdM m) (h : ToC x m) (hk : m.kind = 1) (hf : FreeP (meetC x m) m) : m_elect_Vote x m = some (votedC (meetC x m) m, [backM (votedC (meetC x m) m) m 2 true 0]) := by
  have hx := h.2.1.bd
  have hy := meet_right x m h.2.1
  obtain ⟨f1, f2, f3, f4⟩ := hf
  have hd := (hard_yes (meetC x m).tuple m.term m.frm hy.tup (.inr ⟨f3, f1⟩) h.2.2.term.2 (by have := h.2.2.frm; have := h.2.2.many; omega)).2
  simp only [m_elect_Vote, p_fits x m hx hm, p_Meet x m hx hm, cdec_t h, Option.bind_some, Bool.cond_decide, Bool.not_true, cond_false, if_neg (show ¬ m.kind ≠ 1 from fun h => h hk), if_pos f2, if_pos f3, p_Newer _ _ _ hy, cdec_t f4, cond_true, hd, m_msg_Back]
  rcases f1 with f1 | f1
  · rw [if_pos f1]; rfl
  · by_cases c : (meetC x m).tuple.vote = 0
    · rw [if_pos c]; rfl
    · rw [if_neg c, if_pos f1]; rfl
theorem p_Vote_none (x : Co) (m : Ms) (hm : BdM m) (h : ToC x m) (hk : m.kind = 1) (hf : ¬ FreeP (meetC x m) m) : m_elect_Vote x m = some (meetC x m, [backM (meetC x m) m 2 false 0]) := by
  have hx := h.2.1.bd
  have hy := meet_right x m h.2.1
  have key : ((meetC x m).tuple.vote = 0 ∨ (meetC x m).tuple.vote = m.frm) → (meetC x m).role = 0 → m.term = (meetC x m).tuple.term → cdec (NewP (meetC x m) m.lastTerm m.last) = false := fun a b c => cdec_f fun d => hf ⟨a, b, c, d⟩
  simp only [m_elect_Vote, p_fits x m hx hm, p_Meet x m hx hm, cdec_t h, Option.bind_some, Bool.cond_decide, Bool.not_true, cond_false, if_neg (show ¬ m.kind ≠ 1 from fun h => h hk), p_Newer _ _ _ hy, m_msg_Back]
  by_cases c1 : (meetC x m).tuple.vote = 0
  · rw [if_pos c1]
    by_cases c2 : (meetC x m).role = 0
    · rw [if_pos c2]
      by_cases c3 : m.term = (meetC x m).tuple.term
      · rw [if_pos c3, key (.inl c1) c2 c3]; rfl
      · rw [if_neg c3]; rfl
    · rw [if_neg c2]; rfl
  · rw [if_neg c1]
    by_cases c4 : (meetC x m).tuple.vote = m.frm
    · rw [if_pos c4]
      by_cases c2 : (meetC x m).role = 0
      · rw [if_pos c2]
        by_cases c3 : m.term = (meetC x m).tuple.term
        · rw [if_pos c3, key (.inr c4) c2 c3]; rfl
        · rw [if_neg c3]; rfl
      · rw [if_neg c2]; rfl
    · rw [if_neg c4]; rfl
theorem voted_right (x : Co) (m : Ms) (h : ToC x m) (hf : FreeP (meetC x m) m) : RightC (votedC (meetC x m) m) := by
  have hy := meet_right x m h.2.1
  obtain ⟨f1, f2, f3, f4⟩ := hf
  have hd := (hard_yes (meetC x m).tuple m.term m.frm hy.tup (.inr ⟨f3, f1⟩) h.2.2.term.2 (by have := h.2.2.frm; have := h.2.2.many; omega)).1
  exact ⟨hy.n, hy.id, hy.role, hy.bin, hd, hy.st, hy.lv, hy.ln, hy.lm, hy.lc, hy.next, hy.mtch, hy.caps, hy.own, .inl f2⟩
end Go.Proofs.Ytamjlcaoieliaaa
/- Layer 22's statements, in plain terms: votes, leading. -/
namespace Go.Proofs.Ytamjlcaoieliaaa
open Go Go.RowKit
set_option maxRecDepth 100000
theorem p_wakes22 : m_law22_wakes = some true := by decide +kernel
theorem idx_one (a : Ms) : idx [a] 0 = some a := rfl
theorem p_ElectVotes (x : Co) (m : Ms) (o : Int) (hk : 0 ≤ m.kind ∧ m.kind ≤ 255) : m_law22_ElectVotes x m o = some true := by
  obtain ⟨g, hg⟩ := p_Great_some x
  unfold m_law22_ElectVotes
  simp only [hg, p_wakes22, Option.bind_some]
  cases g with
  | true => rfl
  | false =>
  have hbd := (p_Great_no x hg).1
  simp only [cond_false, p_Right20 x hbd, Option.bind_some]
  unfold rightC
  by_cases h : RightC x
  case neg => rw [cdec_f h]; rfl
  rw [cdec_t h]
  simp only [Bool.not_true, cond_false, Bool.cond_decide]
  by_cases c : (4 : Int) < (m.entries.length : Int)
  · rw [if_pos c]
  rw [if_neg c]
  have hm : BdM m := ⟨hk, by omega⟩
  rw [p_Fine20 m x.n hm, Option.bind_some]
  unfold fineM
  by_cases hf : FineM m x.n
  case neg => rw [cdec_f hf]; rfl
  rw [cdec_t hf]
  simp only [Bool.not_true, cond_false]
  by_cases c1 : m.kind = 1
  case neg => rw [if_pos c1]
  rw [if_neg (fun h => h c1)]
  by_cases c2 : m.dst = x.id
  case neg => rw [if_pos c2]
  rw [if_neg (fun h => h c2)]
  have hto : ToC x m := ⟨c2, h, hf⟩
  have hmf := meet_f x m
  have hmr := meet_right x m h
  have hmc := meet_caps x m hto
  have hge := meet_ge x m hto
  have hnew := new_same x (meetC x m) m.lastTerm m.last hmf.snap hmf.log
  have hT := meet_term x m hto
  by_cases hF : FreeP (meetC x m) m
  · have hR := voted_right x m hto hF
    have hto2 := to_again x (votedC (meetC x m) m) m hto hR hmf.id hmf.n
    have hme : meetC (votedC (meetC x m) m) m = votedC (meetC x m) m := meet_again _ m (by show m.term ≤ m.term; omega) (fun _ => by show (meetC x m).caps[(m.frm - 1).toNat]? = some m.cap; rw [hmc]; exact caps_met x m hto)
    have hF2 : FreeP (meetC (votedC (meetC x m) m) m) m := by rw [hme]; exact ⟨.inr rfl, hF.2.1, rfl, hF.2.2.2⟩
    have h2 := p_Vote_yes (votedC (meetC x m) m) m hm hto2 c1 hF2
    have he : votedC (meetC (votedC (meetC x m) m) m) m = votedC (meetC x m) m := by rw [hme]; rfl
    rw [he] at h2
    have same := p_Same20 (votedC (meetC x m) m) (votedC (meetC x m) m) hR.bd
    rw [decide_eq_true rfl] at same
    have hgt : ¬ m.term < x.tuple.term := by have := hF.2.2.1; have := hmf.term; omega
    have e1 : (backM (votedC (meetC x m) m) m 2 true 0).okk = true := rfl
    have e2 : (votedC (meetC x m) m).tuple.vote = m.frm := rfl
    have e3 : (votedC (meetC x m) m).tuple.term = m.term := rfl
    rw [p_Vote_yes x m hm hto c1 hF]
    simp only [Option.bind_some, h2, List.length_cons, List.length_nil, idx_one, e1, e2, e3, same, p_Newer22 x _ _ h, cdec_t (hnew.1 hF.2.2.2), ne_eq, not_true, if_false, Bool.not_true, cond_false, cond_true, if_neg hgt]
    -- another asker
    have hmo : BdM ⟨m.kind, o, m.dst, m.term, m.cap, m.last, m.lastTerm, m.commit, m.okk, m.entries, m.snap⟩ := ⟨hk, hm.ents⟩
    obtain ⟨r, hr1, hr2⟩ : ∃ r, m_elect_Vote (votedC (meetC x m) m) ⟨m.kind, o, m.dst, m.term, m.cap, m.last, m.lastTerm, m.commit, m.okk, m.entries, m.snap⟩ = some r ∧ (FineM ⟨m.kind, o, m.dst, m.term, m.cap, m.last, m.lastTerm, m.commit, m.okk, m.entries, m.snap⟩ x.n → o ≠ m.frm → ∃ a, r.2 = [a] ∧ a.okk = false) := by
      by_cases hfo : FineM ⟨m.kind, o, m.dst, m.term, m.cap, m.last, m.lastTerm, m.commit, m.okk, m.entries, m.snap⟩ x.n
      · have hto3 : ToC (votedC (meetC x m) m) ⟨m.kind, o, m.dst, m.term, m.cap, m.last, m.lastTerm, m.commit, m.okk, m.entries, m.snap⟩ := ⟨by show m.dst = (meetC x m).id; rw [hmf.id]; exact c2, hR, by show FineM _ (meetC x m).n; rw [hmf.n]; exact hfo⟩
        by_cases hoF : FreeP (meetC (votedC (meetC x m) m) ⟨m.kind, o, m.dst, m.term, m.cap, m.last, m.lastTerm, m.commit, m.okk, m.entries, m.snap⟩) ⟨m.kind, o, m.dst, m.term, m.cap, m.last, m.lastTerm, m.commit, m.okk, m.entries, m.snap⟩
        · refine ⟨_, p_Vote_yes _ _ hmo hto3 c1 hoF, fun _ hne => ?_⟩
          exfalso
          have hv : (meetC (votedC (meetC x m) m) ⟨m.kind, o, m.dst, m.term, m.cap, m.last, m.lastTerm, m.commit, m.okk, m.entries, m.snap⟩).tuple.vote = m.frm := by
            rcases meet_term _ _ hto3 with ⟨h1, _⟩ | ⟨_, h2⟩
            · have : (votedC (meetC x m) m).tuple.term < m.term := h1
              rw [e3] at this
              omega
            · rw [h2]; exact e2
          have := hoF.1
          rw [hv] at this
          have := hf.frm
          dsimp only at *
          omega
        · exact ⟨_, p_Vote_none _ _ hmo hto3 c1 hoF, fun _ _ => ⟨_, rfl, rfl⟩⟩
      · refine ⟨_, p_Vote_no _ _ hR.bd hmo (fun h3 => hfo ?_), fun h3 => (hfo h3).elim⟩
        have := h3.1.2.2
        rw [show (votedC (meetC x m) m).n = (meetC x m).n from rfl, hmf.n] at this
        exact this
    rw [hr1, Option.bind_some, p_Fine20 _ x.n hmo, Option.bind_some]
    unfold fineM
    by_cases hfo : FineM ⟨m.kind, o, m.dst, m.term, m.cap, m.last, m.lastTerm, m.commit, m.okk, m.entries, m.snap⟩ x.n
    case neg => rw [cdec_f hfo]; rfl
    rw [cdec_t hfo]
    simp only [cond_true]
    by_cases hne : o = m.frm
    · simp [hne]
    · obtain ⟨a, ha, hao⟩ := hr2 hfo hne
      rw [ha]
      simp only [idx_one, Option.bind_some, hao, List.length_cons, List.length_nil, cond_false]
      simp [hne]
  · have hto2 := to_again x (meetC x m) m hto hmr hmf.id hmf.n
    have hme : meetC (meetC x m) m = meetC x m := meet_again _ m hge (fun _ => by rw [hmc]; exact caps_met x m hto)
    have h2 := p_Vote_none (meetC x m) m hm hto2 c1 (by rw [hme]; exact hF)
    rw [hme] at h2
    have e1 : (backM (meetC x m) m 2 false 0).okk = false := rfl
    have e2 : (backM (meetC x m) m 2 false 0).term = (meetC x m).tuple.term := rfl
    rw [p_Vote_none x m hm hto c1 hF]
    simp only [Option.bind_some, h2, List.length_cons, List.length_nil, idx_one, e1, e2, p_Newer22 x _ _ h, ne_eq, not_true, if_false, Bool.not_false, cond_true, cond_false, if_true]
    by_cases c3 : x.tuple.term < m.term
    · rcases hT with ⟨_, t1, t2, t3⟩ | ⟨t0, _⟩
      · have hno : ¬ NewP x m.lastTerm m.last := fun hp => hF ⟨.inl t2, t3, t1.symm, hnew.2 hp⟩
        rw [cdec_f hno]
        simp [c3, t2, t3]
      · omega
    · simp [c3]
/-! ### Leading -/
theorem leads_l1 (x : Co) (h : RightC x) (hr : x.role = 1) : ∀ (q k n : Nat) (v : Bool), q = x.next.length - k → k ≤ x.next.length → q < n → m_law22_ElectLeads_l1 x (leadC x) x.tuple.last n v k = some true := by
  have hn := h.n
  have hl := h.ln
  have hm := h.lm
  have hid := h.id
  have hlb := last_bd h.bd.tup
  have hw : IntKind.wrap .i64 (x.id - 1) = x.id - 1 := w64i (by omega)
  intro q
  induction q with
  | zero =>
    intro k n v hq hk hn'
    obtain ⟨n, rfl⟩ : ∃ n', n = n' + 1 := ⟨n - 1, by omega⟩
    rw [m_law22_ElectLeads_l1]
    simp only [Bool.cond_decide, if_neg (show ¬ (k : Int) < x.n by omega), p_wakes22, Option.bind_some]
    rw [if_pos (show (leadC x).commit = x.commit from rfl)]
  | succ q ih =>
    intro k n v hq hk hn'
    obtain ⟨n, rfl⟩ : ∃ n', n = n' + 1 := ⟨n - 1, by omega⟩
    have hih := ih (k + 1) n v (by omega) (by omega) (by omega)
    have g1 : (leadC x).next[k]? = some (x.tuple.last + 1 + 1) := by
      obtain ⟨e, he, _⟩ := drop_step (show k < x.next.length by omega)
      show (x.next.map _)[k]? = _
      rw [List.getElem?_map, he]; rfl
    have g2 : (leadC x).mtch[k]? = some (if (k : Int) = x.id - 1 then x.tuple.last + 1 else 0) := by
      obtain ⟨e, he, _⟩ := drop_step (show k < x.mtch.length by omega)
      show ((x.mtch.map _).set _ _)[k]? = _
      by_cases c : (k : Int) = x.id - 1
      · rw [if_pos c, show (x.id - 1).toNat = k by omega]
        exact List.getElem?_set_self (by rw [List.length_map]; omega)
      · rw [if_neg c, List.getElem?_set_ne (by omega), List.getElem?_map, he]; rfl
    have w1 : IntKind.wrap .i64 ((k : Int) + 1) = ((k + 1 : Nat) : Int) := by rw [w64i (by omega)]; omega
    rw [m_law22_ElectLeads_l1]
    simp only [Bool.cond_decide, if_pos (show (k : Int) < x.n by omega), idx_nat, g1, g2, hw, Option.bind_some, w64i (n := x.tuple.last + 1) (by omega), w64i (n := x.tuple.last + 1 + 1) (by omega), w1, hih]
    by_cases c : (k : Int) = x.id - 1
    · simp only [c, if_true, ne_eq, not_true, if_false]
    · simp only [c, if_true, ne_eq, not_true, if_false, not_false_eq_true]
theorem p_ElectLeads (x : Co) : m_law22_ElectLeads x = some true := by
  obtain ⟨g, hg⟩ := p_Great_some x
  unfold m_law22_ElectLeads
  simp only [hg, p_wakes22, Option.bind_some]
  cases g with
  | true => rfl
  | false =>
  have hbd := (p_Great_no x hg).1
  simp only [cond_false, p_Right20 x hbd, Option.bind_some]
  unfold rightC
  by_cases h : RightC x
  case neg => rw [cdec_f h]; rfl
  rw [cdec_t h]
  simp only [Bool.not_true, cond_false, Bool.cond_decide]
  by_cases hr : x.role = 1
  case neg =>
    have same := p_Same20 x x hbd
    rw [decide_eq_true rfl] at same
    rw [p_Lead_no x h hr]
    simp only [Option.bind_some, if_pos (show x.role ≠ 1 from hr), same, cond_true]
  by_cases hl : 200 ≤ x.tuple.log.length
  · have same := p_Same12 x.tuple x.tuple hbd.tup.1
    rw [decide_eq_true rfl] at same
    rw [p_Lead_full x h hr hl]
    simp only [Option.bind_some, if_neg (show ¬ x.role ≠ 1 from fun h => h hr), if_pos (show (200 : Int) ≤ (x.tuple.log.length : Int) by omega), same, cond_true, if_true]
  have hR := lead_right x h hr (by omega)
  have hb2 := hR.bd
  have hlb := last_bd hbd.tup
  have hlen : x.tuple.last = x.tuple.snap.index + x.tuple.log.length := rfl
  have hll := lead_last x
  have hat := p_At12x (leadC x).tuple hb2.tup x.tuple.log.length ⟨x.tuple.term, 0, 0⟩ (by show (x.tuple.log ++ [_])[_]? = _; rw [List.getElem?_append_right (Nat.le_refl _), Nat.sub_self]; rfl)
  rw [show (leadC x).tuple.snap.index + 1 + (x.tuple.log.length : Int) = x.tuple.last + 1 by show x.tuple.snap.index + 1 + (x.tuple.log.length : Int) = _; omega] at hat
  have e1 : (leadC x).role = 2 := rfl
  have e2 : (leadC x).tuple.last = x.tuple.last + 1 := hll
  have e3 : (leadC x).tuple.vote = x.id := (noop_right x h (by omega)).2.2
  have e4 : ((leadC x).next.length : Int) = x.n := hR.ln
  have e5 : ((leadC x).mtch.length : Int) = x.n := hR.lm
  have e6 : ¬ ((leadC x).tuple.log.length : Int) = 0 := by show ¬ (((x.tuple.log ++ [_]).length : Nat) : Int) = 0; rw [List.length_append]; simp only [List.length_cons, List.length_nil]; omega
  have hl1 := leads_l1 x h hr x.next.length 0 fuelN false (by omega) (by omega) (by have := hbd.ln; unfold fuelN; omega)
  rw [show ((0 : Nat) : Int) = 0 from rfl] at hl1
  rw [p_Lead x h hr (by omega)]
  simp only [Option.bind_some, if_neg (show ¬ x.role ≠ 1 from fun h => h hr), if_neg (show ¬ (200 : Int) ≤ (x.tuple.log.length : Int) by omega), p_Last12 x.tuple hbd.tup, p_Last12 _ hb2.tup, w64i (n := x.tuple.last + 1) (by omega), hat, e1, e2, e3, e4, e5, if_neg e6, ne_eq, not_true, if_false, Bool.not_true, cond_false, decide_true, Bool.and_true, hl1]
end Go.Proofs.Ytamjlcaoieliaaa
