/- Texts of one claim put together: what its walks share. -/
import Derived.Test.YtohkkncfofomdaaMh5
/- Cores and messages, in plain terms. -/
namespace Go.Proofs.Ytohkkncfofomdaa
open Go Go.RowKit
set_option maxRecDepth 100000
/-- A sentence as a truth value. -/
noncomputable def cdec (p : Prop) : Bool := @decide p (Classical.propDecidable p)
theorem cdec_t {p : Prop} (h : p) : cdec p = true := @decide_eq_true p (Classical.propDecidable p) h
theorem cdec_f {p : Prop} (h : ¬ p) : cdec p = false := @decide_eq_false p (Classical.propDecidable p) h
theorem cdec_congr {p q : Prop} (h : p ↔ q) : cdec p = cdec q := by rw [propext h]
theorem dec_cdec {p : Prop} [Decidable p] : decide p = cdec p := by
  by_cases h : p
  · rw [cdec_t h, decide_eq_true h]
  · rw [cdec_f h, decide_eq_false h]
def InB (l : List Int) (lo hi : Int) : Prop := ∀ x ∈ l, lo ≤ x ∧ x ≤ hi
theorem InB_nil {lo hi : Int} : InB [] lo hi := fun _ h => by cases h
theorem InB_cons {x : Int} {l : List Int} {lo hi : Int} : InB (x :: l) lo hi ↔ (lo ≤ x ∧ x ≤ hi) ∧ InB l lo hi := by
  unfold InB
  constructor
  · intro h; exact ⟨h x (by simp), fun y hy => h y (by simp [hy])⟩
  · rintro ⟨h1, h2⟩ y hy
    rcases List.mem_cons.1 hy with rfl | hy
    · exact h1
    · exact h2 y hy
theorem InB.get {l : List Int} {lo hi : Int} (h : InB l lo hi) {i : Nat} {x : Int} (hx : l[i]? = some x) : lo ≤ x ∧ x ≤ hi := h x (List.mem_of_getElem? hx)
theorem InB.set {l : List Int} {lo hi : Int} (h : InB l lo hi) {i : Nat} {x : Int} (hx : lo ≤ x ∧ x ≤ hi) : InB (l.set i x) lo hi := fun y hy => by
  rcases List.mem_or_eq_of_mem_set hy with h1 | rfl
  · exact h y h1
  · exact hx
theorem InB.repl {n : Nat} {x lo hi : Int} (hx : lo ≤ x ∧ x ≤ hi) : InB (List.replicate n x) lo hi := fun y hy => by
  rw [List.eq_of_mem_replicate hy]; exact hx
theorem p_within (x lo hi : Int) : m_msg_within x lo hi = some (cdec (lo ≤ x ∧ x ≤ hi)) := by
  unfold m_msg_within
  rw [Bool.cond_decide]
  by_cases h : lo ≤ x
  · rw [if_pos h, dec_cdec]; congr 1; exact cdec_congr ⟨fun h2 => ⟨h, h2⟩, fun h2 => h2.2⟩
  · rw [if_neg h, cdec_f (fun h2 => h h2.1)]
theorem p_each_l1 (l : List Int) (lo hi : Int) (hl : l.length ≤ 1000000) : ∀ (m k n : Nat) (v : Int), m = l.length - k → k ≤ l.length → m < n → m_msg_each_l1 l lo hi n v k = some (cdec (InB (l.drop k) lo hi)) := by
  intro m
  induction m with
  | zero =>
    intro k n v hm hk hn
    obtain ⟨n, rfl⟩ : ∃ n', n = n' + 1 := ⟨n - 1, by omega⟩
    rw [m_msg_each_l1, List.drop_eq_nil_of_le (by omega), cdec_t InB_nil]
    simp only [Bool.cond_decide, if_neg (show ¬ ((k : Int) < (l.length : Int)) by omega)]
    rfl
  | succ m ih =>
    intro k n v hm hk hn
    obtain ⟨n, rfl⟩ : ∃ n', n = n' + 1 := ⟨n - 1, by omega⟩
    obtain ⟨e, he, hd⟩ := drop_step (show k < l.length by omega)
    rw [m_msg_each_l1, hd]
    simp only [Bool.cond_decide, if_pos (show ((k : Int) < (l.length : Int)) by omega), idx_nat, he, Option.bind_some, p_within]
    rw [w64i (by omega), show ((k : Int) + 1) = ((k + 1 : Nat) : Int) by omega, ih (k + 1) n v (by omega) (by omega) (by omega)]
    by_cases h : lo ≤ e ∧ e ≤ hi
    · rw [cdec_t h]; show some _ = _; congr 1; exact cdec_congr ⟨fun h2 => InB_cons.2 ⟨h, h2⟩, fun h2 => (InB_cons.1 h2).2⟩
    · rw [cdec_f h, cdec_f (fun h2 => h (InB_cons.1 h2).1), decide_eq_true (show (0 : Int) ≤ (k : Int) by omega)]; rfl
theorem p_each (l : List Int) (n lo hi : Int) (hl : l.length ≤ 1000000) : m_msg_each l n lo hi = some (cdec ((l.length : Int) = n ∧ InB l lo hi)) := by
  unfold m_msg_each
  rw [Bool.cond_decide]
  by_cases h : (l.length : Int) = n
  · rw [if_pos h]
    have := p_each_l1 l lo hi hl l.length 0 fuelN 0 (by omega) (by omega) (by unfold fuelN; omega)
    rw [show ((0 : Nat) : Int) = 0 from rfl] at this
    rw [this, List.drop_zero]
    congr 1; exact cdec_congr ⟨fun h2 => ⟨h, h2⟩, fun h2 => h2.2⟩
  · rw [if_neg h, cdec_f (fun h2 => h h2.1)]
theorem p_eRight (e : En) : m_entry_Right e = some (rightB e) := rfl
/-- The state at an index. -/
def stOf (t : Tu) (i : Int) : Option St := if t.snap.index ≤ i ∧ i ≤ t.last then some (allS t.snap (t.log.take (i - t.snap.index).toNat)) else none
theorem q_State (x : Tu) (i : Int) (h : bdT x) : m_tuple_State x i = some ((stOf x i).getD ⟨0, 0, 0, 0, false⟩, (stOf x i).isSome) := by
  unfold stOf Tu.last
  by_cases hi : x.snap.index ≤ i ∧ i ≤ x.snap.index + x.log.length
  · rw [if_pos hi]
    obtain ⟨k, hk⟩ : ∃ k : Nat, i = x.snap.index + (k : Int) := ⟨(i - x.snap.index).toNat, by omega⟩
    rw [hk, q_State_yes x k h (by omega), show (x.snap.index + (k : Int) - x.snap.index).toNat = k by omega]
    rfl
  · rw [if_neg hi, q_State_no x i h (by omega)]; rfl
/-- A core that may be. -/
structure RightC (x : Co) : Prop where
  n : 1 ≤ x.n ∧ x.n ≤ 5
  id : 1 ≤ x.id ∧ x.id ≤ x.n
  role : x.role ≤ 2
  bin : 1 ≤ x.binary ∧ x.binary ≤ 2
  tup : tupB x.tuple = true
  st : stOf x.tuple x.commit = some x.applied
  lv : (x.votes.length : Int) = x.n
  ln : (x.next.length : Int) = x.n
  lm : (x.mtch.length : Int) = x.n
  lc : (x.caps.length : Int) = x.n
  next : InB x.next 1 (x.tuple.last + 1)
  mtch : InB x.mtch 0 x.tuple.last
  caps : InB x.caps 0 2
  own : x.caps[(x.id - 1).toNat]? = some x.binary
  lead : x.role = 0 ∨ (0 < x.tuple.term ∧ x.tuple.vote = x.id)
noncomputable def rightC (x : Co) : Bool := cdec (RightC x)
/-- A core that is not too great. -/
structure BdC (x : Co) : Prop where
  tup : bdT x.tuple
  lv : x.votes.length ≤ 1000000
  ln : x.next.length ≤ 1000000
  lm : x.mtch.length ≤ 1000000
  lc : x.caps.length ≤ 1000000
theorem own_get (x : Co) (h1 : 1 ≤ x.n ∧ x.n ≤ 5) (h2 : 1 ≤ x.id ∧ x.id ≤ x.n) (h3 : (x.caps.length : Int) = x.n) : ∃ e, idx x.caps (IntKind.wrap .i64 (x.id - 1)) = some e ∧ x.caps[(x.id - 1).toNat]? = some e := by
  have hw : IntKind.wrap .i64 (x.id - 1) = (((x.id - 1).toNat : Nat) : Int) := by rw [w64i (by omega)]; omega
  obtain ⟨e, he, _⟩ := drop_step (show (x.id - 1).toNat < x.caps.length by omega)
  exact ⟨e, by rw [hw, idx_nat, he], he⟩
theorem last_bd {t : Tu} (h : bdT t) : -3000000000000 ≤ t.last ∧ t.last ≤ 3000000000000 := by
  obtain ⟨h1, h2, h3⟩ := h
  unfold Tu.last; omega
theorem p_mRight (x : Co) (h : BdC x) : m_msg_Right x = some (rightC x) := by
  have hlb := last_bd h.tup
  have hw : IntKind.wrap .i64 (x.tuple.last + 1) = x.tuple.last + 1 := w64i (by omega)
  simp only [m_msg_Right, p_tLast x.tuple h.tup, p_within, q_Right x.tuple h.tup, q_State x.tuple x.commit h.tup, p_each x.next _ _ _ h.ln, p_each x.mtch _ _ _ h.lm, p_each x.caps _ _ _ h.lc, Option.bind_some, hw, snap_eq]
  unfold rightC
  by_cases c1 : 1 ≤ x.n ∧ x.n ≤ 5
  case neg => rw [cdec_f c1, cdec_f (p := RightC x) fun h => c1 h.n]; rfl
  by_cases c2 : 1 ≤ x.id ∧ x.id ≤ x.n
  case neg => rw [cdec_t c1, cdec_f c2, cdec_f (p := RightC x) fun h => c2 h.id]; rfl
  by_cases c3 : x.role ≤ 2
  case neg => rw [cdec_t c1, cdec_t c2, decide_eq_false c3, cdec_f (p := RightC x) fun h => c3 h.role]; rfl
  by_cases c4 : 1 ≤ x.binary ∧ x.binary ≤ 2
  case neg => rw [cdec_t c1, cdec_t c2, decide_eq_true c3, cdec_f c4, cdec_f (p := RightC x) fun h => c4 h.bin]; rfl
  rw [cdec_t c1, cdec_t c2, decide_eq_true c3, cdec_t c4]
  simp only [cond_true, Bool.not_true, cond_false]
  cases c5 : tupB x.tuple
  case false => rw [cdec_f (p := RightC x) fun h => by have h2 := h.tup; rw [c5] at h2; cases h2]; rfl
  simp only [cond_true, Bool.not_true, cond_false]
  cases c6 : stOf x.tuple x.commit with
  | none => rw [cdec_f (p := RightC x) fun h => by rw [h.st] at c6; cases c6]; rfl
  | some s =>
    simp only [Option.isSome_some, Option.getD_some, cond_true]
    by_cases c7 : s = x.applied
    case neg => rw [decide_eq_false c7, cdec_f (p := RightC x) fun h => c7 (by have := h.st; rw [c6] at this; exact Option.some.inj this)]; rfl
    rw [decide_eq_true c7]
    simp only [cond_true, Bool.not_true, cond_false]
    by_cases c8 : (x.votes.length : Int) = x.n
    case neg => rw [decide_eq_false c8, cdec_f (p := RightC x) fun h => c8 h.lv]; rfl
    by_cases c9 : (x.next.length : Int) = x.n ∧ InB x.next 1 (x.tuple.last + 1)
    case neg => rw [decide_eq_true c8, cdec_f c9, cdec_f (p := RightC x) fun h => c9 ⟨h.ln, h.next⟩]; rfl
    by_cases c10 : (x.mtch.length : Int) = x.n ∧ InB x.mtch 0 x.tuple.last
    case neg => rw [decide_eq_true c8, cdec_t c9, cdec_f c10, cdec_f (p := RightC x) fun h => c10 ⟨h.lm, h.mtch⟩]; rfl
    by_cases c11 : (x.caps.length : Int) = x.n ∧ InB x.caps 0 2
    case neg => rw [decide_eq_true c8, cdec_t c9, cdec_t c10, cdec_f c11, cdec_f (p := RightC x) fun h => c11 ⟨h.lc, h.caps⟩]; rfl
    rw [decide_eq_true c8, cdec_t c9, cdec_t c10, cdec_t c11]
    obtain ⟨e, he, he2⟩ := own_get x c1 c2 c11.1
    simp only [cond_true, Bool.not_true, cond_false, Option.bind_some, he]
    by_cases c12 : e = x.binary
    case neg => rw [decide_eq_false c12, cdec_f (p := RightC x) fun h => c12 (by have := h.own; rw [he2] at this; exact Option.some.inj this)]; rfl
    rw [decide_eq_true c12]
    simp only [cond_true, Bool.not_true, cond_false, Bool.cond_decide]
    subst c12
    subst c7
    by_cases c13 : x.role = 0
    · rw [if_pos c13, cdec_t (p := RightC x) ⟨c1, c2, c3, c4, c5, c6, c8, c9.1, c10.1, c11.1, c9.2, c10.2, c11.2, he2, .inl c13⟩]
    · rw [if_neg c13]
      by_cases c14 : 0 < x.tuple.term
      · rw [if_pos c14]
        by_cases c15 : x.tuple.vote = x.id
        · rw [decide_eq_true c15, cdec_t (p := RightC x) ⟨c1, c2, c3, c4, c5, c6, c8, c9.1, c10.1, c11.1, c9.2, c10.2, c11.2, he2, .inr ⟨c14, c15⟩⟩]; rfl
        · rw [decide_eq_false c15, cdec_f (p := RightC x) fun h => by rcases h.lead with h | h; exact c13 h; exact c15 h.2]; rfl
      · rw [if_neg c14, cdec_f (p := RightC x) fun h => by rcases h.lead with h | h; exact c13 h; exact c14 h.1]
/-- What is too great. -/
theorem p_Great_no (x : Co) (h : m_ref20_Great x = some false) : BdC x ∧ x.votes.length ≤ 9 ∧ x.next.length ≤ 9 ∧ x.mtch.length ≤ 9 ∧ x.caps.length ≤ 9 ∧ x.tuple.log.length ≤ 250 := by
  unfold m_ref20_Great m_ref12_Great at h
  simp only [Option.bind_some, Bool.cond_decide] at h
  repeat' split at h
  all_goals first | (cases h; done) | skip
  simp only [Option.some.injEq, decide_eq_false_iff_not] at h
  refine ⟨⟨⟨by omega, by omega, by omega⟩, by omega, by omega, by omega, by omega⟩, by omega, by omega, by omega, by omega, by omega⟩
theorem p_Great_some (x : Co) : ∃ b, m_ref20_Great x = some b := by
  unfold m_ref20_Great m_ref12_Great
  simp only [Option.bind_some, Bool.cond_decide]
  repeat' split
  all_goals exact ⟨_, rfl⟩
/-- A core that may be is not too great. -/
theorem RightC.bd {x : Co} (h : RightC x) : BdC x := by
  have h1 := tupB_bd _ h.tup
  have := h.n
  have := h.lv
  have := h.ln
  have := h.lm
  have := h.lc
  exact ⟨⟨by omega, h1.1, by omega⟩, by omega, by omega, by omega, by omega⟩
theorem p_State12' (x : Tu) (i : Int) (h : bdT x) : m_ref12_State x i = some ((stOf x i).getD ⟨0, 0, 0, 0, false⟩, (stOf x i).isSome) := by rw [p_State12 x i h, q_State x i h]
theorem p_Right20_l1 (x : Co) (hn : 1 ≤ x.n ∧ x.n ≤ 5) (hi : 1 ≤ x.id ∧ x.id ≤ x.n) (h2 : (x.next.length : Int) = x.n) (h3 : (x.mtch.length : Int) = x.n) (h4 : (x.caps.length : Int) = x.n) (hb : bdT x.tuple) : ∀ (m k n : Nat) (b : Bool), m = x.caps.length - k → k ≤ x.caps.length → m < n →
    m_ref20_Right_l1 x x.tuple.last n b k = some (cdec (InB (x.next.drop k) 1 (x.tuple.last + 1) ∧ InB (x.mtch.drop k) 0 x.tuple.last ∧ InB (x.caps.drop k) 0 2 ∧ x.caps[(x.id - 1).toNat]? = some x.binary ∧ (x.role = 0 ∨ (0 < x.tuple.term ∧ x.tuple.vote = x.id)))) := by
  have hlb := last_bd hb
  have hw : IntKind.wrap .i64 (x.tuple.last + 1) = x.tuple.last + 1 := w64i (by omega)
  obtain ⟨e0, he0, he1⟩ := own_get x hn hi h4
  intro m
  induction m with
  | zero =>
    intro k n b hm hk hn'
    obtain ⟨n, rfl⟩ : ∃ n', n = n' + 1 := ⟨n - 1, by omega⟩
    rw [m_ref20_Right_l1, List.drop_eq_nil_of_le (by omega), List.drop_eq_nil_of_le (by omega), List.drop_eq_nil_of_le (by omega)]
    simp only [Bool.cond_decide, if_neg (show ¬ ((k : Int) < x.n) by omega), he0, he1, Option.bind_some, Option.some.injEq]
    by_cases c1 : x.role = 0
    · rw [if_neg (fun h => h c1), dec_cdec]; congr 1; exact cdec_congr ⟨fun h => ⟨InB_nil, InB_nil, InB_nil, h, .inl c1⟩, fun h => h.2.2.2.1⟩
    · rw [if_pos c1]
      by_cases c2 : x.tuple.term < 1
      · rw [if_pos c2, cdec_f]; rintro ⟨_, _, _, _, h | h⟩; exact c1 h; omega
      · rw [if_neg c2]
        by_cases c3 : x.tuple.vote = x.id
        · rw [if_neg (fun h => h c3), dec_cdec]; congr 1; exact cdec_congr ⟨fun h => ⟨InB_nil, InB_nil, InB_nil, h, .inr ⟨by omega, c3⟩⟩, fun h => h.2.2.2.1⟩
        · rw [if_pos c3, cdec_f]; rintro ⟨_, _, _, _, h | h⟩; exact c1 h; exact c3 h.2
  | succ m ih =>
    intro k n b hm hk hn'
    obtain ⟨n, rfl⟩ : ∃ n', n = n' + 1 := ⟨n - 1, by omega⟩
    obtain ⟨e, he, hd⟩ := drop_step (show k < x.next.length by omega)
    obtain ⟨f, hf, hd2⟩ := drop_step (show k < x.mtch.length by omega)
    obtain ⟨g, hg, hd3⟩ := drop_step (show k < x.caps.length by omega)
    rw [m_ref20_Right_l1, hd, hd2, hd3]
    simp only [Bool.cond_decide, if_pos (show ((k : Int) < x.n) by omega), idx_nat, he, hf, hg, Option.bind_some, hw]
    rw [w64i (n := (k : Int) + 1) (by omega), show ((k : Int) + 1) = ((k + 1 : Nat) : Int) by omega, ih (k + 1) n b (by omega) (by omega) (by omega)]
    by_cases c1 : e < 1
    · rw [if_pos c1, cdec_f]; rintro ⟨h, _⟩; have := (InB_cons.1 h).1; omega
    rw [if_neg c1]
    by_cases c2 : x.tuple.last + 1 < e
    · rw [if_pos c2, cdec_f]; rintro ⟨h, _⟩; have := (InB_cons.1 h).1; omega
    rw [if_neg c2]
    by_cases c3 : f < 0
    · rw [if_pos c3, cdec_f]; rintro ⟨_, h, _⟩; have := (InB_cons.1 h).1; omega
    rw [if_neg c3]
    by_cases c4 : x.tuple.last < f
    · rw [if_pos c4, cdec_f]; rintro ⟨_, h, _⟩; have := (InB_cons.1 h).1; omega
    rw [if_neg c4]
    by_cases c5 : g < 0
    · rw [if_pos c5, cdec_f]; rintro ⟨_, _, h, _⟩; have := (InB_cons.1 h).1; omega
    rw [if_neg c5]
    by_cases c6 : 2 < g
    · rw [if_pos c6, cdec_f]; rintro ⟨_, _, h, _⟩; have := (InB_cons.1 h).1; omega
    rw [if_neg c6]
    congr 1
    exact cdec_congr ⟨fun h => ⟨InB_cons.2 ⟨by omega, h.1⟩, InB_cons.2 ⟨by omega, h.2.1⟩, InB_cons.2 ⟨by omega, h.2.2.1⟩, h.2.2.2⟩, fun h => ⟨(InB_cons.1 h.1).2, (InB_cons.1 h.2.1).2, (InB_cons.1 h.2.2.1).2, h.2.2.2⟩⟩
theorem p_Right20 (x : Co) (h : BdC x) : m_ref20_Right x = some (rightC x) := by
  simp only [m_ref20_Right, p_Right12, p_State12' x.tuple x.commit h.tup, p_Last12 x.tuple h.tup, Option.bind_some, snap_eq, Bool.cond_decide]
  unfold rightC
  by_cases c1 : x.n < 1
  · rw [if_pos c1, cdec_f (p := RightC x) fun h => by have := h.n; omega]
  rw [if_neg c1]
  by_cases c2 : 5 < x.n
  · rw [if_pos c2, cdec_f (p := RightC x) fun h => by have := h.n; omega]
  rw [if_neg c2]
  by_cases c3 : x.id < 1
  · rw [if_pos c3, cdec_f (p := RightC x) fun h => by have := h.id; omega]
  rw [if_neg c3]
  by_cases c4 : x.n < x.id
  · rw [if_pos c4, cdec_f (p := RightC x) fun h => by have := h.id; omega]
  rw [if_neg c4]
  by_cases c5 : 2 < x.role
  · rw [if_pos c5, cdec_f (p := RightC x) fun h => by have := h.role; omega]
  rw [if_neg c5]
  by_cases c6 : x.binary < 1
  · rw [if_pos c6, cdec_f (p := RightC x) fun h => by have := h.bin; omega]
  rw [if_neg c6]
  by_cases c7 : 2 < x.binary
  · rw [if_pos c7, cdec_f (p := RightC x) fun h => by have := h.bin; omega]
  rw [if_neg c7]
  cases c8 : tupB x.tuple with
  | false => rw [cdec_f (p := RightC x) fun h => by have h2 := h.tup; rw [c8] at h2; cases h2]; rfl
  | true =>
    simp only [Bool.not_true, cond_false]
    cases c9 : stOf x.tuple x.commit with
    | none => rw [cdec_f (p := RightC x) fun h => by rw [h.st] at c9; cases c9]; rfl
    | some s =>
      simp only [Option.isSome_some, Option.getD_some, Bool.not_true, cond_false]
      by_cases d1 : s = x.applied
      case neg => rw [decide_eq_false d1, cdec_f (p := RightC x) fun h => d1 (by have := h.st; rw [c9] at this; exact Option.some.inj this)]; rfl
      rw [decide_eq_true d1]
      simp only [Bool.not_true, cond_false]
      by_cases d2 : (x.votes.length : Int) = x.n
      case neg => rw [if_pos d2, cdec_f (p := RightC x) fun h => d2 h.lv]
      rw [if_neg (fun h => h d2)]
      by_cases d3 : (x.next.length : Int) = x.n
      case neg => rw [if_pos d3, cdec_f (p := RightC x) fun h => d3 h.ln]
      rw [if_neg (fun h => h d3)]
      by_cases d4 : (x.mtch.length : Int) = x.n
      case neg => rw [if_pos d4, cdec_f (p := RightC x) fun h => d4 h.lm]
      rw [if_neg (fun h => h d4)]
      by_cases d5 : (x.caps.length : Int) = x.n
      case neg => rw [if_pos d5, cdec_f (p := RightC x) fun h => d5 h.lc]
      rw [if_neg (fun h => h d5)]
      have := p_Right20_l1 x (by omega) (by omega) d3 d4 d5 h.tup x.caps.length 0 fuelN false (by omega) (by omega) (by have := h.lc; unfold fuelN; omega)
      rw [show ((0 : Nat) : Int) = 0 from rfl] at this
      rw [this]
      simp only [List.drop_zero]
      congr 1
      subst d1
      exact cdec_congr ⟨fun h => ⟨by omega, by omega, by omega, by omega, c8, c9, d2, d3, d4, d5, h.1, h.2.1, h.2.2.1, h.2.2.2.1, h.2.2.2.2⟩, fun h => ⟨h.next, h.mtch, h.caps, h.own, h.lead⟩⟩
end Go.Proofs.Ytohkkncfofomdaa
/- Messages, in plain terms. -/
namespace Go.Proofs.Ytohkkncfofomdaa
open Go Go.RowKit
set_option maxRecDepth 100000
theorem p_eNumber (x : Int) : m_entry_number x = some (numB x) := by
  unfold m_entry_number numB
  by_cases h : 0 ≤ x <;> simp [h]
theorem p_eFine (x : St) : m_entry_Fine x = some (fineB x) := by
  obtain ⟨i, t, s, l, f⟩ := x
  simp only [m_entry_Fine, m_entry_First, p_eNumber, Option.bind_some, fineB, firstS, numB, St.mk.injEq, Bool.cond_not, Bool.cond_decide]
  cases f <;> (repeat' split) <;> simp_all <;> omega
def entB (last term : Int) : List En → Prop
  | [] => True
  | e :: l => rightB e = true ∧ (last ≤ e.term ∧ e.term ≤ term) ∧ entB e.term term l
/-- A message that may be. -/
structure FineM (m : Ms) (n : Int) : Prop where
  many : 1 ≤ n ∧ n ≤ 5
  frm : 1 ≤ m.frm ∧ m.frm ≤ n
  dst : 1 ≤ m.dst ∧ m.dst ≤ n
  ne : m.frm ≠ m.dst
  kind : 1 ≤ m.kind ∧ m.kind ≤ 5
  term : 1 ≤ m.term ∧ m.term ≤ 1073741824
  cap : 1 ≤ m.cap ∧ m.cap ≤ 2
  last : 0 ≤ m.last ∧ m.last ≤ 1073741824
  lastTerm : 0 ≤ m.lastTerm ∧ m.lastTerm ≤ 1073741824
  commit : 0 ≤ m.commit ∧ m.commit ≤ 1073741824
  ents : entB m.lastTerm m.term m.entries
  few : m.entries.length ≤ 4
  app : m.kind ≠ 3 → m.entries.length = 0 ∧ m.commit = 0
  okk : m.okk = true → m.kind = 2 ∨ m.kind = 4
  snap : m.kind = 5 → 0 < m.snap.index ∧ fineB m.snap = true
  nosnap : m.kind ≠ 5 → m.snap = ⟨0, 0, 0, 0, false⟩
noncomputable def fineM (m : Ms) (n : Int) : Bool := cdec (FineM m n)
/-- A message that is not too great. -/
structure BdM (m : Ms) : Prop where
  kind : 0 ≤ m.kind ∧ m.kind ≤ 255
  ents : m.entries.length ≤ 1000000
theorem p_entries_l1 (x : Ms) (h : x.entries.length ≤ 1000000) : ∀ (m k n : Nat) (v : Bool) (last : Int), m = x.entries.length - k → k ≤ x.entries.length → m < n → m_msg_entries_l1 x n v last k = some (cdec (entB last x.term (x.entries.drop k) ∧ x.entries.length ≤ 4)) := by
  intro m
  induction m with
  | zero =>
    intro k n v last hm hk hn
    obtain ⟨n, rfl⟩ : ∃ n', n = n' + 1 := ⟨n - 1, by omega⟩
    rw [m_msg_entries_l1, List.drop_eq_nil_of_le (by omega)]
    simp only [Bool.cond_decide, if_neg (show ¬ ((k : Int) < (x.entries.length : Int)) by omega)]
    rw [dec_cdec]; congr 1
    exact cdec_congr ⟨fun h => ⟨trivial, by omega⟩, fun h => by have := h.2; omega⟩
  | succ m ih =>
    intro k n v last hm hk hn
    obtain ⟨n, rfl⟩ : ∃ n', n = n' + 1 := ⟨n - 1, by omega⟩
    obtain ⟨e, he, hd⟩ := drop_step (show k < x.entries.length by omega)
    rw [m_msg_entries_l1, hd]
    simp only [Bool.cond_decide, if_pos (show ((k : Int) < (x.entries.length : Int)) by omega), idx_nat, he, Option.bind_some, p_eRight, p_within]
    rw [w64i (by omega), show ((k : Int) + 1) = ((k + 1 : Nat) : Int) by omega, ih (k + 1) n v e.term (by omega) (by omega) (by omega)]
    cases c1 : rightB e with
    | false => rw [cdec_f (p := entB last x.term (e :: x.entries.drop (k + 1)) ∧ x.entries.length ≤ 4) fun h => by have h2 := h.1.1; rw [c1] at h2; cases h2]; rfl
    | true =>
      by_cases c2 : last ≤ e.term ∧ e.term ≤ x.term
      · rw [cdec_t c2]; show some _ = some _; congr 1
        exact cdec_congr ⟨fun h => ⟨⟨c1, c2, h.1⟩, h.2⟩, fun h => ⟨h.1.2.2, h.2⟩⟩
      · rw [cdec_f c2, cdec_f (p := entB last x.term (e :: x.entries.drop (k + 1)) ∧ x.entries.length ≤ 4) fun h => c2 h.1.2.1]; rfl
theorem p_entries (x : Ms) (h : x.entries.length ≤ 1000000) : m_msg_entries x = some (cdec (entB x.lastTerm x.term x.entries ∧ x.entries.length ≤ 4)) := by
  have := p_entries_l1 x h x.entries.length 0 fuelN false x.lastTerm (by omega) (by omega) (by unfold fuelN; omega)
  unfold m_msg_entries
  simpa using this
theorem st_zero (s : St) : (decide (s.index = 0) && (decide (s.term = 0) && (decide (s.sum = 0) && (decide (s.level = 0) && decide (s.final = false))))) = decide (s = ⟨0, 0, 0, 0, false⟩) := by
  obtain ⟨a1, a2, a3, a4, a5⟩ := s
  rw [Bool.eq_iff_iff]; simp
theorem p_mFine (m : Ms) (n : Int) (h : BdM m) : m_msg_Fine m n = some (fineM m n) := by
  have hw : IntKind.wrap .i64 m.kind = m.kind := w64i (by have := h.kind; omega)
  simp only [m_msg_Fine, p_within, p_each [m.frm, m.dst] _ _ _ (by simp), p_each [m.last, m.lastTerm, m.commit] _ _ _ (by simp), p_entries m h.ents, p_eFine, Option.bind_some, hw, st_zero]
  unfold fineM
  by_cases c1 : 1 ≤ n ∧ n ≤ 5
  case neg => rw [cdec_f c1, cdec_f (p := FineM m n) fun h => c1 h.many]; rfl
  rw [cdec_t c1]
  by_cases c2 : (([m.frm, m.dst].length : Nat) : Int) = 2 ∧ InB [m.frm, m.dst] 1 n
  case neg => rw [cdec_f c2, cdec_f (p := FineM m n) fun h => c2 ⟨rfl, InB_cons.2 ⟨h.frm, InB_cons.2 ⟨h.dst, InB_nil⟩⟩⟩]; rfl
  rw [cdec_t c2]
  have c21 := (InB_cons.1 c2.2).1
  have c22 := (InB_cons.1 (InB_cons.1 c2.2).2).1
  by_cases c3 : m.frm = m.dst
  case pos => rw [decide_eq_true c3, cdec_f (p := FineM m n) fun h => h.ne c3]; rfl
  rw [decide_eq_false c3]
  by_cases c4 : 1 ≤ m.kind ∧ m.kind ≤ 5
  case neg => rw [cdec_f c4, cdec_f (p := FineM m n) fun h => c4 h.kind]; rfl
  rw [cdec_t c4]
  by_cases c5 : 1 ≤ m.term ∧ m.term ≤ 1073741824
  case neg => rw [cdec_f c5, cdec_f (p := FineM m n) fun h => c5 h.term]; rfl
  rw [cdec_t c5]
  by_cases c6 : 1 ≤ m.cap ∧ m.cap ≤ 2
  case neg => rw [cdec_f c6, cdec_f (p := FineM m n) fun h => c6 h.cap]; rfl
  rw [cdec_t c6]
  by_cases c7 : (([m.last, m.lastTerm, m.commit].length : Nat) : Int) = 3 ∧ InB [m.last, m.lastTerm, m.commit] 0 1073741824
  case neg => rw [cdec_f c7, cdec_f (p := FineM m n) fun h => c7 ⟨rfl, InB_cons.2 ⟨h.last, InB_cons.2 ⟨h.lastTerm, InB_cons.2 ⟨h.commit, InB_nil⟩⟩⟩⟩]; rfl
  rw [cdec_t c7]
  have c71 := (InB_cons.1 c7.2).1
  have c72 := (InB_cons.1 (InB_cons.1 c7.2).2).1
  have c73 := (InB_cons.1 (InB_cons.1 (InB_cons.1 c7.2).2).2).1
  by_cases c8 : entB m.lastTerm m.term m.entries ∧ m.entries.length ≤ 4
  case neg => rw [cdec_f c8, cdec_f (p := FineM m n) fun h => c8 ⟨h.ents, h.few⟩]; rfl
  rw [cdec_t c8]
  have yes : ∀ (d1 : m.kind ≠ 3 → m.entries.length = 0 ∧ m.commit = 0) (d2 : m.okk = true → m.kind = 2 ∨ m.kind = 4), (if m.kind = 5 then (if 0 < m.snap.index then some (fineB m.snap) else some false) else some (decide (m.snap = ⟨0, 0, 0, 0, false⟩))) = some (cdec (FineM m n)) := by
    intro d1 d2
    by_cases e1 : m.kind = 5
    · rw [if_pos e1]
      by_cases e2 : 0 < m.snap.index
      · rw [if_pos e2]
        cases e3 : fineB m.snap with
        | true => rw [cdec_t (p := FineM m n) ⟨c1, c21, c22, c3, c4, c5, c6, c71, c72, c73, c8.1, c8.2, d1, d2, fun _ => ⟨e2, e3⟩, fun h => (h e1).elim⟩]
        | false => rw [cdec_f (p := FineM m n) fun h => by have h2 := (h.snap e1).2; rw [e3] at h2; cases h2]
      · rw [if_neg e2, cdec_f (p := FineM m n) fun h => e2 (h.snap e1).1]
    · rw [if_neg e1, dec_cdec]
      congr 1
      exact cdec_congr ⟨fun e2 => ⟨c1, c21, c22, c3, c4, c5, c6, c71, c72, c73, c8.1, c8.2, d1, d2, fun h => (e1 h).elim, fun _ => e2⟩, fun h => h.nosnap e1⟩
  simp only [Bool.not_true, cond_false, Bool.cond_decide]
  by_cases d1 : m.kind = 3
  · rw [if_neg (fun h => h d1)]
    cases d2 : m.okk with
    | false => exact yes (fun h => (h d1).elim) (fun h => by rw [d2] at h; cases h)
    | true =>
      rw [if_pos (by omega), if_pos (by omega), cdec_f (p := FineM m n) fun h => by have := h.okk d2; omega]; rfl
  · rw [if_pos d1]
    by_cases d3 : (0 : Int) < (m.entries.length : Int)
    · rw [if_pos d3, cdec_f (p := FineM m n) fun h => by have := (h.app d1).1; omega]
    rw [if_neg d3]
    by_cases d4 : 0 < m.commit
    · rw [if_pos d4, cdec_f (p := FineM m n) fun h => by have := (h.app d1).2; omega]
    rw [if_neg d4]
    have d5 : m.kind ≠ 3 → m.entries.length = 0 ∧ m.commit = 0 := fun _ => ⟨by omega, by omega⟩
    cases d2 : m.okk with
    | false => exact yes d5 (fun h => by rw [d2] at h; cases h)
    | true =>
      show (if m.kind ≠ 2 then _ else _) = _
      by_cases d6 : m.kind = 2
      · rw [if_neg (fun h => h d6)]; exact yes d5 (fun _ => .inl d6)
      · rw [if_pos d6]
        by_cases d7 : m.kind = 4
        · rw [if_neg (fun h => h d7)]; exact yes d5 (fun _ => .inr d7)
        · rw [if_pos d7, cdec_f (p := FineM m n) fun h => by have := h.okk d2; omega]
end Go.Proofs.Ytohkkncfofomdaa
/- Layer 20's statements, in plain terms: new cores, what is told to others. -/
namespace Go.Proofs.Ytohkkncfofomdaa
open Go Go.RowKit
set_option maxRecDepth 100000
theorem rep_1 (x : Int) : m_slices_Repeat___int_int_ [x] 1 = some [x] := by kernel_rfl
theorem rep_2 (x : Int) : m_slices_Repeat___int_int_ [x] 2 = some [x, x] := by kernel_rfl
theorem rep_3 (x : Int) : m_slices_Repeat___int_int_ [x] 3 = some [x, x, x] := by kernel_rfl
theorem rep_4 (x : Int) : m_slices_Repeat___int_int_ [x] 4 = some [x, x, x, x] := by kernel_rfl
theorem rep_5 (x : Int) : m_slices_Repeat___int_int_ [x] 5 = some [x, x, x, x, x] := by kernel_rfl
theorem p_Repeat (x : Int) (n : Nat) (h : 1 ≤ n ∧ n ≤ 5) : m_slices_Repeat___int_int_ [x] (n : Int) = some (List.replicate n x) := by
  have : n = 1 ∨ n = 2 ∨ n = 3 ∨ n = 4 ∨ n = 5 := by omega
  rcases this with rfl | rfl | rfl | rfl | rfl
  · exact rep_1 x
  · exact rep_2 x
  · exact rep_3 x
  · exact rep_4 x
  · exact rep_5 x
def newC (i n : Nat) (b : Int) (t : Tu) : Co := ⟨(i : Int) + 1, n, 0, b, t, t.snap.index, t.snap, List.replicate n false, List.replicate n (t.last + 1), List.replicate n 0, (List.replicate n 0).set i b⟩
theorem p_New (i n : Nat) (b : Int) (t : Tu) (hn : n ≤ 5) (hi : i < n) (ht : bdT t) : m_msg_New ((i : Int) + 1) n b t = some (newC i n b t) := by
  have hlb := last_bd ht
  have hs : ∀ b : Int, setI (List.replicate n 0) (i : Int) b = (List.replicate n 0).set i b := fun b => by unfold setI; simp
  have hg : idx (List.replicate n (0 : Int)) (i : Int) = some 0 := by rw [idx_nat]; simp [hi]
  unfold m_msg_New
  simp only [Bool.cond_decide, if_neg (show ¬ (5 : Int) < (n : Int) by omega), p_within, cdec_t (show (1 : Int) ≤ (i : Int) + 1 ∧ (i : Int) + 1 ≤ (n : Int) by omega), Option.bind_some, Bool.not_true, cond_false, m_tuple_Own, m_slices_Clone___api_Entry_api_Entry_, fewI_ok t.log (by have := ht.1; omega), makeI_nat _ n (by omega), p_tLast t ht, w64i (n := t.last + 1) (by omega), p_Repeat (t.last + 1) n (by omega), show (i : Int) + 1 - 1 = (i : Int) by omega, w64i (n := (i : Int)) (by omega), hg, hs]
  rfl
theorem new_right (i n : Nat) (b : Int) (t : Tu) (hn : n ≤ 5) (hi : i < n) (hb : 1 ≤ b ∧ b ≤ 2) (ht : tupB t = true) : RightC (newC i n b t) := by
  have h1 := tupB_bd _ ht
  have hl : t.last = t.snap.index + t.log.length := rfl
  unfold newC
  refine ⟨by show (1 : Int) ≤ n ∧ (n : Int) ≤ 5; omega, by show (1 : Int) ≤ (i : Int) + 1 ∧ (i : Int) + 1 ≤ (n : Int); omega, by show (0 : Int) ≤ 2; decide, hb, ht, ?_, by simp, by simp, by simp, by simp, ?_, ?_, ?_, ?_, .inl rfl⟩
  · dsimp only
    unfold stOf
    rw [if_pos (by omega), Int.sub_self]
    rfl
  · exact InB.repl ⟨by first | omega | (dsimp only; omega), by first | omega | (dsimp only; omega)⟩
  · exact InB.repl ⟨by first | omega | (dsimp only; omega), by first | omega | (dsimp only; omega)⟩
  · exact (InB.repl ⟨by omega, by omega⟩).set ⟨by omega, by omega⟩
  · dsimp only
    rw [show ((i : Int) + 1 - 1).toNat = i by omega]
    exact List.getElem?_set_self (by rw [List.length_replicate]; exact hi)
theorem p_wakes20 : m_law20_wakes = some true := by decide +kernel
theorem new_l1 (t : Tu) (i n : Nat) (b : Int) (hn : n ≤ 5) (hi : i < n) (ht : bdT t) : ∀ (m k f : Nat) (v : Bool), m = n - k → k ≤ n → m < f → m_law20_MsgNew_l1 t ((i : Int) + 1) n b (newC i n b t) f v k = some true := by
  have hlb := last_bd ht
  intro m
  induction m with
  | zero =>
    intro k f v hm hk hf
    obtain ⟨f, rfl⟩ : ∃ n', f = n' + 1 := ⟨f - 1, by omega⟩
    rw [m_law20_MsgNew_l1]
    simp only [Bool.cond_decide, if_neg (show ¬ (k : Int) < (n : Int) by omega), p_wakes20, Option.bind_some]
  | succ m ih =>
    intro k f v hm hk hf
    obtain ⟨f, rfl⟩ : ∃ n', f = n' + 1 := ⟨f - 1, by omega⟩
    have hr := ih (k + 1) f v (by omega) (by omega) (by omega)
    rw [show ((k + 1 : Nat) : Int) = (k : Int) + 1 by omega] at hr
    have g1 : (newC i n b t).votes[k]? = some false := by show (List.replicate n false)[k]? = _; rw [List.getElem?_replicate, if_pos (by omega)]
    have g2 : (newC i n b t).mtch[k]? = some 0 := by show (List.replicate n (0 : Int))[k]? = _; rw [List.getElem?_replicate, if_pos (by omega)]
    have g3 : (newC i n b t).next[k]? = some (t.last + 1) := by show (List.replicate n (t.last + 1))[k]? = _; rw [List.getElem?_replicate, if_pos (by omega)]
    have g4 : (newC i n b t).caps[k]? = some (if k = i then b else 0) := by
      unfold newC
      by_cases c : k = i
      · subst c; rw [if_pos rfl]; exact List.getElem?_set_self (by rw [List.length_replicate]; exact hi)
      · rw [if_neg c]; show ((List.replicate n 0).set i b)[k]? = _; rw [List.getElem?_set_ne (fun h => c h.symm), List.getElem?_replicate, if_pos (by omega)]
    rw [m_law20_MsgNew_l1]
    simp only [Bool.cond_decide, if_pos (show (k : Int) < (n : Int) by omega), idx_nat, g1, g2, g3, g4, Option.bind_some, cond_false, p_Last12 t ht, w64i (n := t.last + 1) (by omega), ne_eq, not_true, if_false, show (i : Int) + 1 - 1 = (i : Int) by omega, w64i (n := (i : Int)) (by omega), w64i (n := (k : Int) + 1) (by omega), hr]
    by_cases c : k = i
    · simp [c]
    · have : ¬ (k : Int) = (i : Int) := by omega
      simp [c, this]
theorem p_MsgNew (t : Tu) (i n b : Int) : m_law20_MsgNew t i n b = some true := by
  unfold m_law20_MsgNew
  simp only [p_Right12, p_wakes20, Option.bind_some, Bool.cond_decide]
  cases ht : tupB t with
  | false => rfl
  | true =>
  simp only [Bool.not_true, cond_false]
  by_cases c1 : n < 1
  · rw [if_pos c1]
  by_cases c2 : 5 < n
  · rw [if_neg c1, if_pos c2]
  by_cases c3 : i < 1
  · rw [if_neg c1, if_neg c2, if_pos c3]
  by_cases c4 : n < i
  · rw [if_neg c1, if_neg c2, if_neg c3, if_pos c4]
  by_cases c5 : b < 1
  · rw [if_neg c1, if_neg c2, if_neg c3, if_neg c4, if_pos c5]
  by_cases c6 : 2 < b
  · rw [if_neg c1, if_neg c2, if_neg c3, if_neg c4, if_neg c5, if_pos c6]
  rw [if_neg c1, if_neg c2, if_neg c3, if_neg c4, if_neg c5, if_neg c6]
  obtain ⟨N, rfl⟩ : ∃ N : Nat, n = (N : Int) := ⟨n.toNat, by omega⟩
  obtain ⟨J, rfl⟩ : ∃ J : Nat, i = (J : Int) + 1 := ⟨(i - 1).toNat, by omega⟩
  have hb := tupB_bd _ ht
  have hbd : bdT t := ⟨by omega, hb.1, by omega⟩
  have hR := new_right J N b t (by omega) (by omega) (by omega) ht
  have hl := new_l1 t J N b (by omega) (by omega) hbd N 0 fuelN false (by omega) (by omega) (by unfold fuelN; omega)
  rw [show ((0 : Nat) : Int) = 0 from rfl] at hl
  have e1 : (newC J N b t).role = 0 := rfl
  have e2 : (newC J N b t).commit = t.snap.index := rfl
  have e3 : (newC J N b t).applied = t.snap := rfl
  have e4 : (newC J N b t).tuple = t := rfl
  have e5 : ((newC J N b t).votes.length : Int) = N := by unfold newC; simp
  have e6 : ((newC J N b t).caps.length : Int) = N := by unfold newC; simp
  rw [p_New J N b t (by omega) (by omega) hbd]
  simp only [Option.bind_some, p_Right20 _ hR.bd, p_mRight _ hR.bd, rightC, cdec_t hR, Bool.not_true, cond_false, e1, e2, e3, e4, e5, e6, ne_eq, not_true, if_false, snap_eq, decide_true, p_Same12 t t hbd.1, hl]
/-! ### Others -/
theorem p_Alike_self (a : Ms) (h : a.entries.length ≤ 1000000) : m_ref20_Alike a a = some true := by
  unfold m_ref20_Alike
  simp only [decide_true, cond_true, Bool.and_true, p_Same a.entries a.entries h, Option.bind_some]
def toM (x : Co) (m : Ms) (d : Int) : Ms := ⟨m.kind, x.id, d, x.tuple.term, x.binary, m.last, m.lastTerm, m.commit, m.okk, m.entries, m.snap⟩
theorem others_r1 (x : Co) (m : Ms) (hm : m.entries.length ≤ 1000000) (l : List Int) : ∀ (v : List Ms), v.length + l.length ≤ 1000000 → m_msg_Others_r1 x m l v = some (v ++ l.map (toM x m)) := by
  induction l with
  | nil => intro v _; rw [m_msg_Others_r1]; simp
  | cons d l ih =>
    intro v hv
    rw [List.length_cons] at hv
    rw [m_msg_Others_r1, m_slices_Clone___api_Entry_api_Entry_, fewI_ok _ (by omega), Option.bind_some, fewI_ok _ (by rw [List.length_append]; simp only [List.length_cons, List.length_nil]; omega), Option.bind_some]
    have := ih (v ++ [toM x m d]) (by rw [List.length_append]; simp only [List.length_cons, List.length_nil]; omega)
    rw [List.append_assoc] at this
    exact this
theorem others_all : ∀ n : Fin 6, ∀ i : Fin 6, 1 ≤ i.val → i.val ≤ n.val → (othersL (i.val : Int) 1 n.val).length = n.val - 1 ∧ ∀ k : Fin 6, ∀ d, (othersL (i.val : Int) 1 n.val)[k.val]? = some d → (1 ≤ d ∧ d ≤ (n.val : Int) ∧ d ≠ (i.val : Int)) ∧ (1 ≤ k.val → ∀ c, (othersL (i.val : Int) 1 n.val)[k.val - 1]? = some c → c < d) := by
  intro n i h1 h2
  have hn : n.val = 1 ∨ n.val = 2 ∨ n.val = 3 ∨ n.val = 4 ∨ n.val = 5 := by omega
  have key : ∀ (L : List Int) (i n : Int), (∀ k : Fin 6, (match L[k.val]? with | some d => decide ((1 ≤ d ∧ d ≤ n ∧ d ≠ i)) && (if 1 ≤ k.val then (match L[k.val - 1]? with | some c => decide (c < d) | none => true) else true) | none => true) = true) → ∀ k : Fin 6, ∀ d, L[k.val]? = some d → (1 ≤ d ∧ d ≤ n ∧ d ≠ i) ∧ (1 ≤ k.val → ∀ c, L[k.val - 1]? = some c → c < d) := by
    intro L i n h k d hd
    have h3 := h k
    rw [hd] at h3
    simp only [Bool.and_eq_true, decide_eq_true_eq] at h3
    refine ⟨h3.1, fun h4 c hc => ?_⟩
    have h5 := h3.2
    rw [if_pos h4, hc] at h5
    exact of_decide_eq_true h5
  have fin : ∀ n : Fin 6, ∀ i : Fin 6, 1 ≤ i.val → i.val ≤ n.val → (othersL (i.val : Int) 1 n.val).length = n.val - 1 ∧ (∀ k : Fin 6, (match (othersL (i.val : Int) 1 n.val)[k.val]? with | some d => decide ((1 ≤ d ∧ d ≤ (n.val : Int) ∧ d ≠ (i.val : Int))) && (if 1 ≤ k.val then (match (othersL (i.val : Int) 1 n.val)[k.val - 1]? with | some c => decide (c < d) | none => true) else true) | none => true) = true) := by decide +kernel
  exact ⟨(fin n i h1 h2).1, key _ _ _ (fin n i h1 h2).2⟩
theorem p_Others (x : Co) (m : Ms) (h : RightC x) (hm : m.entries.length ≤ 1000000) : ∃ L : List Int, m_msg_Others x m = some (L.map (toM x m)) ∧ (L.length : Int) = x.n - 1 ∧ (∀ (k : Nat) (d : Int), L[k]? = some d → (1 ≤ d ∧ d ≤ x.n ∧ d ≠ x.id) ∧ (1 ≤ k → ∀ c, L[k - 1]? = some c → c < d)) := by
  have hn := h.n
  have hi := h.id
  obtain ⟨N, hN⟩ : ∃ N : Nat, x.n = (N : Int) := ⟨x.n.toNat, by omega⟩
  obtain ⟨J, hJ⟩ : ∃ J : Nat, x.id = (J : Int) := ⟨x.id.toNat, by omega⟩
  obtain ⟨h1, h2⟩ := others_all ⟨N, by omega⟩ ⟨J, by omega⟩ (by show 1 ≤ J; omega) (by show J ≤ N; omega)
  dsimp only at h1 h2
  refine ⟨othersL x.id 1 N, ?_, by rw [hJ, h1]; omega, fun k d hd => ?_⟩
  · unfold m_msg_Others m_it_others
    rw [Option.bind_some, show (min x.n 5).toNat = N by omega, others_r1 x m hm _ [] (by rw [hJ, h1]; simp; omega)]
    rfl
  · rw [hJ] at hd ⊢
    have hk : k < (othersL (J : Int) 1 N).length := (List.getElem?_eq_some_iff.1 hd).1
    rw [hN]
    exact h2 ⟨k, by omega⟩ d hd
theorem fine_to (x : Co) (m : Ms) (d d' : Int) (n : Int) (h1 : 1 ≤ d ∧ d ≤ n ∧ d ≠ x.id) (h2 : 1 ≤ d' ∧ d' ≤ n ∧ d' ≠ x.id) : fineM (toM x m d) n = fineM (toM x m d') n := by
  have one : ∀ d d' : Int, (1 ≤ d ∧ d ≤ n ∧ d ≠ x.id) → (1 ≤ d' ∧ d' ≤ n ∧ d' ≠ x.id) → FineM (toM x m d) n → FineM (toM x m d') n := fun d d' h1 h2 h =>
    ⟨h.many, h.frm, ⟨h2.1, h2.2.1⟩, fun h3 => h2.2.2 h3.symm, h.kind, h.term, h.cap, h.last, h.lastTerm, h.commit, h.ents, h.few, h.app, h.okk, h.snap, h.nosnap⟩
  exact cdec_congr ⟨one d d' h1 h2, one d' d h2 h1⟩
theorem others_l1 (x : Co) (m : Ms) (h : RightC x) (hm : BdM m) (L : List Int) (hL : ∀ (k : Nat) (d : Int), L[k]? = some d → (1 ≤ d ∧ d ≤ x.n ∧ d ≠ x.id) ∧ (1 ≤ k → ∀ c, L[k - 1]? = some c → c < d)) (hl : L.length ≤ 10) :
    ∀ (q k f : Nat) (v : Bool), q = L.length - k → k ≤ L.length → q < f → m_law20_MsgOthers_l1 x m (L.map (toM x m)) f v k = some true := by
  have hb : ∀ d, BdM (toM x m d) := fun d => ⟨hm.kind, hm.ents⟩
  intro q
  induction q with
  | zero =>
    intro k f v hq hk hf
    obtain ⟨f, rfl⟩ : ∃ n', f = n' + 1 := ⟨f - 1, by omega⟩
    rw [m_law20_MsgOthers_l1]
    simp only [Bool.cond_decide, List.length_map, if_neg (show ¬ (k : Int) < (L.length : Int) by omega), p_wakes20, Option.bind_some]
  | succ q ih =>
    intro k f v hq hk hf
    obtain ⟨f, rfl⟩ : ∃ n', f = n' + 1 := ⟨f - 1, by omega⟩
    have hr := ih (k + 1) f v (by omega) (by omega) (by omega)
    rw [show ((k + 1 : Nat) : Int) = (k : Int) + 1 by omega] at hr
    obtain ⟨d, hd, _⟩ := drop_step (show k < L.length by omega)
    obtain ⟨d0, hd0, _⟩ := drop_step (show 0 < L.length by omega)
    have g : (L.map (toM x m))[k]? = some (toM x m d) := by rw [List.getElem?_map, hd]; rfl
    have g0 : idx (L.map (toM x m)) 0 = some (toM x m d0) := by rw [show (0 : Int) = ((0 : Nat) : Int) from rfl, idx_nat, List.getElem?_map, hd0]; rfl
    obtain ⟨b1, b2⟩ := hL k d hd
    have b0 := (hL 0 d0 hd0).1
    have ff := fine_to x m d d0 x.n b1 b0
    have e1 : (toM x m d).dst = d := rfl
    have e2 : (toM x m d).frm = x.id := rfl
    have e3 : (toM x m d).term = x.tuple.term := rfl
    have e4 : (toM x m d).cap = x.binary := rfl
    have e5 : (toM x m d).entries = m.entries := rfl
    have e6 : (toM x m d).last = m.last := rfl
    have e7 : (toM x m d).kind = m.kind := rfl
    have al : m_ref20_Alike ⟨m.kind, x.id, (toM x m d0).dst, x.tuple.term, x.binary, m.last, (toM x m d).lastTerm, (toM x m d).commit, (toM x m d).okk, m.entries, (toM x m d).snap⟩ (toM x m d0) = some true := p_Alike_self (toM x m d0) (hb d0).ents
    have sm := p_Same m.entries m.entries hm.ents
    rw [decide_eq_true rfl] at sm
    rw [m_law20_MsgOthers_l1]
    simp only [Bool.cond_decide, List.length_map, if_pos (show (k : Int) < (L.length : Int) by omega), idx_nat, g, Option.bind_some, e1, e2, e3, e4, e5, e6, e7, if_neg (show ¬ d < 1 by omega), if_neg (show ¬ x.n < d by omega), if_neg (show ¬ d = x.id from b1.2.2), ne_eq, not_true, if_false, g0, p_mFine _ x.n (hb d), p_mFine _ x.n (hb d0), ff, al, sm, Bool.cond_not, cond_true, w64i (n := (k : Int) + 1) (by omega), hr]
    by_cases c : 0 < (k : Int)
    · obtain ⟨c0, hc0, _⟩ := drop_step (show k - 1 < L.length by omega)
      have lt := b2 (by omega) c0 hc0
      have gc : idx (L.map (toM x m)) (IntKind.wrap .i64 ((k : Int) - 1)) = some (toM x m c0) := by rw [w64i (by omega), show (k : Int) - 1 = ((k - 1 : Nat) : Int) by omega, idx_nat, List.getElem?_map, hc0]; rfl
      have e9 : (toM x m c0).dst = c0 := rfl
      rw [if_pos c, gc, Option.bind_some, e9, if_neg (by omega)]
    · rw [if_neg c]
theorem p_MsgOthers (x : Co) (m : Ms) (hk : 0 ≤ m.kind ∧ m.kind ≤ 255) : m_law20_MsgOthers x m = some true := by
  obtain ⟨g, hg⟩ := p_Great_some x
  unfold m_law20_MsgOthers
  rw [hg]
  simp only [p_wakes20, Option.bind_some]
  cases g with
  | true => rfl
  | false =>
  have hbd := (p_Great_no x hg).1
  simp only [cond_false, p_Right20 x hbd, Option.bind_some]
  unfold rightC
  by_cases h : RightC x
  case neg => rw [cdec_f h]; rfl
  rw [cdec_t h]
  by_cases c : (4 : Int) < (m.entries.length : Int)
  · simp only [Bool.not_true, cond_false, Bool.cond_decide, if_pos c]
  have hm : BdM m := ⟨hk, by omega⟩
  obtain ⟨L, h1, h2, h3⟩ := p_Others x m h hm.ents
  have hn := h.n
  have hl := others_l1 x m h hm L h3 (by omega) L.length 0 fuelN false (by omega) (by omega) (by unfold fuelN; omega)
  rw [show ((0 : Nat) : Int) = 0 from rfl] at hl
  simp only [Bool.not_true, cond_false, Bool.cond_decide, if_neg c, h1, Option.bind_some, List.length_map, h2, w64i (n := x.n - 1) (by omega), ne_eq, not_true, if_false, hl]
end Go.Proofs.Ytohkkncfofomdaa
