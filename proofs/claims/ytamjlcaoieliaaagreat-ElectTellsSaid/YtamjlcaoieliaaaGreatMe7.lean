/- Texts of one claim put together. -/
import Derived.Test.YtamjlcaoieliaaaGreatMe6
namespace Go.Proofs.YtamjlcaoieliaaaGreat

section
open Go Go.RowKit
set_option maxRecDepth 100000
noncomputable def Zfl (p : Prop) : Bool := @decide p (Classical.propDecidable p)
theorem Y4 {p : Prop} (h : p) : Zfl p = true := @decide_eq_true p (Classical.propDecidable p) h
theorem Ya {p : Prop} (h : ¬ p) : Zfl p = false := @decide_eq_false p (Classical.propDecidable p) h
theorem X5 {p q : Prop} (h : p ↔ q) : Zfl p = Zfl q := by rw [propext h]
theorem Zch {p : Prop} [Decidable p] : decide p = Zfl p := by
 by_cases h : p
 ·rw [Y4 h, decide_eq_true h]
 ·rw [Ya h, decide_eq_false h]
def InB (l : List Int) (lo hi : Int) : Prop := ∀ x ∈ l, lo ≤ x ∧ x ≤ hi
theorem Zf2 {lo hi : Int} : InB [] lo hi := fun _ h => by cases h
theorem InB_cons {x : Int} {l : List Int} {lo hi : Int} : InB (x :: l) lo hi ↔ (lo ≤ x ∧ x ≤ hi) ∧ InB l lo hi := by
 unfold InB
 constructor
 ·intro h; exact ⟨h x (by simp), fun y hy => h y (by simp [hy])⟩
 ·rintro ⟨h1, h2⟩ y hy
  rcases List.mem_cons.1 hy with rfl | hy
  ·exact h1
  ·exact h2 y hy
theorem InB.get {l : List Int} {lo hi : Int} (h : InB l lo hi) {i : Nat} {x : Int} (hx : l[i]? = some x) : lo ≤ x ∧ x ≤ hi := h x (List.mem_of_getElem? hx)
theorem InB.set {l : List Int} {lo hi : Int} (h : InB l lo hi) {i : Nat} {x : Int} (hx : lo ≤ x ∧ x ≤ hi) : InB (l.set i x) lo hi := fun y hy => by
 rcases List.mem_or_eq_of_mem_set hy with h1 | rfl
 ·exact h y h1
 ·exact hx
theorem p_within (x lo hi : Int) : Vr x lo hi = some (Zfl (lo ≤ x ∧ x ≤ hi)) := by
 unfold Vr
 rw [Bool.cond_decide]
 by_cases h : lo ≤ x
 ·rw [if_pos h, Zch]; congr 1; exact X5 ⟨fun h2 => ⟨h, h2⟩, fun h2 => h2.2⟩
 ·rw [if_neg h, Ya (fun h2 => h h2.1)]
theorem p_each_l1 (l : List Int) (lo hi : Int) (hl : l.length ≤ 1000000) : ∀ (m k n : Nat) (v : Int), m = l.length - k → k ≤ l.length → m < n → Zbl l lo hi n v k = some (Zfl (InB (l.drop k) lo hi)) := by
 intro m
 induction m with
 | zero =>
  intro k n v hm hk hn
  obtain ⟨n, rfl⟩ : ∃ n', n = n' + 1 := ⟨n - 1, by omega⟩
  rw [Zbl, List.drop_eq_nil_of_le (by omega), Y4 Zf2]
  simp only [Bool.cond_decide, if_neg (show ¬ ((k : Int) < (l.length : Int)) by omega)]
  rfl
 | succ m ih =>
  intro k n v hm hk hn
  obtain ⟨n, rfl⟩ : ∃ n', n = n' + 1 := ⟨n - 1, by omega⟩
  obtain ⟨e, he, hd⟩ := Xo (show k < l.length by omega)
  rw [Zbl, hd]
  simp only [Bool.cond_decide, if_pos (show ((k : Int) < (l.length : Int)) by omega), J5, he, Option.bind_some, p_within]
  rw [Zb7 (by omega), show ((k : Int) + 1) = ((k + 1 : Nat) : Int) by omega, ih (k + 1) n v (by omega) (by omega) (by omega)]
  by_cases h : lo ≤ e ∧ e ≤ hi
  ·rw [Y4 h]; show some _ = _; congr 1; exact X5 ⟨fun h2 => InB_cons.2 ⟨h, h2⟩, fun h2 => (InB_cons.1 h2).2⟩
  ·rw [Ya h, Ya (fun h2 => h (InB_cons.1 h2).1), decide_eq_true (show (0 : Int) ≤ (k : Int) by omega)]; rfl
theorem p_each (l : List Int) (n lo hi : Int) (hl : l.length ≤ 1000000) : Zb4 l n lo hi = some (Zfl ((l.length : Int) = n ∧ InB l lo hi)) := by
 unfold Zb4
 rw [Bool.cond_decide]
 by_cases h : (l.length : Int) = n
 ·rw [if_pos h]
  have := p_each_l1 l lo hi hl l.length 0 Xw 0 (by omega) (by omega) (by unfold Xw; omega)
  rw [show ((0 : Nat) : Int) = 0 from rfl] at this
  rw [this, List.drop_zero]
  congr 1; exact X5 ⟨fun h2 => ⟨h, h2⟩, fun h2 => h2.2⟩
 ·rw [if_neg h, Ya (fun h2 => h h2.1)]
theorem p_eRight (e : En) : Zgv e = some (Jl e) := rfl
def stOf (t : Tu) (i : Int) : Option St := if t.snap.index ≤ i ∧ i ≤ t.last then some (allS t.snap (t.log.take (i - t.snap.index).toNat)) else none
theorem q_State (x : Tu) (i : Int) (h : bdT x) : Zab x i = some ((stOf x i).getD ⟨0, 0, 0, 0, false⟩, (stOf x i).isSome) := by
 unfold stOf Tu.last
 by_cases hi : x.snap.index ≤ i ∧ i ≤ x.snap.index + x.log.length
 ·rw [if_pos hi]
  obtain ⟨k, hk⟩ : ∃ k : Nat, i = x.snap.index + (k : Int) := ⟨(i - x.snap.index).toNat, by omega⟩
  rw [hk, q_State_yes x k h (by omega), show (x.snap.index + (k : Int) - x.snap.index).toNat = k by omega]
  rfl
 ·rw [if_neg hi, q_State_no x i h (by omega)]; rfl
structure RightC (x : Co) : Prop where
 n : 1 ≤ x.n ∧ x.n ≤ 5
 id : 1 ≤ x.id ∧ x.id ≤ x.n
 role : x.role ≤ 2
 bin : 1 ≤ x.binary ∧ x.binary ≤ 2
 tup : Zad x.tuple = true
 st : stOf x.tuple x.commit = some x.applied
 lv : (x.votes.length : Int) = x.n
 ln : (x.next.length : Int) = x.n
 lm : (x.mtch.length : Int) = x.n
 lc : (x.caps.length : Int) = x.n
 next : InB x.next 1 (x.tuple.last + 1)
 mtch : InB x.mtch 0 x.tuple.last
 caps : InB x.caps 0 2
 own : x.caps[(x.id - 1).toNat]? = some x.binary
 lead : x.role = 0 ∨ (0 < x.tuple.term ∧ x.tuple.vote = x.id)
noncomputable def Jz (x : Co) : Bool := Zfl (RightC x)
structure BdC (x : Co) : Prop where
 tup : bdT x.tuple
 lv : x.votes.length ≤ 1000000
 ln : x.next.length ≤ 1000000
 lm : x.mtch.length ≤ 1000000
 lc : x.caps.length ≤ 1000000
theorem own_get (x : Co) (h1 : 1 ≤ x.n ∧ x.n ≤ 5) (h2 : 1 ≤ x.id ∧ x.id ≤ x.n) (h3 : (x.caps.length : Int) = x.n) : ∃ e, idx x.caps (IntKind.wrap .i64 (x.id - 1)) = some e ∧ x.caps[(x.id - 1).toNat]? = some e := by
 have hw : IntKind.wrap .i64 (x.id - 1) = (((x.id - 1).toNat : Nat) : Int) := by rw [Zb7 (by omega)]; omega
 obtain ⟨e, he, _⟩ := Xo (show (x.id - 1).toNat < x.caps.length by omega)
 exact ⟨e, by rw [hw, J5, he], he⟩
theorem last_bd {t : Tu} (h : bdT t) : -3000000000000 ≤ t.last ∧ t.last ≤ 3000000000000 := by
 obtain ⟨h1, h2, h3⟩ := h
 unfold Tu.last; omega
theorem Zci (x : Co) (h : BdC x) : Za1 x = some (Jz x) := by
 have hlb := last_bd h.tup
 have hw : IntKind.wrap .i64 (x.tuple.last + 1) = x.tuple.last + 1 := Zb7 (by omega)
 simp only [Za1, p_tLast x.tuple h.tup, p_within, q_Right x.tuple h.tup, q_State x.tuple x.commit h.tup, p_each x.next _ _ _ h.ln, p_each x.mtch _ _ _ h.lm, p_each x.caps _ _ _ h.lc, Option.bind_some, hw, snap_eq]
 unfold Jz
 by_cases c1 : 1 ≤ x.n ∧ x.n ≤ 5
 case neg => rw [Ya c1, Ya (p := RightC x) fun h => c1 h.n]; rfl
 by_cases c2 : 1 ≤ x.id ∧ x.id ≤ x.n
 case neg => rw [Y4 c1, Ya c2, Ya (p := RightC x) fun h => c2 h.id]; rfl
 by_cases c3 : x.role ≤ 2
 case neg => rw [Y4 c1, Y4 c2, decide_eq_false c3, Ya (p := RightC x) fun h => c3 h.role]; rfl
 by_cases c4 : 1 ≤ x.binary ∧ x.binary ≤ 2
 case neg => rw [Y4 c1, Y4 c2, decide_eq_true c3, Ya c4, Ya (p := RightC x) fun h => c4 h.bin]; rfl
 rw [Y4 c1, Y4 c2, decide_eq_true c3, Y4 c4]
 simp only [cond_true, Bool.not_true, cond_false]
 cases c5 : Zad x.tuple
 case false => rw [Ya (p := RightC x) fun h => by have h2 := h.tup; rw [c5] at h2; cases h2]; rfl
 simp only [cond_true, Bool.not_true, cond_false]
 cases c6 : stOf x.tuple x.commit with
 | none => rw [Ya (p := RightC x) fun h => by rw [h.st] at c6; cases c6]; rfl
 | some s =>
  simp only [Option.isSome_some, Option.getD_some, cond_true]
  by_cases c7 : s = x.applied
  case neg => rw [decide_eq_false c7, Ya (p := RightC x) fun h => c7 (by have := h.st; rw [c6] at this; exact QJ this)]; rfl
  rw [decide_eq_true c7]
  simp only [cond_true, Bool.not_true, cond_false]
  by_cases c8 : (x.votes.length : Int) = x.n
  case neg => rw [decide_eq_false c8, Ya (p := RightC x) fun h => c8 h.lv]; rfl
  by_cases c9 : (x.next.length : Int) = x.n ∧ InB x.next 1 (x.tuple.last + 1)
  case neg => rw [decide_eq_true c8, Ya c9, Ya (p := RightC x) fun h => c9 ⟨h.ln, h.next⟩]; rfl
  by_cases c10 : (x.mtch.length : Int) = x.n ∧ InB x.mtch 0 x.tuple.last
  case neg => rw [decide_eq_true c8, Y4 c9, Ya c10, Ya (p := RightC x) fun h => c10 ⟨h.lm, h.mtch⟩]; rfl
  by_cases c11 : (x.caps.length : Int) = x.n ∧ InB x.caps 0 2
  case neg => rw [decide_eq_true c8, Y4 c9, Y4 c10, Ya c11, Ya (p := RightC x) fun h => c11 ⟨h.lc, h.caps⟩]; rfl
  rw [decide_eq_true c8, Y4 c9, Y4 c10, Y4 c11]
  obtain ⟨e, he, he2⟩ := own_get x c1 c2 c11.1
  simp only [cond_true, Bool.not_true, cond_false, Option.bind_some, he]
  by_cases c12 : e = x.binary
  case neg => rw [decide_eq_false c12, Ya (p := RightC x) fun h => c12 (by have := h.own; rw [he2] at this; exact QJ this)]; rfl
  rw [decide_eq_true c12]
  simp only [cond_true, Bool.not_true, cond_false, Bool.cond_decide]
  subst c12
  subst c7
  by_cases c13 : x.role = 0
  ·rw [if_pos c13, Y4 (p := RightC x) ⟨c1, c2, c3, c4, c5, c6, c8, c9.1, c10.1, c11.1, c9.2, c10.2, c11.2, he2, .inl c13⟩]
  ·rw [if_neg c13]
   by_cases c14 : 0 < x.tuple.term
   ·rw [if_pos c14]
    by_cases c15 : x.tuple.vote = x.id
    ·rw [decide_eq_true c15, Y4 (p := RightC x) ⟨c1, c2, c3, c4, c5, c6, c8, c9.1, c10.1, c11.1, c9.2, c10.2, c11.2, he2, .inr ⟨c14, c15⟩⟩]; rfl
    ·rw [decide_eq_false c15, Ya (p := RightC x) fun h => by rcases h.lead with h | h; exact c13 h; exact c15 h.2]; rfl
   ·rw [if_neg c14, Ya (p := RightC x) fun h => by rcases h.lead with h | h; exact c13 h; exact c14 h.1]
theorem Zbp (x : Co) (h : BdC x) : Zax x = some x := by
 have h1 := h.tup.1
 have h2 := h.lv
 have h3 := h.ln
 have h4 := h.lm
 have h5 := h.lc
 simp only [Zax, p_Own12 _ h1, List.nil_append, Option.bind_some, Zb5 _ (show x.votes.length ≤ 1000000000 by omega), Zb5 _ (show x.next.length ≤ 1000000000 by omega), Zb5 _ (show x.mtch.length ≤ 1000000000 by omega), Zb5 _ (show x.caps.length ≤ 1000000000 by omega)]
theorem Ze0 (x : Co) (h : BdC x) : Zbb x = some x := by
 have h1 := h.tup.1
 have h2 := h.lv
 have h3 := h.ln
 have h4 := h.lm
 have h5 := h.lc
 simp only [Zbb, Zgo, Y9, Ja, Vb, Option.bind_some, Zb5 _ (show x.tuple.log.length ≤ 1000000000 by omega), Zb5 _ (show x.votes.length ≤ 1000000000 by omega), Zb5 _ (show x.next.length ≤ 1000000000 by omega), Zb5 _ (show x.mtch.length ≤ 1000000000 by omega), Zb5 _ (show x.caps.length ≤ 1000000000 by omega)]
theorem p_ints_l1 (a b : List Int) (hl : a.length ≤ 1000000) (hab : a.length = b.length) : ∀ (m k n : Nat) (v : Bool), m = a.length - k → k ≤ a.length → m < n → Zaq a b n v k = some (decide (a.drop k = b.drop k)) := by
 intro m
 induction m with
 | zero =>
  intro k n v hm hk hn
  obtain ⟨n, rfl⟩ : ∃ n', n = n' + 1 := ⟨n - 1, by omega⟩
  rw [Zaq, List.drop_eq_nil_of_le (by omega), List.drop_eq_nil_of_le (by omega)]
  simp only [Bool.cond_decide, if_neg (show ¬ ((k : Int) < (a.length : Int)) by omega)]
  rfl
 | succ m ih =>
  intro k n v hm hk hn
  obtain ⟨n, rfl⟩ : ∃ n', n = n' + 1 := ⟨n - 1, by omega⟩
  obtain ⟨e, he, hd⟩ := Xo (show k < a.length by omega)
  obtain ⟨f, hf, hd2⟩ := Xo (show k < b.length by omega)
  rw [Zaq, hd, hd2]
  simp only [Bool.cond_decide, if_pos (show ((k : Int) < (a.length : Int)) by omega), J5, he, hf, Option.bind_some]
  rw [Zb7 (by omega), show ((k : Int) + 1) = ((k + 1 : Nat) : Int) by omega, ih (k + 1) n v (by omega) (by omega) (by omega)]
  by_cases h : e = f
  ·subst h; rw [if_neg (fun h => h rfl)]; congr 1; rw [Bool.eq_iff_iff]; simp
  ·rw [if_pos h]; congr 1; rw [Bool.eq_iff_iff]; simp [h]
theorem p_ints (a b : List Int) (hl : a.length ≤ 1000000) : Zb1 a b = some (decide (a = b)) := by
 unfold Zb1
 by_cases h : a.length = b.length
 ·simp only [Bool.cond_decide, if_neg (show ¬ ((a.length : Int) ≠ (b.length : Int)) by omega)]
  have := p_ints_l1 a b hl h a.length 0 Xw false (by omega) (by omega) (by unfold Xw; omega)
  simpa using this
 ·simp only [Bool.cond_decide, if_pos (show ((a.length : Int) ≠ (b.length : Int)) by omega)]
  rw [decide_eq_false (fun h' => h (by rw [h']))]
theorem p_Same20_l1 (x y : Co) (h : BdC x) (hab : x.votes.length = y.votes.length) : ∀ (m k n : Nat) (v : Bool), m = x.votes.length - k → k ≤ x.votes.length → m < n → Zan x y n v k = some (decide (x.votes.drop k = y.votes.drop k ∧ x.next = y.next ∧ x.mtch = y.mtch ∧ x.caps = y.caps)) := by
 have hv := h.lv
 intro m
 induction m with
 | zero =>
  intro k n v hm hk hn
  obtain ⟨n, rfl⟩ : ∃ n', n = n' + 1 := ⟨n - 1, by omega⟩
  rw [Zan, List.drop_eq_nil_of_le (by omega), List.drop_eq_nil_of_le (by omega)]
  simp only [Bool.cond_decide, if_neg (show ¬ ((k : Int) < (x.votes.length : Int)) by omega), p_ints _ _ h.ln, p_ints _ _ h.lm, p_ints _ _ h.lc, Option.bind_some]
  (repeat' split) <;> (congr 1; rw [Bool.eq_iff_iff]; simp_all)
 | succ m ih =>
  intro k n v hm hk hn
  obtain ⟨n, rfl⟩ : ∃ n', n = n' + 1 := ⟨n - 1, by omega⟩
  obtain ⟨e, he, hd⟩ := Xo (show k < x.votes.length by omega)
  obtain ⟨f, hf, hd2⟩ := Xo (show k < y.votes.length by omega)
  rw [Zan, hd, hd2]
  simp only [Bool.cond_decide, if_pos (show ((k : Int) < (x.votes.length : Int)) by omega), J5, he, hf, Option.bind_some]
  rw [Zb7 (by omega), show ((k : Int) + 1) = ((k + 1 : Nat) : Int) by omega, ih (k + 1) n v (by omega) (by omega) (by omega)]
  by_cases h : e = f
  ·subst h; rw [if_neg (fun h => h rfl)]; congr 1; rw [Bool.eq_iff_iff]; simp
  ·rw [if_pos h]; congr 1; rw [Bool.eq_iff_iff]; simp [h]
theorem p_Same20 (x y : Co) (h : BdC x) : Zat x y = some (decide (x = y)) := by
 have hv := h.lv
 obtain ⟨a1, a2, a3, a4, a5, a6, a7, a8, a9, a10, a11⟩ := x
 obtain ⟨b1, b2, b3, b4, b5, b6, b7, b8, b9, b10, b11⟩ := y
 simp only [Zat, p_Same12 a5 b5 h.tup.1, snap_eq, Option.bind_some, Bool.cond_decide, Co.mk.injEq, Bool.cond_not]
 by_cases c1 : a1 = b1
 case neg => simp [c1]
 by_cases c2 : a2 = b2
 case neg => simp [c2]
 by_cases c3 : a3 = b3
 case neg => simp [c3]
 by_cases c4 : a4 = b4
 case neg => simp [c4]
 by_cases c5 : a5 = b5
 case neg => simp [c5]
 by_cases c6 : a6 = b6
 case neg => simp [c6]
 by_cases c7 : a7 = b7
 case neg => simp [c7]
 by_cases c8 : a8.length = b8.length
 case neg =>
  have : a8 ≠ b8 := fun h => c8 (by rw [h])
  simp [c8, this]
  intros; omega
 have := p_Same20_l1 ⟨a1, a2, a3, a4, a5, a6, a7, a8, a9, a10, a11⟩ ⟨b1, b2, b3, b4, b5, b6, b7, b8, b9, b10, b11⟩ h c8 a8.length 0 Xw false (by simp) (by omega) (by dsimp only at hv; unfold Xw; omega)
 dsimp only at this
 rw [show ((0 : Nat) : Int) = 0 from rfl] at this
 rw [this]
 subst c1; subst c2; subst c3; subst c4; subst c5; subst c6; subst c7
 simp [c8]
theorem p_Great_no (x : Co) (h : Zbk x = some false) : BdC x ∧ x.votes.length ≤ 9 ∧ x.next.length ≤ 9 ∧ x.mtch.length ≤ 9 ∧ x.caps.length ≤ 9 ∧ x.tuple.log.length ≤ 250 := by
 unfold Zbk Zdp at h
 simp only [Option.bind_some, Bool.cond_decide] at h
 repeat' split at h
 all_goals first | (cases h; done) | skip
 simp only [Option.some.injEq, decide_eq_false_iff_not] at h
 refine ⟨⟨⟨by omega, by omega, by omega⟩, by omega, by omega, by omega, by omega⟩, by omega, by omega, by omega, by omega, by omega⟩
theorem p_Great_some (x : Co) : ∃ b, Zbk x = some b := by
 unfold Zbk Zdp
 simp only [Option.bind_some, Bool.cond_decide]
 repeat' split
 all_goals exact ⟨_, rfl⟩
theorem RightC.bd {x : Co} (h : RightC x) : BdC x := by
 have h1 := tupB_bd _ h.tup
 have := h.n
 have := h.lv
 have := h.ln
 have := h.lm
 have := h.lc
 exact ⟨⟨by omega, h1.1, by omega⟩, by omega, by omega, by omega, by omega⟩
theorem p_State12' (x : Tu) (i : Int) (h : bdT x) : Zck x i = some ((stOf x i).getD ⟨0, 0, 0, 0, false⟩, (stOf x i).isSome) := by rw [p_State12 x i h, q_State x i h]
theorem p_Right20_l1 (x : Co) (hn : 1 ≤ x.n ∧ x.n ≤ 5) (hi : 1 ≤ x.id ∧ x.id ≤ x.n) (h2 : (x.next.length : Int) = x.n) (h3 : (x.mtch.length : Int) = x.n) (h4 : (x.caps.length : Int) = x.n) (hb : bdT x.tuple) : ∀ (m k n : Nat) (b : Bool), m = x.caps.length - k → k ≤ x.caps.length → m < n →
  J3 x x.tuple.last n b k = some (Zfl (InB (x.next.drop k) 1 (x.tuple.last + 1) ∧ InB (x.mtch.drop k) 0 x.tuple.last ∧ InB (x.caps.drop k) 0 2 ∧ x.caps[(x.id - 1).toNat]? = some x.binary ∧ (x.role = 0 ∨ (0 < x.tuple.term ∧ x.tuple.vote = x.id)))) := by
 have hlb := last_bd hb
 have hw : IntKind.wrap .i64 (x.tuple.last + 1) = x.tuple.last + 1 := Zb7 (by omega)
 obtain ⟨e0, he0, he1⟩ := own_get x hn hi h4
 intro m
 induction m with
 | zero =>
  intro k n b hm hk hn'
  obtain ⟨n, rfl⟩ : ∃ n', n = n' + 1 := ⟨n - 1, by omega⟩
  rw [J3, List.drop_eq_nil_of_le (by omega), List.drop_eq_nil_of_le (by omega), List.drop_eq_nil_of_le (by omega)]
  simp only [Bool.cond_decide, if_neg (show ¬ ((k : Int) < x.n) by omega), he0, he1, Option.bind_some, Option.some.injEq]
  by_cases c1 : x.role = 0
  ·rw [if_neg (fun h => h c1), Zch]; congr 1; exact X5 ⟨fun h => ⟨Zf2, Zf2, Zf2, h, .inl c1⟩, fun h => h.2.2.2.1⟩
  ·rw [if_pos c1]
   by_cases c2 : x.tuple.term < 1
   ·rw [if_pos c2, Ya]; rintro ⟨_, _, _, _, h | h⟩; exact c1 h; omega
   ·rw [if_neg c2]
    by_cases c3 : x.tuple.vote = x.id
    ·rw [if_neg (fun h => h c3), Zch]; congr 1; exact X5 ⟨fun h => ⟨Zf2, Zf2, Zf2, h, .inr ⟨by omega, c3⟩⟩, fun h => h.2.2.2.1⟩
    ·rw [if_pos c3, Ya]; rintro ⟨_, _, _, _, h | h⟩; exact c1 h; exact c3 h.2
 | succ m ih =>
  intro k n b hm hk hn'
  obtain ⟨n, rfl⟩ : ∃ n', n = n' + 1 := ⟨n - 1, by omega⟩
  obtain ⟨e, he, hd⟩ := Xo (show k < x.next.length by omega)
  obtain ⟨f, hf, hd2⟩ := Xo (show k < x.mtch.length by omega)
  obtain ⟨g, hg, hd3⟩ := Xo (show k < x.caps.length by omega)
  rw [J3, hd, hd2, hd3]
  simp only [Bool.cond_decide, if_pos (show ((k : Int) < x.n) by omega), J5, he, hf, hg, Option.bind_some, hw]
  rw [Zb7 (n := (k : Int) + 1) (by omega), show ((k : Int) + 1) = ((k + 1 : Nat) : Int) by omega, ih (k + 1) n b (by omega) (by omega) (by omega)]
  by_cases c1 : e < 1
  ·rw [if_pos c1, Ya]; rintro ⟨h, _⟩; have := (InB_cons.1 h).1; omega
  rw [if_neg c1]
  by_cases c2 : x.tuple.last + 1 < e
  ·rw [if_pos c2, Ya]; rintro ⟨h, _⟩; have := (InB_cons.1 h).1; omega
  rw [if_neg c2]
  by_cases c3 : f < 0
  ·rw [if_pos c3, Ya]; rintro ⟨_, h, _⟩; have := (InB_cons.1 h).1; omega
  rw [if_neg c3]
  by_cases c4 : x.tuple.last < f
  ·rw [if_pos c4, Ya]; rintro ⟨_, h, _⟩; have := (InB_cons.1 h).1; omega
  rw [if_neg c4]
  by_cases c5 : g < 0
  ·rw [if_pos c5, Ya]; rintro ⟨_, _, h, _⟩; have := (InB_cons.1 h).1; omega
  rw [if_neg c5]
  by_cases c6 : 2 < g
  ·rw [if_pos c6, Ya]; rintro ⟨_, _, h, _⟩; have := (InB_cons.1 h).1; omega
  rw [if_neg c6]
  congr 1
  exact X5 ⟨fun h => ⟨InB_cons.2 ⟨by omega, h.1⟩, InB_cons.2 ⟨by omega, h.2.1⟩, InB_cons.2 ⟨by omega, h.2.2.1⟩, h.2.2.2⟩, fun h => ⟨(InB_cons.1 h.1).2, (InB_cons.1 h.2.1).2, (InB_cons.1 h.2.2.1).2, h.2.2.2⟩⟩
theorem Zbu (x : Co) (h : BdC x) : J9 x = some (Jz x) := by
 simp only [J9, p_Right12, p_State12' x.tuple x.commit h.tup, p_Last12 x.tuple h.tup, Option.bind_some, snap_eq, Bool.cond_decide]
 unfold Jz
 by_cases c1 : x.n < 1
 ·rw [if_pos c1, Ya (p := RightC x) fun h => by have := h.n; omega]
 rw [if_neg c1]
 by_cases c2 : 5 < x.n
 ·rw [if_pos c2, Ya (p := RightC x) fun h => by have := h.n; omega]
 rw [if_neg c2]
 by_cases c3 : x.id < 1
 ·rw [if_pos c3, Ya (p := RightC x) fun h => by have := h.id; omega]
 rw [if_neg c3]
 by_cases c4 : x.n < x.id
 ·rw [if_pos c4, Ya (p := RightC x) fun h => by have := h.id; omega]
 rw [if_neg c4]
 by_cases c5 : 2 < x.role
 ·rw [if_pos c5, Ya (p := RightC x) fun h => by have := h.role; omega]
 rw [if_neg c5]
 by_cases c6 : x.binary < 1
 ·rw [if_pos c6, Ya (p := RightC x) fun h => by have := h.bin; omega]
 rw [if_neg c6]
 by_cases c7 : 2 < x.binary
 ·rw [if_pos c7, Ya (p := RightC x) fun h => by have := h.bin; omega]
 rw [if_neg c7]
 cases c8 : Zad x.tuple with
 | false => rw [Ya (p := RightC x) fun h => by have h2 := h.tup; rw [c8] at h2; cases h2]; rfl
 | true =>
  simp only [Bool.not_true, cond_false]
  cases c9 : stOf x.tuple x.commit with
  | none => rw [Ya (p := RightC x) fun h => by rw [h.st] at c9; cases c9]; rfl
  | some s =>
   simp only [Option.isSome_some, Option.getD_some, Bool.not_true, cond_false]
   by_cases d1 : s = x.applied
   case neg => rw [decide_eq_false d1, Ya (p := RightC x) fun h => d1 (by have := h.st; rw [c9] at this; exact QJ this)]; rfl
   rw [decide_eq_true d1]
   simp only [Bool.not_true, cond_false]
   by_cases d2 : (x.votes.length : Int) = x.n
   case neg => rw [if_pos d2, Ya (p := RightC x) fun h => d2 h.lv]
   rw [if_neg (fun h => h d2)]
   by_cases d3 : (x.next.length : Int) = x.n
   case neg => rw [if_pos d3, Ya (p := RightC x) fun h => d3 h.ln]
   rw [if_neg (fun h => h d3)]
   by_cases d4 : (x.mtch.length : Int) = x.n
   case neg => rw [if_pos d4, Ya (p := RightC x) fun h => d4 h.lm]
   rw [if_neg (fun h => h d4)]
   by_cases d5 : (x.caps.length : Int) = x.n
   case neg => rw [if_pos d5, Ya (p := RightC x) fun h => d5 h.lc]
   rw [if_neg (fun h => h d5)]
   have := p_Right20_l1 x (by omega) (by omega) d3 d4 d5 h.tup x.caps.length 0 Xw false (by omega) (by omega) (by have := h.lc; unfold Xw; omega)
   rw [show ((0 : Nat) : Int) = 0 from rfl] at this
   rw [this]
   simp only [List.drop_zero]
   congr 1
   subst d1
   exact X5 ⟨fun h => ⟨by omega, by omega, by omega, by omega, c8, c9, d2, d3, d4, d5, h.1, h.2.1, h.2.2.1, h.2.2.2.1, h.2.2.2.2⟩, fun h => ⟨h.next, h.mtch, h.caps, h.own, h.lead⟩⟩
end
section
open Go Go.RowKit
set_option maxRecDepth 100000
theorem p_eNumber (x : Int) : X4 x = some (numB x) := by
 unfold X4 numB
 by_cases h : 0 ≤ x <;> simp [h]
theorem p_eFine (x : St) : Zaa x = some (Zbn x) := by
 obtain ⟨i, t, s, l, f⟩ := x
 simp only [Zaa, Ze3, p_eNumber, Option.bind_some, Zbn, firstS, numB, St.mk.injEq, Bool.cond_not, Bool.cond_decide]
 cases f <;> (repeat' split) <;> simp_all <;> omega
def entB (last term : Int) : List En → Prop
 | [] => True
 | e :: l => Jl e = true ∧ (last ≤ e.term ∧ e.term ≤ term) ∧ entB e.term term l
structure FineM (m : Ms) (n : Int) : Prop where
 many : 1 ≤ n ∧ n ≤ 5
 frm : 1 ≤ m.frm ∧ m.frm ≤ n
 dst : 1 ≤ m.dst ∧ m.dst ≤ n
 ne : m.frm ≠ m.dst
 kind : 1 ≤ m.kind ∧ m.kind ≤ 5
 term : 1 ≤ m.term ∧ m.term ≤ 1073741824
 cap : 1 ≤ m.cap ∧ m.cap ≤ 2
 last : 0 ≤ m.last ∧ m.last ≤ 1073741824
 lastTerm : 0 ≤ m.lastTerm ∧ m.lastTerm ≤ 1073741824
 commit : 0 ≤ m.commit ∧ m.commit ≤ 1073741824
 ents : entB m.lastTerm m.term m.entries
 few : m.entries.length ≤ 4
 app : m.kind ≠ 3 → m.entries.length = 0 ∧ m.commit = 0
 okk : m.okk = true → m.kind = 2 ∨ m.kind = 4
 snap : m.kind = 5 → 0 < m.snap.index ∧ Zbn m.snap = true
 nosnap : m.kind ≠ 5 → m.snap = ⟨0, 0, 0, 0, false⟩
noncomputable def fineM (m : Ms) (n : Int) : Bool := Zfl (FineM m n)
structure BdM (m : Ms) : Prop where
 kind : 0 ≤ m.kind ∧ m.kind ≤ 255
 ents : m.entries.length ≤ 1000000
theorem p_entries_l1 (x : Ms) (h : x.entries.length ≤ 1000000) : ∀ (m k n : Nat) (v : Bool) (last : Int), m = x.entries.length - k → k ≤ x.entries.length → m < n → J0 x n v last k = some (Zfl (entB last x.term (x.entries.drop k) ∧ x.entries.length ≤ 4)) := by
 intro m
 induction m with
 | zero =>
  intro k n v last hm hk hn
  obtain ⟨n, rfl⟩ : ∃ n', n = n' + 1 := ⟨n - 1, by omega⟩
  rw [J0, List.drop_eq_nil_of_le (by omega)]
  simp only [Bool.cond_decide, if_neg (show ¬ ((k : Int) < (x.entries.length : Int)) by omega)]
  rw [Zch]; congr 1
  exact X5 ⟨fun h => ⟨trivial, by omega⟩, fun h => by have := h.2; omega⟩
 | succ m ih =>
  intro k n v last hm hk hn
  obtain ⟨n, rfl⟩ : ∃ n', n = n' + 1 := ⟨n - 1, by omega⟩
  obtain ⟨e, he, hd⟩ := Xo (show k < x.entries.length by omega)
  rw [J0, hd]
  simp only [Bool.cond_decide, if_pos (show ((k : Int) < (x.entries.length : Int)) by omega), J5, he, Option.bind_some, p_eRight, p_within]
  rw [Zb7 (by omega), show ((k : Int) + 1) = ((k + 1 : Nat) : Int) by omega, ih (k + 1) n v e.term (by omega) (by omega) (by omega)]
  cases c1 : Jl e with
  | false => rw [Ya (p := entB last x.term (e :: x.entries.drop (k + 1)) ∧ x.entries.length ≤ 4) fun h => by have h2 := h.1.1; rw [c1] at h2; cases h2]; rfl
  | true =>
   by_cases c2 : last ≤ e.term ∧ e.term ≤ x.term
   ·rw [Y4 c2]; show some _ = some _; congr 1
    exact X5 ⟨fun h => ⟨⟨c1, c2, h.1⟩, h.2⟩, fun h => ⟨h.1.2.2, h.2⟩⟩
   ·rw [Ya c2, Ya (p := entB last x.term (e :: x.entries.drop (k + 1)) ∧ x.entries.length ≤ 4) fun h => c2 h.1.2.1]; rfl
theorem p_entries (x : Ms) (h : x.entries.length ≤ 1000000) : Zdo x = some (Zfl (entB x.lastTerm x.term x.entries ∧ x.entries.length ≤ 4)) := by
 have := p_entries_l1 x h x.entries.length 0 Xw false x.lastTerm (by omega) (by omega) (by unfold Xw; omega)
 unfold Zdo
 simpa using this
theorem st_zero (s : St) : (decide (s.index = 0) && (decide (s.term = 0) && (decide (s.sum = 0) && (decide (s.level = 0) && decide (s.final = false))))) = decide (s = ⟨0, 0, 0, 0, false⟩) := by
 obtain ⟨a1, a2, a3, a4, a5⟩ := s
 rw [Bool.eq_iff_iff]; simp
theorem p_mFine (m : Ms) (n : Int) (h : BdM m) : Zes m n = some (fineM m n) := by
 have hw : IntKind.wrap .i64 m.kind = m.kind := Zb7 (by have := h.kind; omega)
 simp only [Zes, p_within, p_each [m.frm, m.dst] _ _ _ (by simp), p_each [m.last, m.lastTerm, m.commit] _ _ _ (by simp), p_entries m h.ents, p_eFine, Option.bind_some, hw, st_zero]
 unfold fineM
 by_cases c1 : 1 ≤ n ∧ n ≤ 5
 case neg => rw [Ya c1, Ya (p := FineM m n) fun h => c1 h.many]; rfl
 rw [Y4 c1]
 by_cases c2 : (([m.frm, m.dst].length : Nat) : Int) = 2 ∧ InB [m.frm, m.dst] 1 n
 case neg => rw [Ya c2, Ya (p := FineM m n) fun h => c2 ⟨rfl, InB_cons.2 ⟨h.frm, InB_cons.2 ⟨h.dst, Zf2⟩⟩⟩]; rfl
 rw [Y4 c2]
 have c21 := (InB_cons.1 c2.2).1
 have c22 := (InB_cons.1 (InB_cons.1 c2.2).2).1
 by_cases c3 : m.frm = m.dst
 case pos => rw [decide_eq_true c3, Ya (p := FineM m n) fun h => h.ne c3]; rfl
 rw [decide_eq_false c3]
 by_cases c4 : 1 ≤ m.kind ∧ m.kind ≤ 5
 case neg => rw [Ya c4, Ya (p := FineM m n) fun h => c4 h.kind]; rfl
 rw [Y4 c4]
 by_cases c5 : 1 ≤ m.term ∧ m.term ≤ 1073741824
 case neg => rw [Ya c5, Ya (p := FineM m n) fun h => c5 h.term]; rfl
 rw [Y4 c5]
 by_cases c6 : 1 ≤ m.cap ∧ m.cap ≤ 2
 case neg => rw [Ya c6, Ya (p := FineM m n) fun h => c6 h.cap]; rfl
 rw [Y4 c6]
 by_cases c7 : (([m.last, m.lastTerm, m.commit].length : Nat) : Int) = 3 ∧ InB [m.last, m.lastTerm, m.commit] 0 1073741824
 case neg => rw [Ya c7, Ya (p := FineM m n) fun h => c7 ⟨rfl, InB_cons.2 ⟨h.last, InB_cons.2 ⟨h.lastTerm, InB_cons.2 ⟨h.commit, Zf2⟩⟩⟩⟩]; rfl
 rw [Y4 c7]
 have c71 := (InB_cons.1 c7.2).1
 have c72 := (InB_cons.1 (InB_cons.1 c7.2).2).1
 have c73 := (InB_cons.1 (InB_cons.1 (InB_cons.1 c7.2).2).2).1
 by_cases c8 : entB m.lastTerm m.term m.entries ∧ m.entries.length ≤ 4
 case neg => rw [Ya c8, Ya (p := FineM m n) fun h => c8 ⟨h.ents, h.few⟩]; rfl
 rw [Y4 c8]
 have yes : ∀ (d1 : m.kind ≠ 3 → m.entries.length = 0 ∧ m.commit = 0) (d2 : m.okk = true → m.kind = 2 ∨ m.kind = 4), (if m.kind = 5 then (if 0 < m.snap.index then some (Zbn m.snap) else some false) else some (decide (m.snap = ⟨0, 0, 0, 0, false⟩))) = some (Zfl (FineM m n)) := by
  intro d1 d2
  by_cases e1 : m.kind = 5
  ·rw [if_pos e1]
   by_cases e2 : 0 < m.snap.index
   ·rw [if_pos e2]
    cases e3 : Zbn m.snap with
    | true => rw [Y4 (p := FineM m n) ⟨c1, c21, c22, c3, c4, c5, c6, c71, c72, c73, c8.1, c8.2, d1, d2, fun _ => ⟨e2, e3⟩, fun h => (h e1).elim⟩]
    | false => rw [Ya (p := FineM m n) fun h => by have h2 := (h.snap e1).2; rw [e3] at h2; cases h2]
   ·rw [if_neg e2, Ya (p := FineM m n) fun h => e2 (h.snap e1).1]
  ·rw [if_neg e1, Zch]
   congr 1
   exact X5 ⟨fun e2 => ⟨c1, c21, c22, c3, c4, c5, c6, c71, c72, c73, c8.1, c8.2, d1, d2, fun h => (e1 h).elim, fun _ => e2⟩, fun h => h.nosnap e1⟩
 simp only [Bool.not_true, cond_false, Bool.cond_decide]
 by_cases d1 : m.kind = 3
 ·rw [if_neg (fun h => h d1)]
  cases d2 : m.okk with
  | false => exact yes (fun h => (h d1).elim) (fun h => by rw [d2] at h; cases h)
  | true =>
   rw [if_pos (by omega), if_pos (by omega), Ya (p := FineM m n) fun h => by have := h.okk d2; omega]; rfl
 ·rw [if_pos d1]
  by_cases d3 : (0 : Int) < (m.entries.length : Int)
  ·rw [if_pos d3, Ya (p := FineM m n) fun h => by have := (h.app d1).1; omega]
  rw [if_neg d3]
  by_cases d4 : 0 < m.commit
  ·rw [if_pos d4, Ya (p := FineM m n) fun h => by have := (h.app d1).2; omega]
  rw [if_neg d4]
  have d5 : m.kind ≠ 3 → m.entries.length = 0 ∧ m.commit = 0 := fun _ => ⟨by omega, by omega⟩
  cases d2 : m.okk with
  | false => exact yes d5 (fun h => by rw [d2] at h; cases h)
  | true =>
   show (if m.kind ≠ 2 then _ else _) = _
   by_cases d6 : m.kind = 2
   ·rw [if_neg (fun h => h d6)]; exact yes d5 (fun _ => .inl d6)
   ·rw [if_pos d6]
    by_cases d7 : m.kind = 4
    ·rw [if_neg (fun h => h d7)]; exact yes d5 (fun _ => .inr d7)
    ·rw [if_pos d7, Ya (p := FineM m n) fun h => by have := h.okk d2; omega]
end
section
open Go Go.RowKit
set_option maxRecDepth 100000
def ToC (x : Co) (m : Ms) : Prop := m.dst = x.id ∧ RightC x ∧ FineM m x.n
theorem p_To (x : Co) (m : Ms) (hx : BdC x) (hm : BdM m) : Zfc x m = some (Zfl (ToC x m)) := by
 simp only [Zfc, Zci x hx, p_mFine m x.n hm, Option.bind_some, Bool.cond_decide]
 by_cases c1 : m.dst = x.id
 case neg => rw [if_pos c1, Ya fun h => c1 h.1]
 rw [if_neg (fun h => h c1)]
 unfold Jz fineM
 by_cases c2 : RightC x
 case neg => rw [Ya c2, Ya (p := ToC x m) fun h => c2 h.2.1]; rfl
 rw [Y4 c2]
 show some _ = some _
 congr 1
 exact X5 ⟨fun h => ⟨c1, c2, h⟩, fun h => h.2.2⟩
open Classical in
noncomputable def hearC (x : Co) (m : Ms) : Co := if ToC x m then { x with caps := x.caps.set (m.frm - 1).toNat m.cap } else x
theorem idx_in {α : Type} (l : List α) (i : Int) (h : 1 ≤ i ∧ i ≤ (l.length : Int)) (hl : l.length ≤ 1000000) : ∃ e, idx l (i - 1) = some e ∧ l[(i - 1).toNat]? = some e ∧ IntKind.wrap .i64 (i - 1) = i - 1 := by
 have hw : i - 1 = (((i - 1).toNat : Nat) : Int) := by omega
 obtain ⟨e, he, _⟩ := Xo (show (i - 1).toNat < l.length by omega)
 exact ⟨e, by rw [hw, J5]; exact he, he, Zb7 (by omega)⟩
theorem p_Hear (x : Co) (m : Ms) (hx : BdC x) (hm : BdM m) : Zdw x m = some (hearC x m) := by
 simp only [Zdw, p_To x m hx hm, Ze0 x hx, Zci x hx, Option.bind_some]
 unfold hearC
 by_cases c1 : ToC x m
 ·rw [Y4 c1, if_pos c1]
  unfold Jz
  rw [Y4 c1.2.1]
  obtain ⟨e, he, _, hw⟩ := idx_in x.caps m.frm (by have := c1.2.2.frm; have := c1.2.1.lc; omega) hx.lc
  simp only [cond_true, he, Option.bind_some, hw]
  rfl
 ·rw [Ya c1, if_neg c1]; rfl
theorem hear_right (x : Co) (m : Ms) (h : RightC x) : RightC (hearC x m) := by
 unfold hearC
 split
 ·rename_i c
  have hf := c.2.2
  refine ⟨h.n, h.id, h.role, h.bin, h.tup, h.st, h.lv, h.ln, h.lm, ?_, h.next, h.mtch, InB.set h.caps (by have := hf.cap; omega), ?_, h.lead⟩
  ·dsimp only; rw [List.length_set]; exact h.lc
  ·dsimp only
   rw [List.getElem?_set_ne]
   ·exact h.own
   ·have h1 := hf.ne; have h2 := c.1; have h3 := hf.frm; have h4 := h.id; omega
 ·exact h
end
section
open Go Go.RowKit
set_option maxRecDepth 100000
theorem q_Append (x : Tu) (l : List En) (h : x.log.length ≤ 1000000 ∧ l.length ≤ 300) : Zc5 x l = some (Zc6 x (some { x with log := x.log ++ l }), chgE x (some { x with log := x.log ++ l })) := by unfold Zc5; rw [decide_eq_true h]; rfl
theorem p_tTermAt (x : Tu) (i : Int) (h : bdT x) : Zcx x i = some ((termAt x i).getD 0, (termAt x i).isSome) := by
 obtain ⟨h1, h2, h3⟩ := h
 unfold Zcx m_tuple_At termAt
 rw [p_tLast x ⟨h1, h2, h3⟩]
 unfold Tu.last
 simp only [Option.bind_some, Bool.cond_decide]
 by_cases hi : i = x.snap.index
 ·rw [if_pos hi, if_pos hi]; rfl
 ·rw [if_neg hi, if_neg hi]
  by_cases h4 : i ≤ x.snap.index
  ·rw [if_pos h4, if_neg (by omega)]; rfl
  ·rw [if_neg h4]
   by_cases h5 : x.snap.index + (x.log.length : Int) < i
   ·rw [if_pos h5, if_neg (by omega)]; rfl
   ·rw [if_neg h5, if_pos (by omega)]
    obtain ⟨k, hk⟩ : ∃ k : Nat, i = x.snap.index + 1 + k := ⟨(i - x.snap.index - 1).toNat, by omega⟩
    have e1 : IntKind.wrap .i64 (i - x.snap.index) = i - x.snap.index := Zb7 (by omega)
    have e2 : IntKind.wrap .i64 (i - x.snap.index - 1) = (k : Int) := by rw [Zb7 (by omega)]; omega
    have e3 : (i - x.snap.index - 1).toNat = k := by omega
    rw [e1, e2, e3, J5]
    obtain ⟨e, he, _⟩ := Xo (show k < x.log.length by omega)
    rw [he]; rfl
theorem p_TermAt12 (x : Tu) (i : Int) (h : bdT x) : Zem x i = some ((termAt x i).getD 0, (termAt x i).isSome) := p_tTermAt x i h
theorem chg_eq (x : Tu) (res : Option Tu) : (Zc6 x res, chgE x res) = if Zad x = true then (match res with | some y => if Zad y = true then (y, (0 : Int)) else (x, 2) | none => (x, 2)) else (x, 2) := by
 unfold Zc6 chgE
 by_cases hT : Zad x = true
 ·rw [if_pos hT]
  cases res with
  | none =>
   have : Zc0 x none = none := by unfold Zc0; rw [if_pos hT]
   rw [this]
  | some y =>
   by_cases hy : Zad y = true
   ·have : Zc0 x (some y) = some y := by unfold Zc0; rw [if_pos hT]; exact if_pos hy
    rw [this]; dsimp only; rw [if_pos hy]
   ·have : Zc0 x (some y) = none := by unfold Zc0; rw [if_pos hT]; exact if_neg hy
    rw [this]; dsimp only; rw [if_neg hy]
 ·have : Zc0 x res = none := if_neg hT
  rw [this, if_neg hT]
theorem chg_none (x : Tu) : (Zc6 x none, chgE x none) = (x, (2 : Int)) := by
 rw [chg_eq]; split <;> rfl
theorem Zgf (x y : Tu) : (Zc6 x (some y), chgE x (some y)) = if Zad x = true then (if Zad y = true then (y, (0 : Int)) else (x, 2)) else (x, 2) := by rw [chg_eq]
theorem commit_bd {x : Co} (h : RightC x) : x.tuple.snap.index ≤ x.commit ∧ x.commit ≤ x.tuple.last := by
 have := h.st
 unfold stOf at this
 split at this
 ·assumption
 ·cases this
theorem InB.mono {l : List Int} {a b c d : Int} (h : InB l a b) (h1 : c ≤ a) (h2 : b ≤ d) : InB l c d := fun x hx => by have := h x hx; omega
theorem add_tup (x : Co) (e : En) (h : RightC x) (he : Jl e = true) (ht : e.term = x.tuple.term) (hl : x.tuple.log.length < 200) : Zad { x.tuple with log := x.tuple.log ++ [e] } = true := by
 obtain ⟨h1, h2, h3, h4⟩ := (Zcs _).1 h.tup
 refine (Zcs _).2 ⟨h1, ?_, ?_, ?_⟩
 ·dsimp only; rw [List.length_append]; simp only [List.length_cons, List.length_nil]; exact ⟨h2.1, by omega, h2.2.2⟩
 ·dsimp only; rw [logB_snoc, h3, he, decide_eq_true (by omega)]; rfl
 ·dsimp only; rw [lastT_snoc]; omega
end
section
open Go Go.RowKit
set_option maxRecDepth 100000
theorem q_Hard (x : Tu) (t v : Int) (h : x.log.length ≤ 1000000) : Jg x t v = some (Zc6 x (Zfq x t v), chgE x (Zfq x t v)) := by unfold Jg; rw [decide_eq_true h]; rfl
theorem p_fits (x : Co) (m : Ms) (hx : BdC x) (hm : BdM m) : Zb2 x m = some (Zfl (ToC x m)) := by
 simp only [Zb2, Zci x hx, p_mFine m x.n hm, Option.bind_some, Bool.cond_decide]
 by_cases c1 : m.dst = x.id
 case neg => rw [if_neg c1, Ya fun h => c1 h.1]
 rw [if_pos c1]
 unfold Jz fineM
 by_cases c2 : FineM m x.n
 case neg => rw [Ya c2, Ya (p := ToC x m) fun h => c2 h.2.2]; rfl
 rw [Y4 c2]
 show some _ = some _
 congr 1
 exact X5 ⟨fun h => ⟨c1, h, c2⟩, fun h => h.2.1⟩
theorem Zgg (x : Tu) (t v : Int) (hx : Zad x = true) (h : x.term < t ∨ t = x.term ∧ (x.vote = 0 ∨ x.vote = v)) (ht : t ≤ 1073741824) (hv : 0 ≤ v ∧ v ≤ 5) : Zad { x with term := t, vote := v } = true ∧ Jg x t v = some ({ x with term := t, vote := v }, 0) := by
 obtain ⟨g1, g2, g3, g4⟩ := (Zcs x).1 hx
 have hT : Zad { x with term := t, vote := v } = true := (Zcs _).2 ⟨g1, ⟨g2.1, g2.2.1, hv.1, hv.2, ht⟩, g3, by dsimp only; omega⟩
 refine ⟨hT, ?_⟩
 rw [q_Hard x t v (by omega)]
 have hr : Zfq x t v = some { x with term := t, vote := v } := by unfold Zfq; rw [if_pos h]
 have := chg_yes x _ _ hx hr hT
 rw [this.1, this.2]
theorem hear_no (x : Co) (m : Ms) (h : ¬ ToC x m) : hearC x m = x := by unfold hearC; rw [if_neg h]
theorem hear_eq (x : Co) (m : Ms) (h : ToC x m) : hearC x m = { x with caps := x.caps.set (m.frm - 1).toNat m.cap } := by unfold hearC; rw [if_pos h]
open Classical in
noncomputable def Xb (x : Co) (m : Ms) : Co := if ToC x m ∧ x.tuple.term < m.term then { x with caps := x.caps.set (m.frm - 1).toNat m.cap, tuple := { x.tuple with term := m.term, vote := 0 }, role := 0, votes := List.replicate x.n.toNat false } else hearC x m
theorem p_Meet (x : Co) (m : Ms) (hx : BdC x) (hm : BdM m) : Zb6 x m = some (Xb x m) := by
 simp only [Zb6, Ze0 x hx, p_fits x m hx hm, p_Hear x m hx hm, Option.bind_some, Bool.cond_decide]
 unfold Xb
 by_cases c1 : ToC x m
 case neg => rw [Ya c1, if_neg (show ¬ (ToC x m ∧ x.tuple.term < m.term) from fun h => c1 h.1), hear_no x m c1]; rfl
 rw [Y4 c1]
 simp only [Bool.not_true, cond_false]
 rw [hear_eq x m c1]
 by_cases c2 : x.tuple.term < m.term
 ·rw [if_pos (show ToC x m ∧ x.tuple.term < m.term from ⟨c1, c2⟩), if_pos (show x.tuple.term < m.term from c2)]
  have hH := (Zgg x.tuple m.term 0 c1.2.1.tup (.inl c2) c1.2.2.term.2 (by omega)).2
  have hn := c1.2.1.n
  obtain ⟨N, hN⟩ : ∃ N : Nat, x.n = (N : Int) := ⟨x.n.toNat, by omega⟩
  have hk : makeI false x.n = some (List.replicate x.n.toNat false) := by rw [hN, makeI_nat _ N (by omega), Int.toNat_natCast]
  simp only [hH, hk, Option.bind_some]
 ·rw [if_neg (show ¬ (ToC x m ∧ x.tuple.term < m.term) from fun h => c2 h.2), if_neg (show ¬ x.tuple.term < m.term from c2)]
theorem Zex (x : Co) (m : Ms) (h : RightC x) : RightC (Xb x m) := by
 unfold Xb
 split
 ·rename_i c
  have hh := hear_right x m h
  rw [hear_eq x m c.1] at hh
  have hn := h.n
  refine ⟨h.n, h.id, by show (0 : Int) ≤ 2; decide, h.bin, (Zgg x.tuple m.term 0 h.tup (.inl c.2) c.1.2.2.term.2 (by omega)).1, h.st, ?_, h.ln, h.lm, hh.lc, h.next, h.mtch, hh.caps, hh.own, .inl rfl⟩
  dsimp only; rw [List.length_replicate]; omega
 ·exact hear_right x m h
structure MeetF (x y : Co) : Prop where
 id : y.id = x.id
 n : y.n = x.n
 binary : y.binary = x.binary
 commit : y.commit = x.commit
 applied : y.applied = x.applied
 next : y.next = x.next
 mtch : y.mtch = x.mtch
 snap : y.tuple.snap = x.tuple.snap
 log : y.tuple.log = x.tuple.log
 term : x.tuple.term ≤ y.tuple.term
theorem meet_f (x : Co) (m : Ms) : MeetF x (Xb x m) := by
 unfold Xb
 split
 ·rename_i c
  exact ⟨rfl, rfl, rfl, rfl, rfl, rfl, rfl, rfl, rfl, by dsimp only; omega⟩
 ·by_cases c : ToC x m
  ·rw [hear_eq x m c]; exact ⟨rfl, rfl, rfl, rfl, rfl, rfl, rfl, rfl, rfl, Int.le_refl _⟩
  ·rw [hear_no x m c]; exact ⟨rfl, rfl, rfl, rfl, rfl, rfl, rfl, rfl, rfl, Int.le_refl _⟩
theorem MeetF.last {x y : Co} (h : MeetF x y) : y.tuple.last = x.tuple.last := by unfold Tu.last; rw [h.snap, h.log]
def Zg6 (f : Int → Int) (k : Nat) (l : List Int) : List Int := (l.take k).map f ++ l.drop k
theorem mapTo_get (f : Int → Int) (l : List Int) (k : Nat) (e : Int) (h : l[k]? = some e) : (Zg6 f k l)[k]? = some e := by
 have hk := (List.getElem?_eq_some_iff.1 h).1
 unfold Zg6
 rw [List.getElem?_append_right (by rw [List.length_map, List.length_take]; omega), List.length_map, List.length_take, List.getElem?_drop, ← h]
 congr 1; omega
theorem mapTo_set (f : Int → Int) (l : List Int) (k : Nat) (e : Int) (h : l[k]? = some e) : (Zg6 f k l).set k (f e) = Zg6 f (k + 1) l := by
 have hk := (List.getElem?_eq_some_iff.1 h).1
 obtain ⟨e', he', hd⟩ := Xo hk
 rw [h] at he'
 obtain rfl := QJ he'
 unfold Zg6
 rw [List.set_append, if_neg (by rw [List.length_map, List.length_take]; omega), hd, List.take_add_one, h]
 have : k - ((l.take k).map f).length = 0 := by rw [List.length_map, List.length_take]; omega
 rw [this]
 simp
theorem mapTo_all (f : Int → Int) (l : List Int) (k : Nat) (h : l.length ≤ k) : Zg6 f k l = l.map f := by
 unfold Zg6
 rw [List.take_of_length_le h, List.drop_eq_nil_of_le h, List.append_nil]
theorem mapTo_zero (f : Int → Int) (l : List Int) : Zg6 f 0 l = l := by simp [Zg6]
theorem Zfb {α : Type} (l : List α) (k : Nat) (v : α) : Vw l (k : Int) v = l.set k v := by unfold Vw; simp
def backM (y : Co) (m : Ms) (k : Int) (ok : Bool) (last : Int) : Ms := ⟨k, y.id, m.frm, y.tuple.term, y.binary, last, 0, 0, ok, [], ⟨0, 0, 0, 0, false⟩⟩
end
section
open Go Go.RowKit
set_option maxRecDepth 100000
theorem p_Alike_self (a : Ms) (h : a.entries.length ≤ 1000000) : Zdr a a = some true := by
 unfold Zdr
 simp only [decide_true, cond_true, Bool.and_true, p_Same a.entries a.entries h, Option.bind_some]
theorem p_number20 (x : Int) : Za4 x = some (numB x) := by
 unfold Za4 numB
 by_cases h : 0 ≤ x <;> simp [h]
theorem p_entries20_l1 (x : Ms) (h : x.entries.length ≤ 1000000) : ∀ (m k n : Nat) (v : Bool) (last : Int), m = x.entries.length - k → k ≤ x.entries.length → m < n → V4 x n v last k = some (Zfl (entB last x.term (x.entries.drop k) ∧ x.entries.length ≤ 4)) := by
 intro m
 induction m with
 | zero =>
  intro k n v last hm hk hn
  obtain ⟨n, rfl⟩ : ∃ n', n = n' + 1 := ⟨n - 1, by omega⟩
  rw [V4, List.drop_eq_nil_of_le (by omega)]
  simp only [Bool.cond_decide, if_neg (show ¬ ((k : Int) < (x.entries.length : Int)) by omega)]
  rw [Zch]; congr 1
  exact X5 ⟨fun h => ⟨trivial, by omega⟩, fun h => by have := h.2; omega⟩
 | succ m ih =>
  intro k n v last hm hk hn
  obtain ⟨n, rfl⟩ : ∃ n', n = n' + 1 := ⟨n - 1, by omega⟩
  obtain ⟨e, he, hd⟩ := Xo (show k < x.entries.length by omega)
  rw [V4, hd]
  simp only [Bool.cond_decide, if_pos (show ((k : Int) < (x.entries.length : Int)) by omega), J5, he, Option.bind_some, p_Right]
  rw [Zb7 (by omega), show ((k : Int) + 1) = ((k + 1 : Nat) : Int) by omega, ih (k + 1) n v e.term (by omega) (by omega) (by omega)]
  cases c1 : Jl e with
  | false => rw [Ya (p := entB last x.term (e :: x.entries.drop (k + 1)) ∧ x.entries.length ≤ 4) fun h => by have h2 := h.1.1; rw [c1] at h2; cases h2]; rfl
  | true =>
   simp only [Bool.not_true, cond_false]
   by_cases c2 : e.term < last
   ·rw [if_pos c2, Ya (p := entB last x.term (e :: x.entries.drop (k + 1)) ∧ x.entries.length ≤ 4) fun h => by have h2 := h.1.2.1; omega]
   rw [if_neg c2]
   by_cases c3 : x.term < e.term
   ·rw [if_pos c3, Ya (p := entB last x.term (e :: x.entries.drop (k + 1)) ∧ x.entries.length ≤ 4) fun h => by have h2 := h.1.2.1; omega]
   rw [if_neg c3]
   congr 1
   exact X5 ⟨fun h => ⟨⟨c1, ⟨by omega, by omega⟩, h.1⟩, h.2⟩, fun h => ⟨h.1.2.2, h.2⟩⟩
theorem p_entries20 (x : Ms) (h : x.entries.length ≤ 1000000) : Zcf x = some (Zfl (entB x.lastTerm x.term x.entries ∧ x.entries.length ≤ 4)) := by
 have := p_entries20_l1 x h x.entries.length 0 Xw false x.lastTerm (by omega) (by omega) (by unfold Xw; omega)
 unfold Zcf
 simpa using this
theorem numB_no {x : Int} (h : numB x = false) : ¬ (0 ≤ x ∧ x ≤ 1073741824) := fun h2 => by rw [numB, decide_eq_true h2] at h; cases h
theorem numB_yes {x : Int} (h : numB x = true) : 0 ≤ x ∧ x ≤ 1073741824 := of_decide_eq_true h
theorem p_Fine20 (m : Ms) (n : Int) (h : BdM m) : Zda m n = some (fineM m n) := by
 simp only [Zda, p_number20, p_entries20 m h.ents, p_Fine, Option.bind_some, st_zero, Bool.cond_decide]
 unfold fineM
 by_cases c0 : n < 1
 ·rw [if_pos c0, Ya (p := FineM m n) fun h => by have := h.many; omega]
 rw [if_neg c0]
 by_cases c1 : 5 < n
 ·rw [if_pos c1, Ya (p := FineM m n) fun h => by have := h.many; omega]
 rw [if_neg c1]
 by_cases c2 : m.frm < 1
 ·rw [if_pos c2, Ya (p := FineM m n) fun h => by have := h.frm; omega]
 rw [if_neg c2]
 by_cases c3 : n < m.frm
 ·rw [if_pos c3, Ya (p := FineM m n) fun h => by have := h.frm; omega]
 rw [if_neg c3]
 by_cases c4 : m.dst < 1
 ·rw [if_pos c4, Ya (p := FineM m n) fun h => by have := h.dst; omega]
 rw [if_neg c4]
 by_cases c5 : n < m.dst
 ·rw [if_pos c5, Ya (p := FineM m n) fun h => by have := h.dst; omega]
 rw [if_neg c5]
 by_cases c6 : m.frm = m.dst
 ·rw [if_pos c6, Ya (p := FineM m n) fun h => h.ne c6]
 rw [if_neg c6]
 by_cases c7 : m.kind < 1
 ·rw [if_pos c7, Ya (p := FineM m n) fun h => by have := h.kind; omega]
 rw [if_neg c7]
 by_cases c8 : 6 ≤ m.kind
 ·rw [if_pos c8, Ya (p := FineM m n) fun h => by have := h.kind; omega]
 rw [if_neg c8]
 by_cases c9 : m.term < 1
 ·rw [if_pos c9, Ya (p := FineM m n) fun h => by have := h.term; omega]
 rw [if_neg c9]
 by_cases c10 : 1073741824 < m.term
 ·rw [if_pos c10, Ya (p := FineM m n) fun h => by have := h.term; omega]
 rw [if_neg c10]
 by_cases c11 : m.cap < 1
 ·rw [if_pos c11, Ya (p := FineM m n) fun h => by have := h.cap; omega]
 rw [if_neg c11]
 by_cases c12 : 2 < m.cap
 ·rw [if_pos c12, Ya (p := FineM m n) fun h => by have := h.cap; omega]
 rw [if_neg c12]
 cases d0 : numB m.last with
 | false => rw [Ya (p := FineM m n) fun h => numB_no d0 h.last]; rfl
 | true =>
 have d0' := numB_yes d0
 cases d1 : numB m.lastTerm with
 | false => rw [Ya (p := FineM m n) fun h => numB_no d1 h.lastTerm]; rfl
 | true =>
 have d1' := numB_yes d1
 cases d2 : numB m.commit with
 | false => rw [Ya (p := FineM m n) fun h => numB_no d2 h.commit]; rfl
 | true =>
 have d2' := numB_yes d2
 by_cases c20 : entB m.lastTerm m.term m.entries ∧ m.entries.length ≤ 4
 case neg => rw [Ya c20, Ya (p := FineM m n) fun h => c20 ⟨h.ents, h.few⟩]; rfl
 rw [Y4 c20]
 simp only [Bool.not_true, cond_false]
 have yes : ∀ (d1 : m.kind ≠ 3 → m.entries.length = 0 ∧ m.commit = 0) (d2 : m.okk = true → m.kind = 2 ∨ m.kind = 4), (if m.kind = 5 then (cond (Zbn m.snap) (some (decide (0 < m.snap.index))) (some false)) else some (decide (m.snap = ⟨0, 0, 0, 0, false⟩))) = some (Zfl (FineM m n)) := by
  intro d1 d2
  have mk : (m.kind = 5 → 0 < m.snap.index ∧ Zbn m.snap = true) → (m.kind ≠ 5 → m.snap = ⟨0, 0, 0, 0, false⟩) → FineM m n := fun s1 s2 =>
   ⟨⟨by omega, by omega⟩, ⟨by omega, by omega⟩, ⟨by omega, by omega⟩, c6, ⟨by omega, by omega⟩, ⟨by omega, by omega⟩, ⟨by omega, by omega⟩, d0', d1', d2', c20.1, c20.2, d1, d2, s1, s2⟩
  by_cases e1 : m.kind = 5
  ·rw [if_pos e1]
   cases e3 : Zbn m.snap with
   | true =>
    simp only [cond_true]
    rw [Zch]
    congr 1
    exact X5 ⟨fun e2 => mk (fun _ => ⟨e2, e3⟩) (fun h => (h e1).elim), fun h => (h.snap e1).1⟩
   | false => rw [Ya (p := FineM m n) fun h => by have h2 := (h.snap e1).2; rw [e3] at h2; cases h2]; rfl
  ·rw [if_neg e1, Zch]
   congr 1
   exact X5 ⟨fun e2 => mk (fun h => (e1 h).elim) (fun _ => e2), fun h => h.nosnap e1⟩
 by_cases e1 : m.kind = 3
 ·rw [if_neg (fun h => h e1)]
  cases e2 : m.okk with
  | false => exact yes (fun h => (h e1).elim) (fun h => by rw [e2] at h; cases h)
  | true =>
   simp only [cond_true]
   rw [if_pos (by omega), if_pos (by omega), Ya (p := FineM m n) fun h => by have := h.okk e2; omega]
 ·rw [if_pos e1]
  by_cases e3 : (0 : Int) < (m.entries.length : Int)
  ·rw [if_pos e3, Ya (p := FineM m n) fun h => by have := (h.app e1).1; omega]
  rw [if_neg e3]
  by_cases e4 : 0 < m.commit
  ·rw [if_pos e4, Ya (p := FineM m n) fun h => by have := (h.app e1).2; omega]
  rw [if_neg e4]
  have e5 : m.kind ≠ 3 → m.entries.length = 0 ∧ m.commit = 0 := fun _ => ⟨by omega, by omega⟩
  cases e2 : m.okk with
  | false => exact yes e5 (fun h => by rw [e2] at h; cases h)
  | true =>
   simp only [cond_true]
   by_cases e6 : m.kind = 2
   ·rw [if_neg (fun h => h e6)]; exact yes e5 (fun _ => .inl e6)
   ·rw [if_pos e6]
    by_cases e7 : m.kind = 4
    ·rw [if_neg (fun h => h e7)]; exact yes e5 (fun _ => .inr e7)
    ·rw [if_pos e7, Ya (p := FineM m n) fun h => by have := h.okk e2; omega]
end
section
open Go Go.RowKit
set_option maxRecDepth 100000
def endT (t : Tu) : Int := Zfd t.snap.term t.log
theorem termAt_last (t : Tu) : termAt t t.last = some (endT t) := by
 have := termAt_log t t.log.length (Nat.le_refl _)
 rw [List.take_length] at this
 exact this
theorem p_end (x : Co) (h : BdC x) : Zcw x = some (x.tuple.last, endT x.tuple) := by
 simp only [Zcw, p_tLast x.tuple h.tup, p_tTermAt x.tuple _ h.tup, termAt_last, Option.bind_some, Option.getD_some]
def NewP (x : Co) (lt la : Int) : Prop := endT x.tuple < lt ∨ (lt = endT x.tuple ∧ x.tuple.last ≤ la)
theorem p_Newer (x : Co) (lt la : Int) (h : RightC x) : Vx x lt la = some (Zfl (NewP x lt la)) := by
 simp only [Vx, Zci x h.bd, Jz, Y4 h, p_end x h.bd, Option.bind_some, Bool.not_true, cond_false, Bool.cond_decide]
 by_cases c : endT x.tuple = lt
 ·rw [if_neg (fun h => h c), Zch]
  congr 1
  exact X5 ⟨fun h => .inr ⟨c.symm, h⟩, fun h => by rcases h with h | h; omega; exact h.2⟩
 ·rw [if_pos c, Zch]
  congr 1
  exact X5 ⟨fun h => .inl h, fun h => by rcases h with h | h; exact h; omega⟩
theorem p_Newer22 (x : Co) (lt la : Int) (h : RightC x) : J7 x lt la = some (Zfl (NewP x lt la)) := by
 have hb := h.bd
 simp only [J7, V9, Zbu x hb, Jz, Y4 h, p_Last12 x.tuple hb.tup, p_TermAt12 x.tuple _ hb.tup, termAt_last, Option.bind_some, Option.getD_some, Bool.not_true, cond_false, Bool.cond_decide]
 by_cases c : endT x.tuple < lt
 ·rw [if_pos c, Y4 (.inl c)]
 ·rw [if_neg c]
  by_cases c2 : lt = endT x.tuple
  ·rw [if_pos c2, Zch]
   congr 1
   exact X5 ⟨fun h => .inr ⟨c2, h⟩, fun h => by rcases h with h | h; omega; exact h.2⟩
  ·rw [if_neg c2, Ya]
   rintro (h | h)
   ·omega
   ·omega
def leadC (x : Co) : Co := { x with role := 2, tuple := { x.tuple with log := x.tuple.log ++ [⟨x.tuple.term, 0, 0⟩] }, next := x.next.map (fun _ => x.tuple.last + 1 + 1), mtch := (x.mtch.map fun _ => 0).set (x.id - 1).toNat (x.tuple.last + 1) }
theorem p_Lead_l1 (x : Co) (t : Tu × Int) (r : Int) (h : RightC x) (hr : -3000000000000 ≤ r ∧ r ≤ 3000000000000) : ∀ (q k n : Nat), q = x.next.length - k → k ≤ x.next.length → q < n →
  Zao x t r n k (Zg6 (fun _ => r + 1) k x.next) (Zg6 (fun _ => 0) k x.mtch) = some { x with role := 2, tuple := t.1, next := x.next.map (fun _ => r + 1), mtch := (x.mtch.map fun _ => 0).set (x.id - 1).toNat r } := by
 have hn := h.n
 have hl := h.ln
 have hm := h.lm
 have hid := h.id
 have hw : IntKind.wrap .i64 (x.id - 1) = (((x.id - 1).toNat : Nat) : Int) := by rw [Zb7 (by omega)]; omega
 intro q
 induction q with
 | zero =>
  intro k n hq hk hn'
  obtain ⟨n, rfl⟩ : ∃ n', n = n' + 1 := ⟨n - 1, by omega⟩
  obtain ⟨e, he, _⟩ := Xo (show (x.id - 1).toNat < (x.mtch.map fun _ => (0 : Int)).length by rw [List.length_map]; omega)
  rw [Zao, mapTo_all _ _ _ (by omega), mapTo_all _ _ _ (by omega)]
  simp only [Bool.cond_decide, if_neg (show ¬ (k : Int) < x.n by omega), hw, J5, he, Option.bind_some, Zfb]
 | succ q ih =>
  intro k n hq hk hn'
  obtain ⟨n, rfl⟩ : ∃ n', n = n' + 1 := ⟨n - 1, by omega⟩
  obtain ⟨e, he, _⟩ := Xo (show k < x.next.length by omega)
  obtain ⟨f, hf, _⟩ := Xo (show k < x.mtch.length by omega)
  have s1 := mapTo_set (fun _ => r + 1) x.next k e he
  have s2 := mapTo_set (fun _ => 0) x.mtch k f hf
  rw [Zao]
  simp only [Bool.cond_decide, if_pos (show (k : Int) < x.n by omega), J5, mapTo_get _ _ _ _ he, mapTo_get _ _ _ _ hf, Option.bind_some, Zfb, Zb7 (n := r + 1) (by omega), s1, s2, Zb7 (n := (k : Int) + 1) (by omega)]
  rw [show ((k : Int) + 1) = ((k + 1 : Nat) : Int) by omega, ih (k + 1) n (by omega) (by omega) (by omega)]
theorem noop_right (x : Co) (h : RightC x) (hr : x.role ≠ 0) : Jl ⟨x.tuple.term, 0, 0⟩ = true ∧ 0 < x.tuple.term ∧ x.tuple.vote = x.id := by
 have h1 := h.lead
 have h2 := ((Zcs _).1 h.tup).2.1.2.2.2.2
 rcases h1 with h1 | h1
 ·exact (hr h1).elim
 ·refine ⟨?_, h1⟩
  unfold Jl
  exact decide_eq_true ⟨Int.le_refl 0, (by decide : (0 : Int) ≤ 4), h1.1, h2, Int.le_refl 0, (by decide : (0 : Int) ≤ 1073741824), .inl rfl⟩
theorem p_Lead_no (x : Co) (h : RightC x) (hr : x.role ≠ 1) : Vi x = some x := by
 simp only [Vi, Ze0 x h.bd, Option.bind_some, Bool.cond_decide, if_pos hr]
theorem p_Lead_full (x : Co) (h : RightC x) (hr : x.role = 1) (hl : 200 ≤ x.tuple.log.length) : Vi x = some { x with role := 0 } := by
 have hbd := h.bd
 have happ := q_Append x.tuple [⟨x.tuple.term, 0, 0⟩] ⟨hbd.tup.1, by simp⟩
 rw [Zgf, if_pos h.tup, if_neg (fun h2 => by have := ((Zcs _).1 h2).2.1.2.1; dsimp only at this; rw [List.length_append] at this; simp only [List.length_cons, List.length_nil] at this; omega)] at happ
 simp only [Vi, Ze0 x hbd, Zci x hbd, Jz, Y4 h, happ, Option.bind_some, Bool.cond_decide, if_neg (show ¬ x.role ≠ 1 from fun h => h hr), Bool.not_true, cond_false, if_pos (show (2 : Int) ≠ 0 by decide)]
theorem lead_tup (x : Co) (h : RightC x) (hr : x.role = 1) (hl : x.tuple.log.length < 200) : Zad { x.tuple with log := x.tuple.log ++ [⟨x.tuple.term, 0, 0⟩] } = true :=
 add_tup x _ h (noop_right x h (by omega)).1 rfl hl
theorem Zhd (x : Co) : ({ x.tuple with log := x.tuple.log ++ [⟨x.tuple.term, 0, 0⟩] } : Tu).last = x.tuple.last + 1 := by unfold Tu.last; dsimp only; rw [List.length_append]; simp only [List.length_cons, List.length_nil]; omega
theorem p_Lead (x : Co) (h : RightC x) (hr : x.role = 1) (hl : x.tuple.log.length < 200) : Vi x = some (leadC x) := by
 have hbd := h.bd
 have hlb := last_bd hbd.tup
 have ha := lead_tup x h hr hl
 have hxb := tupB_bd _ h.tup
 have hlen : x.tuple.last = x.tuple.snap.index + x.tuple.log.length := rfl
 have hbd' : bdT { x.tuple with log := x.tuple.log ++ [⟨x.tuple.term, 0, 0⟩] } := by
  refine ⟨?_, hbd.tup.2⟩
  show (x.tuple.log ++ [(⟨x.tuple.term, 0, 0⟩ : En)]).length ≤ 1000000
  rw [List.length_append]
  simp only [List.length_cons, List.length_nil]
  omega
 have happ := q_Append x.tuple [⟨x.tuple.term, 0, 0⟩] ⟨hbd.tup.1, by simp⟩
 rw [Zgf, if_pos h.tup, if_pos ha] at happ
 have hloop := p_Lead_l1 x ({ x.tuple with log := x.tuple.log ++ [⟨x.tuple.term, 0, 0⟩] }, 0) (x.tuple.last + 1) h (by omega) x.next.length 0 Xw (by omega) (by omega) (by have := hbd.ln; unfold Xw; omega)
 rw [mapTo_zero, mapTo_zero] at hloop
 simp only [Vi, Ze0 x hbd, Zci x hbd, Jz, Y4 h, happ, Option.bind_some, Bool.cond_decide, if_neg (show ¬ x.role ≠ 1 from fun h => h hr), Bool.not_true, cond_false, if_neg (show ¬ (0 : Int) ≠ 0 by decide), p_tLast _ hbd', Zhd]
 exact hloop
theorem lead_right (x : Co) (h : RightC x) (hr : x.role = 1) (hl : x.tuple.log.length < 200) : RightC (leadC x) := by
 have ha := lead_tup x h hr hl
 have hcb := commit_bd h
 have hlen : x.tuple.last = x.tuple.snap.index + x.tuple.log.length := rfl
 have hxb := tupB_bd _ h.tup
 have hn := h.n
 have hid := h.id
 unfold leadC
 refine ⟨h.n, h.id, by show (2 : Int) ≤ 2; omega, h.bin, ha, ?_, h.lv, ?_, ?_, h.lc, ?_, ?_, h.caps, h.own, .inr ⟨(noop_right x h (by omega)).2.1, (noop_right x h (by omega)).2.2⟩⟩
 ·dsimp only
  rw [← h.st]
  unfold stOf
  rw [Zhd, if_pos (by dsimp only; omega), if_pos hcb, List.take_append_of_le_length (by dsimp only; omega)]
 ·dsimp only; rw [List.length_map]; exact h.ln
 ·dsimp only; rw [List.length_set, List.length_map]; exact h.lm
 ·dsimp only; rw [Zhd]
  intro a ha'
  obtain ⟨_, _, rfl⟩ := List.mem_map.1 ha'
  omega
 ·dsimp only; rw [Zhd]
  refine InB.set (fun a ha' => ?_) (by omega)
  obtain ⟨_, _, rfl⟩ := List.mem_map.1 ha'
  omega
def FreeP (y : Co) (m : Ms) : Prop := (y.tuple.vote = 0 ∨ y.tuple.vote = m.frm) ∧ y.role = 0 ∧ m.term = y.tuple.term ∧ NewP y m.lastTerm m.last
def votedC (y : Co) (m : Ms) : Co := { y with tuple := { y.tuple with term := m.term, vote := m.frm } }
theorem p_Vote_no (x : Co) (m : Ms) (hx : BdC x) (hm : BdM m) (h : ¬ (ToC x m ∧ m.kind = 1)) : V2 x m = some (x, []) := by
 simp only [V2, p_fits x m hx hm, Ze0 x hx, Option.bind_some, Bool.cond_decide]
 by_cases c1 : ToC x m
 case neg => rw [Ya c1]; rfl
 rw [Y4 c1]
 simp only [Bool.not_true, cond_false]
 rw [if_pos (fun h2 => h ⟨c1, h2⟩)]
theorem p_Vote_yes (x : Co) (m : Ms) (hm : BdM m) (h : ToC x m) (hk : m.kind = 1) (hf : FreeP (Xb x m) m) : V2 x m = some (votedC (Xb x m) m, [backM (votedC (Xb x m) m) m 2 true 0]) := by
 have hx := h.2.1.bd
 have hy := Zex x m h.2.1
 obtain ⟨f1, f2, f3, f4⟩ := hf
 have hd := (Zgg (Xb x m).tuple m.term m.frm hy.tup (.inr ⟨f3, f1⟩) h.2.2.term.2 (by have := h.2.2.frm; have := h.2.2.many; omega)).2
 simp only [V2, p_fits x m hx hm, p_Meet x m hx hm, Y4 h, Option.bind_some, Bool.cond_decide, Bool.not_true, cond_false, if_neg (show ¬ m.kind ≠ 1 from fun h => h hk), if_pos f2, if_pos f3, p_Newer _ _ _ hy, Y4 f4, cond_true, hd, J2]
 rcases f1 with f1 | f1
 ·rw [if_pos f1]; rfl
 ·by_cases c : (Xb x m).tuple.vote = 0
  ·rw [if_pos c]; rfl
  ·rw [if_neg c, if_pos f1]; rfl
theorem p_Vote_none (x : Co) (m : Ms) (hm : BdM m) (h : ToC x m) (hk : m.kind = 1) (hf : ¬ FreeP (Xb x m) m) : V2 x m = some (Xb x m, [backM (Xb x m) m 2 false 0]) := by
 have hx := h.2.1.bd
 have hy := Zex x m h.2.1
 have key : ((Xb x m).tuple.vote = 0 ∨ (Xb x m).tuple.vote = m.frm) → (Xb x m).role = 0 → m.term = (Xb x m).tuple.term → Zfl (NewP (Xb x m) m.lastTerm m.last) = false := fun a b c => Ya fun d => hf ⟨a, b, c, d⟩
 simp only [V2, p_fits x m hx hm, p_Meet x m hx hm, Y4 h, Option.bind_some, Bool.cond_decide, Bool.not_true, cond_false, if_neg (show ¬ m.kind ≠ 1 from fun h => h hk), p_Newer _ _ _ hy, J2]
 by_cases c1 : (Xb x m).tuple.vote = 0
 ·rw [if_pos c1]
  by_cases c2 : (Xb x m).role = 0
  ·rw [if_pos c2]
   by_cases c3 : m.term = (Xb x m).tuple.term
   ·rw [if_pos c3, key (.inl c1) c2 c3]; rfl
   ·rw [if_neg c3]; rfl
  ·rw [if_neg c2]; rfl
 ·rw [if_neg c1]
  by_cases c4 : (Xb x m).tuple.vote = m.frm
  ·rw [if_pos c4]
   by_cases c2 : (Xb x m).role = 0
   ·rw [if_pos c2]
    by_cases c3 : m.term = (Xb x m).tuple.term
    ·rw [if_pos c3, key (.inr c4) c2 c3]; rfl
    ·rw [if_neg c3]; rfl
   ·rw [if_neg c2]; rfl
  ·rw [if_neg c4]; rfl
theorem voted_right (x : Co) (m : Ms) (h : ToC x m) (hf : FreeP (Xb x m) m) : RightC (votedC (Xb x m) m) := by
 have hy := Zex x m h.2.1
 obtain ⟨f1, f2, f3, f4⟩ := hf
 have hd := (Zgg (Xb x m).tuple m.term m.frm hy.tup (.inr ⟨f3, f1⟩) h.2.2.term.2 (by have := h.2.2.frm; have := h.2.2.many; omega)).1
 exact ⟨hy.n, hy.id, hy.role, hy.bin, hd, hy.st, hy.lv, hy.ln, hy.lm, hy.lc, hy.next, hy.mtch, hy.caps, hy.own, .inl f2⟩
end
section
open Go Go.RowKit
set_option maxRecDepth 100000
theorem p_wakes22 : Zac = some true := by decide +kernel
end
section
open Go Go.RowKit
set_option maxRecDepth 100000
def toM (x : Co) (m : Ms) (d : Int) : Ms := ⟨m.kind, x.id, d, x.tuple.term, x.binary, m.last, m.lastTerm, m.commit, m.okk, m.entries, m.snap⟩
theorem others_r1 (x : Co) (m : Ms) (hm : m.entries.length ≤ 1000000) (l : List Int) : ∀ (v : List Ms), v.length + l.length ≤ 1000000 → Jm x m l v = some (v ++ l.map (toM x m)) := by
 induction l with
 | nil => intro v _; rw [Jm]; simp
 | cons d l ih =>
  intro v hv
  rw [List.length_cons] at hv
  rw [Jm, Y9, Zb5 _ (by omega), Option.bind_some, Zb5 _ (by rw [List.length_append]; simp only [List.length_cons, List.length_nil]; omega), Option.bind_some]
  have := ih (v ++ [toM x m d]) (by rw [List.length_append]; simp only [List.length_cons, List.length_nil]; omega)
  rw [List.append_assoc] at this
  exact this
theorem others_all : ∀ n : Fin 6, ∀ i : Fin 6, 1 ≤ i.val → i.val ≤ n.val → (Za6 (i.val : Int) 1 n.val).length = n.val - 1 ∧ ∀ k : Fin 6, ∀ d, (Za6 (i.val : Int) 1 n.val)[k.val]? = some d → (1 ≤ d ∧ d ≤ (n.val : Int) ∧ d ≠ (i.val : Int)) ∧ (1 ≤ k.val → ∀ c, (Za6 (i.val : Int) 1 n.val)[k.val - 1]? = some c → c < d) := by
 intro n i h1 h2
 have hn : n.val = 1 ∨ n.val = 2 ∨ n.val = 3 ∨ n.val = 4 ∨ n.val = 5 := by omega
 have key : ∀ (L : List Int) (i n : Int), (∀ k : Fin 6, (match L[k.val]? with | some d => decide ((1 ≤ d ∧ d ≤ n ∧ d ≠ i)) && (if 1 ≤ k.val then (match L[k.val - 1]? with | some c => decide (c < d) | none => true) else true) | none => true) = true) → ∀ k : Fin 6, ∀ d, L[k.val]? = some d → (1 ≤ d ∧ d ≤ n ∧ d ≠ i) ∧ (1 ≤ k.val → ∀ c, L[k.val - 1]? = some c → c < d) := by
  intro L i n h k d hd
  have h3 := h k
  rw [hd] at h3
  simp only [Bool.and_eq_true, decide_eq_true_eq] at h3
  refine ⟨h3.1, fun h4 c hc => ?_⟩
  have h5 := h3.2
  rw [if_pos h4, hc] at h5
  exact of_decide_eq_true h5
 have fin : ∀ n : Fin 6, ∀ i : Fin 6, 1 ≤ i.val → i.val ≤ n.val → (Za6 (i.val : Int) 1 n.val).length = n.val - 1 ∧ (∀ k : Fin 6, (match (Za6 (i.val : Int) 1 n.val)[k.val]? with | some d => decide ((1 ≤ d ∧ d ≤ (n.val : Int) ∧ d ≠ (i.val : Int))) && (if 1 ≤ k.val then (match (Za6 (i.val : Int) 1 n.val)[k.val - 1]? with | some c => decide (c < d) | none => true) else true) | none => true) = true) := by decide +kernel
 exact ⟨(fin n i h1 h2).1, key _ _ _ (fin n i h1 h2).2⟩
end
section
open Go Go.RowKit
set_option maxRecDepth 100000
theorem p_Append12' (x : Tu) (l : List En) (h : x.log.length ≤ 1000000 ∧ l.length ≤ 300) : Zcv x l = some (Zc6 x (some { x with log := x.log ++ l }), chgE x (some { x with log := x.log ++ l })) := by
 rw [chg_eq]
 simp only [Zcv, p_Own12 x h.1, Option.bind_some, Zb5 _ (show (x.log ++ l).length ≤ 1000000000 by rw [List.length_append]; omega), p_Right12]
 cases Zad x <;> cases Zad { x with log := x.log ++ l } <;> rfl
theorem p_Hard12' (x : Tu) (t v : Int) (h : x.log.length ≤ 1000000) : J6 x t v = some (Zc6 x (Zfq x t v), chgE x (Zfq x t v)) := by
 simp only [J6, p_Own12 x h, Option.bind_some, p_Right12, Bool.cond_decide, Bool.cond_not]
 have hy : (x.term < t ∨ t = x.term ∧ (x.vote = 0 ∨ x.vote = v)) → Zfq x t v = some { x with term := t, vote := v } := fun h => by unfold Zfq; rw [if_pos h]
 have hn : ¬ (x.term < t ∨ t = x.term ∧ (x.vote = 0 ∨ x.vote = v)) → Zfq x t v = none := fun h => by unfold Zfq; rw [if_neg h]
 by_cases h1 : x.term < t
 ·rw [if_pos h1, hy (.inl h1), Zgf]
  cases Zad x <;> cases Zad ⟨x.snap, x.log, t, v⟩ <;> rfl
 ·rw [if_neg h1]
  by_cases h2 : t = x.term
  ·rw [if_pos h2]
   by_cases h3 : x.vote = 0
   ·rw [if_pos h3, hy (.inr ⟨h2, .inl h3⟩), Zgf]
    cases Zad x <;> cases Zad ⟨x.snap, x.log, t, v⟩ <;> rfl
   ·rw [if_neg h3]
    by_cases h4 : x.vote = v
    ·rw [if_pos h4, hy (.inr ⟨h2, .inr h4⟩), Zgf]
     cases Zad x <;> cases Zad ⟨x.snap, x.log, t, v⟩ <;> rfl
    ·rw [if_neg h4, hn (by omega), chg_none]
  ·rw [if_neg h2, hn (by omega), chg_none]
theorem hard_same (x : Tu) (t v : Int) (h : x.log.length ≤ 1000000) : J6 x t v = Jg x t v := by rw [p_Hard12' x t v h, q_Hard x t v h]
def halfB (l : List Bool) : Bool := decide (l.length < 2 * l.count true)
theorem votesL_len (l : List Bool) : ∀ k, (votesL k l).length = l.count true := by
 induction l with
 | nil => intro k; rfl
 | cons a l ih =>
  intro k
  rw [votesL]
  cases a with
  | true => rw [if_pos rfl, List.length_cons, ih, List.count_cons_self]
  | false => rw [if_neg (by decide), ih, List.count_cons_of_ne (by decide)]
theorem half_r1 (x : List Bool) (l : List Int) : ∀ v : Int, 0 ≤ v → v + l.length ≤ 2000000 → Jn x l v = some (decide ((x.length : Int) < 2 * (v + l.length))) := by
 induction l with
 | nil => intro v h1 h2; rw [Jn, Zb7 (by simp at h2; omega)]; simp
 | cons a l ih =>
  intro v h1 h2
  rw [List.length_cons] at h2 ⊢
  rw [Jn, Zb7 (by omega), ih (v + 1) (by omega) (by omega)]
  congr 3
  omega
theorem p_Half (l : List Bool) (h : l.length ≤ 1000000) : Zav l = some (halfB l) := by
 have h1 := votesL_len l 0
 have h2 : l.count true ≤ l.length := List.count_le_length
 unfold Zav m_it_votes
 rw [if_pos h, Option.bind_some, half_r1 l _ 0 (by omega) (by rw [h1]; omega), h1]
 unfold halfB
 congr 1
 rw [Bool.eq_iff_iff, decide_eq_true_eq, decide_eq_true_eq]
 omega
theorem p_Half22_l1 (l : List Bool) (h : l.length ≤ 1000000) : ∀ (q k n : Nat), q = l.length - k → k ≤ l.length → q < n → Jo l n ((l.take k).count true : Nat) k = some (halfB l) := by
 intro q
 induction q with
 | zero =>
  intro k n hq hk hn
  obtain ⟨n, rfl⟩ : ∃ n', n = n' + 1 := ⟨n - 1, by omega⟩
  have h2 : l.count true ≤ l.length := List.count_le_length
  rw [Jo, List.take_of_length_le (by omega)]
  simp only [Bool.cond_decide, if_neg (show ¬ (k : Int) < (l.length : Int) by omega), Zb7 (n := 2 * ((l.count true : Nat) : Int)) (by omega)]
  unfold halfB
  congr 1
  rw [Bool.eq_iff_iff, decide_eq_true_eq, decide_eq_true_eq]
  omega
 | succ q ih =>
  intro k n hq hk hn
  obtain ⟨n, rfl⟩ : ∃ n', n = n' + 1 := ⟨n - 1, by omega⟩
  obtain ⟨e, he, _⟩ := Xo (show k < l.length by omega)
  have h2 : (l.take k).count true ≤ (l.take k).length := List.count_le_length
  rw [List.length_take] at h2
  have hih := ih (k + 1) n (by omega) (by omega) (by omega)
  rw [List.take_add_one, he, Option.toList_some, List.count_append] at hih
  have w1 : IntKind.wrap .i64 ((k : Int) + 1) = ((k + 1 : Nat) : Int) := by rw [Zb7 (by omega)]; omega
  have w2 : IntKind.wrap .i64 ((((l.take k).count true : Nat) : Int) + 1) = (((l.take k).count true + 1 : Nat) : Int) := by rw [Zb7 (by omega)]; omega
  rw [Jo]
  simp only [Bool.cond_decide, if_pos (show (k : Int) < (l.length : Int) by omega), J5, he, Option.bind_some, w1, w2]
  cases e with
  | true => exact hih
  | false => exact hih
theorem p_Half22 (l : List Bool) (h : l.length ≤ 1000000) : Zdh l = some (halfB l) := by
 have := p_Half22_l1 l h l.length 0 Xw (by omega) (by omega) (by unfold Xw; omega)
 exact this
theorem p_All_self_l1 (l : List Ms) (h : l.length ≤ 1000000) (he : ∀ a ∈ l, a.entries.length ≤ 1000000) : ∀ (q k n : Nat) (v : Bool), q = l.length - k → k ≤ l.length → q < n → Za5 l l n v k = some true := by
 intro q
 induction q with
 | zero =>
  intro k n v hq hk hn
  obtain ⟨n, rfl⟩ : ∃ n', n = n' + 1 := ⟨n - 1, by omega⟩
  rw [Za5]
  simp only [Bool.cond_decide, if_neg (show ¬ (k : Int) < (l.length : Int) by omega)]
 | succ q ih =>
  intro k n v hq hk hn
  obtain ⟨n, rfl⟩ : ∃ n', n = n' + 1 := ⟨n - 1, by omega⟩
  obtain ⟨e, hg, _⟩ := Xo (show k < l.length by omega)
  have w1 : IntKind.wrap .i64 ((k : Int) + 1) = ((k + 1 : Nat) : Int) := by rw [Zb7 (by omega)]; omega
  rw [Za5]
  simp only [Bool.cond_decide, if_pos (show (k : Int) < (l.length : Int) by omega), J5, hg, Option.bind_some, p_Alike_self e (he e (List.mem_of_getElem? hg)), Bool.not_true, cond_false, w1]
  exact ih (k + 1) n v (by omega) (by omega) (by omega)
theorem p_All_self (l : List Ms) (h : l.length ≤ 1000000) (he : ∀ a ∈ l, a.entries.length ≤ 1000000) : Zcu l l = some true := by
 have := p_All_self_l1 l h he l.length 0 Xw false (by omega) (by omega) (by unfold Xw; omega)
 unfold Zcu
 simp only [Bool.cond_decide, ne_eq, not_true, if_false]
 exact this
theorem p_Others_is (x : Co) (m : Ms) (h : RightC x) (hm : m.entries.length ≤ 1000000) : Zb0 x m = some ((Za6 x.id 1 x.n.toNat).map (toM x m)) ∧ (Za6 x.id 1 x.n.toNat).length ≤ 5 := by
 have hn := h.n
 have hi := h.id
 obtain ⟨N, hN⟩ : ∃ N : Nat, x.n = (N : Int) := ⟨x.n.toNat, by omega⟩
 obtain ⟨J, hJ⟩ : ∃ J : Nat, x.id = (J : Int) := ⟨x.id.toNat, by omega⟩
 obtain ⟨h1, h2⟩ := others_all ⟨N, by omega⟩ ⟨J, by omega⟩ (by show 1 ≤ J; omega) (by show J ≤ N; omega)
 dsimp only at h1 h2
 have e : x.n.toNat = N := by omega
 rw [e, hJ]
 refine ⟨?_, by omega⟩
 unfold Zb0 m_it_others
 rw [Option.bind_some, show (min x.n 5).toNat = N by omega, others_r1 x m hm _ [] (by rw [hJ, h1]; simp; omega), hJ]
 rfl
theorem p_Others20_l1 (x : Co) (m : Ms) (h : RightC x) (hm : m.entries.length ≤ 1000000) : ∀ (q k n : Nat) (acc : List Ms), (q : Int) = x.n + 1 - k → 1 ≤ k → q < n → acc.length + q ≤ 1000 → Vt x m n acc k = some (acc ++ (Za6 x.id k q).map (toM x m)) := by
 have hn := h.n
 intro q
 induction q with
 | zero =>
  intro k n acc hq hk hn' _
  obtain ⟨n, rfl⟩ : ∃ n', n = n' + 1 := ⟨n - 1, by omega⟩
  rw [Vt]
  simp only [Bool.cond_decide, if_neg (show ¬ (k : Int) ≤ x.n by omega)]
  rw [Za6]; simp
 | succ q ih =>
  intro k n acc hq hk hn' hl
  obtain ⟨n, rfl⟩ : ∃ n', n = n' + 1 := ⟨n - 1, by omega⟩
  have w1 : IntKind.wrap .i64 ((k : Int) + 1) = ((k + 1 : Nat) : Int) := by rw [Zb7 (by omega)]; omega
  rw [Vt]
  simp only [Bool.cond_decide, if_pos (show (k : Int) ≤ x.n by omega), if_pos (show (k : Int) ≤ 5 by omega), w1, List.nil_append, Zb5 m.entries (by omega), Option.bind_some]
  rw [Za6]
  by_cases c : (k : Int) = x.id
  ·rw [if_pos c, if_neg (fun h => h c)]
   exact ih (k + 1) n acc (by omega) (by omega) (by omega) (by omega)
  ·rw [if_neg c, if_pos (show (k : Int) ≠ x.id from c), Zb5 _ (by rw [List.length_append]; simp only [List.length_cons, List.length_nil]; omega), Option.bind_some]
   have := ih (k + 1) n (acc ++ [toM x m k]) (by omega) (by omega) (by omega) (by rw [List.length_append]; simp only [List.length_cons, List.length_nil]; omega)
   rw [List.append_assoc] at this
   exact this
theorem p_Others20 (x : Co) (m : Ms) (h : RightC x) (hm : m.entries.length ≤ 1000000) : Zct x m = Zb0 x m := by
 have hn := h.n
 have := p_Others20_l1 x m h hm x.n.toNat 1 Xw [] (by omega) (by omega) (by unfold Xw; omega) (by simp; omega)
 rw [(p_Others_is x m h hm).1]
 exact this
theorem Ze7 (x : Co) (m : Ms) (hx : BdC x) (hm : BdM m) : Zb8 x m = some (Zfl (ToC x m)) := by
 simp only [Zb8, Zbu x hx, p_Fine20 m x.n hm, Option.bind_some]
 unfold Jz fineM
 by_cases c1 : RightC x
 case neg => rw [Ya c1, Ya (p := ToC x m) fun h => c1 h.2.1]; rfl
 by_cases c2 : FineM m x.n
 case neg => rw [Y4 c1, Ya c2, Ya (p := ToC x m) fun h => c2 h.2.2]; rfl
 rw [Y4 c1, Y4 c2]
 show some (decide _) = some _
 rw [Zch]
 congr 1
 exact X5 ⟨fun h => ⟨h, c1, c2⟩, fun h => h.1⟩
theorem p_Hear21 (x : Co) (m : Ms) (hx : BdC x) (hm : BdM m) : Zeg x m = some (hearC x m) := by
 have ht : m_ref21_To x m = some (Zfl (ToC x m)) := Ze7 x m hx hm
 simp only [Zeg, Zbp x hx, ht, Option.bind_some]
 by_cases c1 : ToC x m
 ·rw [Y4 c1, hear_eq x m c1]
  obtain ⟨e, he, _, hw⟩ := idx_in x.caps m.frm (by have := c1.2.2.frm; have := c1.2.1.lc; omega) hx.lc
  simp only [cond_true, he, Option.bind_some, hw]
  rfl
 ·rw [Ya c1, hear_no x m c1]; rfl
theorem p_Meet22 (x : Co) (m : Ms) (hx : BdC x) (hm : BdM m) : Zb3 x m = some (Xb x m) := by
 simp only [Zb3, Zbp x hx, Ze7 x m hx hm, p_Hear21 x m hx hm, Option.bind_some, Bool.cond_decide]
 unfold Xb
 by_cases c1 : ToC x m
 case neg => rw [Ya c1, if_neg (show ¬ (ToC x m ∧ x.tuple.term < m.term) from fun h => c1 h.1), hear_no x m c1]; rfl
 rw [Y4 c1]
 simp only [Bool.not_true, cond_false]
 rw [hear_eq x m c1]
 by_cases c2 : x.tuple.term < m.term
 ·rw [if_pos (show ToC x m ∧ x.tuple.term < m.term from ⟨c1, c2⟩), if_neg (show ¬ m.term ≤ x.tuple.term by omega)]
  have hH := (Zgg x.tuple m.term 0 c1.2.1.tup (.inl c2) c1.2.2.term.2 (by omega)).2
  rw [← hard_same _ _ _ hx.tup.1] at hH
  have hn := c1.2.1.n
  obtain ⟨N, hN⟩ : ∃ N : Nat, x.n = (N : Int) := ⟨x.n.toNat, by omega⟩
  have hk : makeI false x.n = some (List.replicate x.n.toNat false) := by rw [hN, makeI_nat _ N (by omega), Int.toNat_natCast]
  simp only [hH, hk, Option.bind_some]
 ·rw [if_neg (show ¬ (ToC x m ∧ x.tuple.term < m.term) from fun h => c2 h.2), if_pos (show m.term ≤ x.tuple.term by omega)]
theorem p_Lead22_l1 (x : Co) (t : Tu × Int) (h : RightC x) (ht : bdT t.1) : ∀ (q k n : Nat), q = x.next.length - k → k ≤ x.next.length → q < n →
  Zar x t n k (Zg6 (fun _ => t.1.last + 1) k x.next) (Zg6 (fun _ => 0) k x.mtch) = some { x with role := 2, tuple := t.1, next := x.next.map (fun _ => t.1.last + 1), mtch := (x.mtch.map fun _ => 0).set (x.id - 1).toNat t.1.last } := by
 have hn := h.n
 have hl := h.ln
 have hm := h.lm
 have hid := h.id
 have hlb := last_bd ht
 have hla := p_Last12 t.1 ht
 have hw : IntKind.wrap .i64 (x.id - 1) = (((x.id - 1).toNat : Nat) : Int) := by rw [Zb7 (by omega)]; omega
 intro q
 induction q with
 | zero =>
  intro k n hq hk hn'
  obtain ⟨n, rfl⟩ : ∃ n', n = n' + 1 := ⟨n - 1, by omega⟩
  obtain ⟨e, he, _⟩ := Xo (show (x.id - 1).toNat < (x.mtch.map fun _ => (0 : Int)).length by rw [List.length_map]; omega)
  rw [Zar, mapTo_all _ _ _ (by omega), mapTo_all _ _ _ (by omega)]
  simp only [Bool.cond_decide, if_neg (show ¬ (k : Int) < x.n by omega), hw, J5, he, hla, Option.bind_some, Zfb]
 | succ q ih =>
  intro k n hq hk hn'
  obtain ⟨n, rfl⟩ : ∃ n', n = n' + 1 := ⟨n - 1, by omega⟩
  obtain ⟨e, he, _⟩ := Xo (show k < x.next.length by omega)
  obtain ⟨f, hf, _⟩ := Xo (show k < x.mtch.length by omega)
  have s1 := mapTo_set (fun _ => t.1.last + 1) x.next k e he
  have s2 := mapTo_set (fun _ => 0) x.mtch k f hf
  rw [Zar]
  simp only [Bool.cond_decide, if_pos (show (k : Int) < x.n by omega), J5, mapTo_get _ _ _ _ he, mapTo_get _ _ _ _ hf, hla, Option.bind_some, Zfb, Zb7 (n := t.1.last + 1) (by omega), s1, s2, Zb7 (n := (k : Int) + 1) (by omega)]
  rw [show ((k : Int) + 1) = ((k + 1 : Nat) : Int) by omega, ih (k + 1) n (by omega) (by omega) (by omega)]
theorem lead_eq (x : Co) (hx : BdC x) : ∃ y, Vi x = some y ∧ Ji x = some y ∧ BdC y := by
 by_cases h : RightC x
 ·by_cases hr : x.role = 1
  ·by_cases hl : 200 ≤ x.tuple.log.length
   ·refine ⟨_, p_Lead_full x h hr hl, ?_, ⟨hx.tup, hx.lv, hx.ln, hx.lm, hx.lc⟩⟩
    have happ := p_Append12' x.tuple [⟨x.tuple.term, 0, 0⟩] ⟨hx.tup.1, by simp⟩
    rw [Zgf, if_pos h.tup, if_neg (fun h2 => by have := ((Zcs _).1 h2).2.1.2.1; dsimp only at this; rw [List.length_append] at this; simp only [List.length_cons, List.length_nil] at this; omega)] at happ
    simp only [Ji, Zbp x hx, Zbu x hx, Jz, Y4 h, happ, Option.bind_some, Bool.cond_decide, if_neg (show ¬ x.role ≠ 1 from fun h => h hr), Bool.not_true, cond_false, if_pos (show (2 : Int) ≠ 0 by decide)]
   ·refine ⟨_, p_Lead x h hr (by omega), ?_, (lead_right x h hr (by omega)).bd⟩
    have ha := lead_tup x h hr (by omega)
    have happ := p_Append12' x.tuple [⟨x.tuple.term, 0, 0⟩] ⟨hx.tup.1, by simp⟩
    rw [Zgf, if_pos h.tup, if_pos ha] at happ
    have hbd' : bdT { x.tuple with log := x.tuple.log ++ [⟨x.tuple.term, 0, 0⟩] } := (lead_right x h hr (by omega)).bd.tup
    have hloop := p_Lead22_l1 x ({ x.tuple with log := x.tuple.log ++ [⟨x.tuple.term, 0, 0⟩] }, 0) h hbd' x.next.length 0 Xw (by omega) (by omega) (by have := hx.ln; unfold Xw; omega)
    rw [mapTo_zero, mapTo_zero] at hloop
    simp only [Ji, Zbp x hx, Zbu x hx, Jz, Y4 h, happ, Option.bind_some, Bool.cond_decide, if_neg (show ¬ x.role ≠ 1 from fun h => h hr), Bool.not_true, cond_false, if_neg (show ¬ (0 : Int) ≠ 0 by decide)]
    dsimp only at hloop
    rw [Zhd] at hloop
    exact hloop
  ·refine ⟨_, p_Lead_no x h hr, ?_, hx⟩
   simp only [Ji, Zbp x hx, Zbu x hx, Jz, Y4 h, Option.bind_some, Bool.cond_decide, if_pos (show x.role ≠ 1 from hr), Bool.not_true, cond_false]
 ·refine ⟨x, ?_, ?_, hx⟩
  ·simp only [Vi, Ze0 x hx, Zci x hx, Jz, Ya h, Option.bind_some, Bool.cond_decide, Bool.not_false, cond_true, ite_self]
  ·simp only [Ji, Zbp x hx, Zbu x hx, Jz, Ya h, Option.bind_some, Bool.not_false, cond_true]
def Zco (x : Co) : Co := { x with tuple := { x.tuple with term := x.tuple.term + 1, vote := x.id }, role := 1, votes := (List.replicate x.n.toNat false).set (x.id - 1).toNat true }
theorem time_right (x : Co) (h : RightC x) (ht : x.tuple.term < 1073741824) : RightC (Zco x) ∧ Jg x.tuple (x.tuple.term + 1) x.id = some ({ x.tuple with term := x.tuple.term + 1, vote := x.id }, 0) := by
 have hid := h.id
 have hn := h.n
 have hs := (Zcs _).1 h.tup
 have h0 : 0 ≤ x.tuple.term := by
  have h1 := lastT_mono _ _ hs.2.2.1
  have h2 := hs.2.2.2
  rcases hs.1 with h3 | h3
  ·rw [h3] at h1 h2; have : firstS.term = 0 := rfl; omega
  ·omega
 have hh := Zgg x.tuple (x.tuple.term + 1) x.id h.tup (.inl (by omega)) (by omega) (by omega)
 refine ⟨⟨h.n, h.id, by show (1 : Int) ≤ 2; decide, h.bin, hh.1, h.st, ?_, h.ln, h.lm, h.lc, h.next, h.mtch, h.caps, h.own, .inr ⟨by show 0 < x.tuple.term + 1; omega, rfl⟩⟩, hh.2⟩
 show (((List.replicate x.n.toNat false).set _ true).length : Int) = x.n
 rw [List.length_set, List.length_replicate]
 omega
theorem timeout_eq (x : Co) (hx : BdC x) : ∃ y l, Ve x = some (y, l) ∧ V1 x = some (y, l) ∧ BdC y ∧ l.length ≤ 1000000 ∧ ∀ a ∈ l, a.entries.length ≤ 1000000 := by
 have nil : ∀ a ∈ ([] : List Ms), a.entries.length ≤ 1000000 := fun _ h => by cases h
 by_cases h : RightC x
 case neg =>
  refine ⟨x, [], ?_, ?_, hx, by simp, nil⟩
  ·simp only [Ve, Ze0 x hx, Zci x hx, Jz, Ya h, Option.bind_some, Bool.not_false, cond_true]
  ·simp only [V1, Zbp x hx, Zbu x hx, Jz, Ya h, Option.bind_some, Bool.not_false, cond_true]
 have htb := ((Zcs _).1 h.tup).2.1.2.2.2.2
 by_cases hr : x.role = 2
 ·refine ⟨x, [], ?_, ?_, hx, by simp, nil⟩
  ·simp only [Ve, Ze0 x hx, Zci x hx, Jz, Y4 h, Option.bind_some, Bool.not_true, cond_false, Bool.cond_decide, if_pos hr]
  ·simp only [V1, Zbp x hx, Zbu x hx, Jz, Y4 h, Option.bind_some, Bool.not_true, cond_false, Bool.cond_decide, if_pos hr]
 by_cases ht : x.tuple.term = 1073741824
 ·refine ⟨x, [], ?_, ?_, hx, by simp, nil⟩
  ·simp only [Ve, Ze0 x hx, Zci x hx, Jz, Y4 h, Option.bind_some, Bool.not_true, cond_false, Bool.cond_decide, if_neg hr, if_pos ht]
  ·simp only [V1, Zbp x hx, Zbu x hx, Jz, Y4 h, Option.bind_some, Bool.not_true, cond_false, Bool.cond_decide, if_neg hr, if_pos (show 1073741824 ≤ x.tuple.term by omega)]
 obtain ⟨hR, hH⟩ := time_right x h (by omega)
 have hid := h.id
 have hn := h.n
 have hbd := hR.bd
 obtain ⟨N, hN⟩ : ∃ N : Nat, x.n = (N : Int) := ⟨x.n.toNat, by omega⟩
 have hk : makeI false x.n = some (List.replicate x.n.toNat false) := by rw [hN, makeI_nat _ N (by omega), Int.toNat_natCast]
 have hw : IntKind.wrap .i64 (x.id - 1) = (((x.id - 1).toNat : Nat) : Int) := by rw [Zb7 (by omega)]; omega
 have hg : idx (List.replicate x.n.toNat false) (((x.id - 1).toNat : Nat) : Int) = some false := by rw [J5, List.getElem?_replicate, if_pos (by omega)]
 have hi : idx [x.id] 0 = some x.id := rfl
 have hlv : ((List.replicate x.n.toNat false).set (x.id - 1).toNat true).length ≤ 1000000 := by rw [List.length_set, List.length_replicate]; omega
 have hwt : IntKind.wrap .i64 (x.tuple.term + 1) = x.tuple.term + 1 := by
  have := hR.tup
  have h0 := ((Zcs _).1 h.tup).2.2
  have h1 := lastT_mono _ _ h0.1
  have hs := ((Zcs _).1 h.tup).1
  rcases hs with h3 | h3
  ·rw [h3] at h1 h0; have : firstS.term = 0 := rfl; exact Zb7 (by omega)
  ·exact Zb7 (by omega)
 have hH2 : J6 x.tuple (x.tuple.term + 1) x.id = some ({ x.tuple with term := x.tuple.term + 1, vote := x.id }, 0) := by rw [hard_same _ _ _ hx.tup.1]; exact hH
 have hla := p_Last12 (Zco x).tuple hbd.tup
 have hend := p_end (Zco x) hbd
 have hlt : V9 (Zco x) = some (endT (Zco x).tuple) := by
  simp only [V9, hla, p_TermAt12 _ _ hbd.tup, termAt_last, Option.bind_some, Option.getD_some]
 have hot := p_Others_is (Zco x) ⟨1, 0, 0, 0, 0, (Zco x).tuple.last, endT (Zco x).tuple, 0, false, [], ⟨0, 0, 0, 0, false⟩⟩ hR (by simp)
 have hot2 := p_Others20 (Zco x) ⟨1, 0, 0, 0, 0, (Zco x).tuple.last, endT (Zco x).tuple, 0, false, [], ⟨0, 0, 0, 0, false⟩⟩ hR (by simp)
 rw [hot.1] at hot2
 obtain ⟨y, hy1, hy2, hy3⟩ := lead_eq (Zco x) hbd
 have e1 : Ve x = (cond (halfB (Zco x).votes) ((Vi (Zco x)).bind fun r78 => some (r78, [])) ((Zcw (Zco x)).bind fun r101 => (Zb0 (Zco x) ⟨1, 0, 0, 0, 0, r101.1, r101.2, 0, false, [], ⟨0, 0, 0, 0, false⟩⟩).bind fun r104 => some (Zco x, r104))) := by
  simp only [Ve, Ze0 x hx, Zci x hx, Jz, Y4 h, Option.bind_some, Bool.not_true, cond_false, Bool.cond_decide, if_neg hr, if_neg ht, hwt, hH, hk, hi, hw, hg, Zfb, p_Half _ hlv]
  rfl
 have e2 : V1 x = (Vq (Zco x).tuple).bind fun r56 => (V9 (Zco x)).bind fun r58 => (cond (halfB (Zco x).votes) ((Ji (Zco x)).bind fun r68 => some (r68, [])) ((Zct (Zco x) ⟨1, 0, 0, 0, 0, r56, r58, 0, false, [], ⟨0, 0, 0, 0, false⟩⟩).bind fun r91 => some (Zco x, r91))) := by
  simp only [V1, Zbp x hx, Zbu x hx, Jz, Y4 h, Option.bind_some, Bool.not_true, cond_false, Bool.cond_decide, if_neg hr, if_neg (show ¬ 1073741824 ≤ x.tuple.term by omega), hwt, hH2, hk, hw, hg, Zfb, p_Half22 _ hlv]
  rfl
 rw [e1, e2, hla, Option.bind_some, hlt, Option.bind_some, hend, Option.bind_some]
 dsimp only
 rw [hot.1, hot2, hy1, hy2]
 cases halfB (Zco x).votes with
 | true => exact ⟨_, _, rfl, rfl, hy3, by simp, nil⟩
 | false =>
  refine ⟨_, _, rfl, rfl, hbd, by rw [List.length_map]; omega, fun a ha => ?_⟩
  obtain ⟨d, _, rfl⟩ := List.mem_map.1 ha
  show ([] : List En).length ≤ 1000000
  simp
theorem vote_eq (x : Co) (m : Ms) (hx : BdC x) (hm : BdM m) : ∃ y l, V2 x m = some (y, l) ∧ Zcb x m = some (y, l) ∧ BdC y ∧ l.length ≤ 1000000 ∧ ∀ a ∈ l, a.entries.length ≤ 1000000 := by
 by_cases c : ToC x m ∧ m.kind = 1
 case neg =>
  refine ⟨x, [], p_Vote_no x m hx hm c, ?_, hx, by simp, fun _ h => by cases h⟩
  simp only [Zcb, Zbp x hx, Ze7 x m hx hm, Option.bind_some, Bool.cond_decide]
  by_cases c1 : ToC x m
  case neg => rw [Ya c1]; rfl
  rw [Y4 c1]
  simp only [Bool.not_true, cond_false]
  rw [if_pos (fun h2 => c ⟨c1, h2⟩)]
 obtain ⟨h, hk⟩ := c
 have hy := Zex x m h.2.1
 have hbdy := hy.bd
 have one : ∀ (y : Co) (ok : Bool), ∀ a ∈ [backM y m 2 ok 0], a.entries.length ≤ 1000000 := fun y ok a ha => by
  obtain rfl : a = backM y m 2 ok 0 := by simpa using ha
  show ([] : List En).length ≤ 1000000
  simp
 by_cases hF : FreeP (Xb x m) m
 ·refine ⟨_, _, p_Vote_yes x m hm h hk hF, ?_, (voted_right x m h hF).bd, by simp, one _ _⟩
  obtain ⟨f1, f2, f3, f4⟩ := hF
  have hd := (Zgg (Xb x m).tuple m.term m.frm hy.tup (.inr ⟨f3, f1⟩) h.2.2.term.2 (by have := h.2.2.frm; have := h.2.2.many; omega)).2
  rw [← hard_same _ _ _ hbdy.tup.1] at hd
  simp only [Zcb, Zbp x hx, Ze7 x m hx hm, p_Meet22 x m hx hm, Y4 h, Option.bind_some, Bool.cond_decide, Bool.not_true, cond_false, if_neg (show ¬ m.kind ≠ 1 from fun h => h hk), if_pos f2, if_pos f3, p_Newer22 _ _ _ hy, Y4 f4, cond_true, hd, Jj]
  rcases f1 with f1 | f1
  ·rw [if_pos f1]; rfl
  ·by_cases c : (Xb x m).tuple.vote = 0
   ·rw [if_pos c]; rfl
   ·rw [if_neg c, if_pos f1]; rfl
 ·refine ⟨_, _, p_Vote_none x m hm h hk hF, ?_, hbdy, by simp, one _ _⟩
  have key : ((Xb x m).tuple.vote = 0 ∨ (Xb x m).tuple.vote = m.frm) → (Xb x m).role = 0 → m.term = (Xb x m).tuple.term → Zfl (NewP (Xb x m) m.lastTerm m.last) = false := fun a b c => Ya fun d => hF ⟨a, b, c, d⟩
  simp only [Zcb, Zbp x hx, Ze7 x m hx hm, p_Meet22 x m hx hm, Y4 h, Option.bind_some, Bool.cond_decide, Bool.not_true, cond_false, if_neg (show ¬ m.kind ≠ 1 from fun h => h hk), p_Newer22 _ _ _ hy, Jj]
  by_cases c3 : m.term = (Xb x m).tuple.term
  ·rw [if_pos c3]
   by_cases c2 : (Xb x m).role = 0
   ·rw [if_pos c2]
    by_cases c1 : (Xb x m).tuple.vote = 0
    ·rw [if_pos c1, key (.inl c1) c2 c3]; rfl
    ·rw [if_neg c1]
     by_cases c4 : (Xb x m).tuple.vote = m.frm
     ·rw [if_pos c4, key (.inr c4) c2 c3]; rfl
     ·rw [if_neg c4]; rfl
   ·rw [if_neg c2]; rfl
  ·rw [if_neg c3]; rfl
theorem voted_eq (x : Co) (m : Ms) (hx : BdC x) (hm : BdM m) : ∃ y, J8 x m = some (y, []) ∧ Zaz x m = some (y, []) ∧ BdC y := by
 by_cases h : ToC x m
 case neg =>
  refine ⟨x, ?_, ?_, hx⟩
  ·simp only [J8, Ze0 x hx, p_fits x m hx hm, Ya h, Option.bind_some, Bool.not_false, cond_true]
  ·simp only [Zaz, Zbp x hx, Ze7 x m hx hm, Ya h, Option.bind_some, Bool.not_false, cond_true]
 by_cases hk : m.kind = 2
 case neg =>
  refine ⟨x, ?_, ?_, hx⟩
  ·simp only [J8, Ze0 x hx, p_fits x m hx hm, Y4 h, Option.bind_some, Bool.not_true, cond_false, Bool.cond_decide, if_pos (show m.kind ≠ 2 from hk)]
  ·simp only [Zaz, Zbp x hx, Ze7 x m hx hm, Y4 h, Option.bind_some, Bool.not_true, cond_false, Bool.cond_decide, if_pos (show m.kind ≠ 2 from hk)]
 have hy := Zex x m h.2.1
 have hmf := meet_f x m
 have hbdy := hy.bd
 have hlv := hy.lv
 have hn := h.2.1.n
 have hfr := h.2.2.frm
 have hw : IntKind.wrap .i64 (m.frm - 1) = (((m.frm - 1).toNat : Nat) : Int) := by rw [Zb7 (by omega)]; omega
 have hnn := hmf.n
 obtain ⟨e, he, _⟩ := Xo (show (m.frm - 1).toNat < (Xb x m).votes.length by omega)
 have hl : ((Xb x m).votes.set (m.frm - 1).toNat true).length ≤ 1000000 := by rw [List.length_set]; exact hbdy.lv
 have hz : BdC { Xb x m with votes := (Xb x m).votes.set (m.frm - 1).toNat true } := ⟨hbdy.tup, hl, hbdy.ln, hbdy.lm, hbdy.lc⟩
 obtain ⟨z, hz1, hz2, hz3⟩ := lead_eq _ hz
 have k1 : J8 x m = cond (!m.okk) (some (Xb x m, [])) (if (Xb x m).role ≠ 1 then some (Xb x m, []) else if m.term ≠ (Xb x m).tuple.term then some (Xb x m, []) else cond (halfB ((Xb x m).votes.set (m.frm - 1).toNat true)) (some (z, [])) (some ({ Xb x m with votes := (Xb x m).votes.set (m.frm - 1).toNat true }, []))) := by
  simp only [J8, p_fits x m hx hm, p_Meet x m hx hm, Y4 h, Option.bind_some, Bool.cond_decide, Bool.not_true, cond_false, if_neg (show ¬ m.kind ≠ 2 from fun h => h hk), hw, J5, he, Zfb, p_Half _ hl, hz1]
 have k2 : Zaz x m = if (Xb x m).role ≠ 1 then some (Xb x m, []) else if m.term ≠ (Xb x m).tuple.term then some (Xb x m, []) else cond (!m.okk) (some (Xb x m, [])) (cond (halfB ((Xb x m).votes.set (m.frm - 1).toNat true)) (some (z, [])) (some ({ Xb x m with votes := (Xb x m).votes.set (m.frm - 1).toNat true }, []))) := by
  simp only [Zaz, Zbp x hx, Ze7 x m hx hm, p_Meet22 x m hx hm, Y4 h, Option.bind_some, Bool.cond_decide, Bool.not_true, cond_false, if_neg (show ¬ m.kind ≠ 2 from fun h => h hk), hw, J5, he, Zfb, p_Half22 _ hl, hz2]
 rw [k1, k2]
 by_cases c1 : (Xb x m).role = 1
 case neg => simp only [ne_eq, if_pos (show ¬ (Xb x m).role = 1 from c1)]; exact ⟨Xb x m, by cases m.okk <;> rfl, rfl, hbdy⟩
 simp only [ne_eq, if_neg (show ¬ ¬ (Xb x m).role = 1 from fun h => h c1)]
 by_cases c2 : m.term = (Xb x m).tuple.term
 case neg => simp only [if_pos (show ¬ m.term = (Xb x m).tuple.term from c2)]; exact ⟨Xb x m, by cases m.okk <;> rfl, rfl, hbdy⟩
 simp only [if_neg (show ¬ ¬ m.term = (Xb x m).tuple.term from fun h => h c2)]
 cases m.okk with
 | false => exact ⟨_, rfl, rfl, hbdy⟩
 | true =>
  cases halfB ((Xb x m).votes.set (m.frm - 1).toNat true) with
  | true => exact ⟨_, rfl, rfl, hz3⟩
  | false => exact ⟨_, rfl, rfl, hz⟩
theorem newer_eq (x : Co) (a b : Int) (hx : BdC x) : ∃ r, Vx x a b = some r ∧ J7 x a b = some r := by
 by_cases h : RightC x
 ·exact ⟨_, p_Newer x a b h, p_Newer22 x a b h⟩
 ·refine ⟨false, ?_, ?_⟩
  ·simp only [Vx, Zci x hx, Jz, Ya h, Option.bind_some, Bool.not_false, cond_true]
  ·simp only [J7, Zbu x hx, Jz, Ya h, Option.bind_some, Bool.not_false, cond_true]
theorem meet_bd (x : Co) (m : Ms) (hx : BdC x) : BdC (Xb x m) := by
 by_cases h : RightC x
 ·exact (Zex x m h).bd
 ·have : Xb x m = x := by
   unfold Xb
   rw [if_neg (fun h2 => h h2.1.2.1)]
   exact hear_no x m (fun h2 => h h2.2.1)
  rw [this]; exact hx
theorem p_ElectTells (x : Co) (m : Ms) (a b : Int) (l : List Bool) (hk : 0 ≤ m.kind ∧ m.kind ≤ 255) : Zcc x m a b l = some true := by
 obtain ⟨g, hg⟩ := p_Great_some x
 unfold Zcc
 simp only [hg, p_wakes22, Option.bind_some]
 cases g with
 | true => rfl
 | false =>
 have hx := (p_Great_no x hg).1
 simp only [cond_false, Bool.cond_decide]
 by_cases c1 : (20 : Int) < (m.entries.length : Int)
 ·rw [if_pos c1]
 rw [if_neg c1]
 by_cases c2 : (20 : Int) < (l.length : Int)
 ·rw [if_pos c2]
 rw [if_neg c2]
 by_cases c3 : 1099511627776 < x.commit
 ·rw [if_pos c3]
 rw [if_neg c3]
 by_cases c4 : x.commit < -1099511627776
 ·rw [if_pos c4]
 rw [if_neg c4]
 have hm : BdM m := ⟨hk, by omega⟩
 obtain ⟨y1, l1, h1, h2, h3, h4, h5⟩ := timeout_eq x hx
 obtain ⟨y2, l2, i1, i2, i3, i4, i5⟩ := vote_eq x m hx hm
 obtain ⟨y3, j1, j2, j3⟩ := voted_eq x m hx hm
 obtain ⟨y4, k1, k2, k3⟩ := lead_eq x hx
 obtain ⟨r, n1, n2⟩ := newer_eq x a b hx
 have s1 := p_Same20 y1 y1 h3
 have s2 := p_Same20 y2 y2 i3
 have s3 := p_Same20 y3 y3 j3
 have s4 := p_Same20 y4 y4 k3
 have s5 := p_Same20 _ (Xb x m) (meet_bd x m hx)
 have a0 := p_All_self [] (by simp) (fun _ h => by cases h)
 simp only [h1, h2, i1, i2, j1, j2, k1, k2, n1, n2, p_Meet x m hx hm, p_Meet22 x m hx hm, p_Half l (by omega), p_Half22 l (by omega), Option.bind_some, s1, s2, s3, s4, s5, p_All_self l1 h4 h5, p_All_self l2 i4 i5, a0, decide_true, Bool.not_true, cond_false, cond_true, if_true]
end

end Go.Proofs.YtamjlcaoieliaaaGreat
