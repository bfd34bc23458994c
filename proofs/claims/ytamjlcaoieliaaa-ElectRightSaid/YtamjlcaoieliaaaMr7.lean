/- Texts of one claim put together. -/
import Derived.Test.YtamjlcaoieliaaaMr2
import Derived.Test.YtamjlcaoieliaaaMr1
namespace Go.Proofs.Ytamjlcaoieliaaa

section
open Go Go.RowKit
set_option maxRecDepth 100000
theorem lastT_mono (t : Int) (l : List En) (h : Zev t l = true) : t ≤ Zee t l := by
 induction l generalizing t with
 | nil => exact Int.le_refl _
 | cons e l ih =>
  simp only [Zev, Bool.and_eq_true, decide_eq_true_eq] at h
  exact Int.le_trans h.1.2 (ih _ h.2)
theorem Zb8 (t : Tu) : Zas t = true ↔ FineP t.snap ∧ (t.snap.index ≤ 1073740824 ∧ t.log.length ≤ 200 ∧ 0 ≤ t.vote ∧ t.vote ≤ 5 ∧ t.term ≤ 1073741824) ∧ Zev t.snap.term t.log = true ∧ Zee t.snap.term t.log ≤ t.term := by
 unfold Zas
 simp only [Bool.and_eq_true, decide_eq_true_eq, Zcl, and_assoc]
theorem chg_yes (x y : Tu) (res : Option Tu) (hx : Zas x = true) (h : res = some y) (hy : Zas y = true) : Zct x res = y ∧ chgE x res = 0 := by
 have : Zca x res = some y := by unfold Zca; rw [if_pos hx, h]; exact if_pos hy
 unfold Zct chgE
 rw [this]
 exact ⟨rfl, rfl⟩
theorem termAt_log (x : Tu) (k : Nat) (hk : k ≤ x.log.length) : termAt x (x.snap.index + k) = some (Zee x.snap.term (x.log.take k)) := by
 unfold termAt Tu.last
 cases k with
 | zero => rw [if_pos (by simp)]; rfl
 | succ k =>
  rw [if_neg (by omega), if_pos (by omega)]
  have : (x.snap.index + ((k + 1 : Nat) : Int) - x.snap.index - 1).toNat = k := by omega
  rw [this, List.getElem?_eq_getElem (by omega), List.take_add_one, List.getElem?_eq_getElem (by omega)]
  show _ = some (Zee _ (_ ++ [x.log[k]]))
  rw [lastT_snoc]; rfl
end
section
open Go Go.RowKit
set_option maxRecDepth 100000
theorem p_number (x : Int) : Jo x = some (numB x) := by
 unfold Jo numB
 by_cases h : 0 ≤ x <;> simp [h]
theorem p_Fine (x : St) : Jb x = some (Zbd x) := by
 obtain ⟨i, t, s, l, f⟩ := x
 simp only [Jb, Zai, p_number, Option.bind_some, Zbd, firstS, numB, St.mk.injEq, Bool.cond_not, Bool.cond_decide]
 cases f <;> (repeat' split) <;> simp_all <;> omega
theorem p_Right (x : En) : Zbc x = some (Jm x) := by
 obtain ⟨t, k, v⟩ := x
 simp only [Zbc, p_number, Option.bind_some, Jm, numB, Bool.cond_not, Bool.cond_decide]
 (repeat' split) <;> (refine congrArg some ?_; rw [Bool.eq_iff_iff]; simp only [decide_eq_true_eq, true_iff, Bool.false_eq_true, false_iff]; omega)
theorem p_Right12_l1 (x : Tu) (hl : x.log.length ≤ 1000000) : ∀ (m k n : Nat) (b : Bool) (t : Int), m = x.log.length - k → k ≤ x.log.length → m < n →
  J0 x n b t k = some (Zev t (x.log.drop k) && decide (Zee t (x.log.drop k) ≤ x.term ∧ 0 ≤ x.term ∧ x.term ≤ 1073741824)) := by
 intro m
 induction m with
 | zero =>
  intro k n b t hm hk hn
  obtain ⟨n, rfl⟩ : ∃ n', n = n' + 1 := ⟨n - 1, by omega⟩
  have hkl : k = x.log.length := by omega
  have hd : x.log.drop k = [] := List.drop_eq_nil_of_le (by omega)
  rw [J0, hd]
  simp only [Zev, Bool.cond_decide, if_neg (show ¬ ((k : Int) < (x.log.length : Int)) by omega), Bool.true_and]
  (repeat' split) <;> (refine congrArg some ?_; rw [Bool.eq_iff_iff]; simp only [decide_eq_true_eq, true_iff, Bool.false_eq_true, false_iff]; simp only [Zee]; omega)
 | succ m ih =>
  intro k n b t hm hk hn
  obtain ⟨n, rfl⟩ : ∃ n', n = n' + 1 := ⟨n - 1, by omega⟩
  obtain ⟨e, he, hd⟩ := Vj (show k < x.log.length by omega)
  have hi := ih (k + 1) n b e.term (by omega) (by omega) (by omega)
  rw [J0, hd]
  simp only [Bool.cond_decide, if_pos (show ((k : Int) < (x.log.length : Int)) by omega), Vx, he, Option.bind_some, p_Right, Bool.cond_not, Zev, Zee]
  rw [Zdj (by omega), show ((k : Int) + 1) = ((k + 1 : Nat) : Int) by omega, hi]
  cases hr : Jm e with
  | false => rfl
  | true =>
   simp only [cond_true, Bool.true_and]
   by_cases h : e.term < t
   ·rw [if_pos h, decide_eq_false (show ¬ (t ≤ e.term) by omega)]; rfl
   ·rw [if_neg h, decide_eq_true (show t ≤ e.term by omega)]; rfl
theorem p_Right12 (x : Tu) : Zcw x = some (Zas x) := by
 have key : Zas x = (Zbd x.snap && decide (x.snap.index ≤ 1073740824 ∧ x.log.length ≤ 200 ∧ 0 ≤ x.vote ∧ x.vote ≤ 5) && (Zev x.snap.term x.log && decide (Zee x.snap.term x.log ≤ x.term ∧ 0 ≤ x.term ∧ x.term ≤ 1073741824))) := by
  rw [Bool.eq_iff_iff]
  unfold Zas
  simp only [Bool.and_eq_true, decide_eq_true_eq]
  constructor
  ·rintro ⟨⟨⟨h1, h2⟩, h3⟩, h4⟩
   have h5 := lastT_mono _ _ h3
   have h6 : 0 ≤ x.snap.term := by
    rcases (Zcl _).1 h1 with h | h
    ·rw [h]; decide
    ·omega
   exact ⟨⟨h1, by omega⟩, h3, by omega⟩
  ·rintro ⟨⟨h1, h2⟩, h3, h4⟩
   exact ⟨⟨⟨h1, by omega⟩, h3⟩, by omega⟩
 rw [key]
 simp only [Zcw, p_Fine, Option.bind_some, Bool.cond_not, Bool.cond_decide]
 cases hf : Zbd x.snap with
 | false => rfl
 | true =>
  simp only [cond_true, Bool.true_and]
  by_cases h1 : x.snap.index ≤ 1073740824 ∧ x.log.length ≤ 200 ∧ 0 ≤ x.vote ∧ x.vote ≤ 5
  ·rw [if_neg (by omega), if_neg (by omega), if_neg (by omega), if_neg (by omega), decide_eq_true h1, Bool.true_and]
   have := p_Right12_l1 x (by omega) x.log.length 0 Yy false x.snap.term (by omega) (by omega) (by unfold Yy; omega)
   exact this
  ·rw [decide_eq_false h1, Bool.false_and]
   (repeat' split) <;> first | rfl | (exfalso; omega)
theorem p_Same_l1 (a b : List En) (hl : a.length ≤ 1000000) (hab : a.length = b.length) : ∀ (m k n : Nat) (v : Bool), m = a.length - k → k ≤ a.length → m < n → Zad a b n v k = some (decide (a.drop k = b.drop k)) := by
 intro m
 induction m with
 | zero =>
  intro k n v hm hk hn
  obtain ⟨n, rfl⟩ : ∃ n', n = n' + 1 := ⟨n - 1, by omega⟩
  rw [Zad, List.drop_eq_nil_of_le (by omega), List.drop_eq_nil_of_le (by omega)]
  simp only [Bool.cond_decide, if_neg (show ¬ ((k : Int) < (a.length : Int)) by omega)]
  rfl
 | succ m ih =>
  intro k n v hm hk hn
  obtain ⟨n, rfl⟩ : ∃ n', n = n' + 1 := ⟨n - 1, by omega⟩
  obtain ⟨e, he, hd⟩ := Vj (show k < a.length by omega)
  obtain ⟨f, hf, hd2⟩ := Vj (show k < b.length by omega)
  rw [Zad, hd, hd2]
  simp only [Bool.cond_decide, if_pos (show ((k : Int) < (a.length : Int)) by omega), Vx, he, hf, Option.bind_some, en_eq, Bool.cond_not]
  rw [Zdj (by omega), show ((k : Int) + 1) = ((k + 1 : Nat) : Int) by omega, ih (k + 1) n v (by omega) (by omega) (by omega)]
  by_cases h : e = f
  ·subst h; rw [if_pos rfl]; congr 1; rw [Bool.eq_iff_iff]; simp
  ·rw [if_neg h]; congr 1; rw [Bool.eq_iff_iff]; simp [h]
theorem p_Same (a b : List En) (hl : a.length ≤ 1000000) : Va a b = some (decide (a = b)) := by
 unfold Va
 by_cases h : a.length = b.length
 ·simp only [Bool.cond_decide, if_neg (show ¬ ((a.length : Int) ≠ (b.length : Int)) by omega)]
  have := p_Same_l1 a b hl h a.length 0 Yy false (by omega) (by omega) (by unfold Yy; omega)
  simpa using this
 ·simp only [Bool.cond_decide, if_pos (show ((a.length : Int) ≠ (b.length : Int)) by omega)]
  rw [decide_eq_false (fun h' => h (by rw [h']))]
def bdT (x : Tu) : Prop := x.log.length ≤ 1000000 ∧ -2000000000000 ≤ x.snap.index ∧ x.snap.index ≤ 2000000000000
theorem q_Right (x : Tu) (h : bdT x) : Zcz x = some (Zas x) := by unfold Zcz; rw [okT_iff.2 h]; rfl
theorem q_State_yes (x : Tu) (k : Nat) (h : bdT x) (hk : k ≤ x.log.length) : J5 x (x.snap.index + k) = some (allS x.snap (x.log.take k), true) := by
 unfold J5
 rw [okT_iff.2 h, decide_eq_true (by omega)]
 have : (x.snap.index + (k : Int) - x.snap.index).toNat = k := by omega
 rw [this]; rfl
theorem q_State_no (x : Tu) (i : Int) (h : bdT x) (hi : i < x.snap.index ∨ x.snap.index + x.log.length < i) : J5 x i = some (⟨0, 0, 0, 0, false⟩, false) := by
 unfold J5
 rw [okT_iff.2 h, decide_eq_false (by omega)]; rfl
theorem p_tLast (x : Tu) (h : bdT x) : Za0 x = some x.last := by unfold Za0 Tu.last; obtain ⟨h1, h2, h3⟩ := h; rw [Zdj (by omega)]
theorem p_Last12 (x : Tu) (h : bdT x) : Zcf x = some x.last := p_tLast x h
theorem p_Next (s : St) (e : En) : Zck s e = some (Zbk s e) := by
 simp only [Zck, p_Right, p_Fine, Option.bind_some]
 by_cases hc : Jm e = true ∧ Zbd s = true ∧ s.index < 1073741824
 ·obtain ⟨hr, hf, hi⟩ := hc
  have hn : Zbk s e = Zdp e.kind e.value { s with index := s.index + 1, term := e.term } := by unfold Zbk; rw [if_pos ⟨hr, hf, hi⟩]
  have hb : 0 ≤ s.index ∧ 0 ≤ s.sum ∧ s.sum ≤ 1073741824 := by
   rcases (Zcl s).1 hf with h | h
   ·rw [h]; decide
   ·omega
  have hv : 0 ≤ e.value ∧ e.value ≤ 1073741824 := by
   unfold Jm at hr; simp only [decide_eq_true_eq] at hr; omega
  have w0 : IntKind.wrap .i64 (s.index + 1) = s.index + 1 := Zdj (by omega)
  have w1 : IntKind.wrap .i64 (31 * s.sum) = 31 * s.sum := Zdj (by omega)
  have w2 : IntKind.wrap .i64 (31 * s.sum + e.value) = 31 * s.sum + e.value := Zdj (by omega)
  have w3 : IntKind.wrap .i64 (31 * s.sum + e.value + 1) = 31 * s.sum + e.value + 1 := Zdj (by omega)
  rw [hn, hr, hf, w0, w1, w2, w3, Int.tmod_eq_emod_of_nonneg (by omega), decide_eq_false (show ¬ (1073741824 ≤ s.index) by omega)]
  simp only [Bool.not_true, cond_false, Bool.cond_decide]
  unfold Zdp
  by_cases k1 : e.kind = 1
  ·rw [if_pos k1, if_pos k1]
  ·rw [if_neg k1, if_neg k1]
   by_cases k2 : e.kind = 2
   ·rw [if_pos k2, if_pos k2]
   ·rw [if_neg k2, if_neg k2]
    by_cases k3 : e.kind = 3
    ·rw [if_pos k3, if_pos k3]
     cases hF : s.final <;> rfl
    ·rw [if_neg k3, if_neg k3]
     by_cases k4 : e.kind = 4
     ·rw [if_pos k4, if_pos k4]
     ·rw [if_neg k4, if_neg k4]
 ·have hn : Zbk s e = s := by unfold Zbk; rw [if_neg hc]
  rw [hn]
  cases hr : Jm e with
  | false => rfl
  | true =>
   cases hf : Zbd s with
   | false => rfl
   | true =>
    rw [decide_eq_true (show 1073741824 ≤ s.index by
     have : ¬ (s.index < 1073741824) := fun h => hc ⟨hr, hf, h⟩
     omega)]
    rfl
theorem p_All_l1 (l : List En) (hl : l.length ≤ 1000000) : ∀ (m k n : Nat) (s : St), m = l.length - k → k ≤ l.length → m < n → Zan l n k s.index s.term s.sum s.level s.final = some (allS s (l.drop k)) := by
 intro m
 induction m with
 | zero =>
  intro k n s hm hk hn
  obtain ⟨n, rfl⟩ : ∃ n', n = n' + 1 := ⟨n - 1, by omega⟩
  rw [Zan, List.drop_eq_nil_of_le (by omega)]
  simp only [Bool.cond_decide, if_neg (show ¬ ((k : Int) < (l.length : Int)) by omega)]
  rfl
 | succ m ih =>
  intro k n s hm hk hn
  obtain ⟨n, rfl⟩ : ∃ n', n = n' + 1 := ⟨n - 1, by omega⟩
  obtain ⟨e, he, hd⟩ := Vj (show k < l.length by omega)
  rw [Zan, hd]
  simp only [Bool.cond_decide, if_pos (show ((k : Int) < (l.length : Int)) by omega), Vx, he, Option.bind_some]
  have : Zck ⟨s.index, s.term, s.sum, s.level, s.final⟩ e = some (Zbk s e) := p_Next s e
  rw [this, Option.bind_some, Zdj (by omega), show ((k : Int) + 1) = ((k + 1 : Nat) : Int) by omega, ih (k + 1) n (Zbk s e) (by omega) (by omega) (by omega)]
  rfl
theorem p_All (s : St) (l : List En) (hl : l.length ≤ 1000000) : Zfw s l = some (allS s l) := p_All_l1 l hl l.length 0 Yy s (by omega) (by omega) (by unfold Yy; omega)
theorem p_State12 (x : Tu) (i : Int) (h : bdT x) : Zbx x i = J5 x i := by
 have h1 := h.1
 have h2 := h.2
 unfold Zbx
 rw [p_Last12 x h]
 simp only [Option.bind_some, Bool.cond_decide, Tu.last]
 by_cases h3 : i < x.snap.index
 ·rw [if_pos h3, q_State_no x i h (.inl h3)]
 ·rw [if_neg h3]
  by_cases h4 : x.snap.index + (x.log.length : Int) < i
  ·rw [if_pos h4, q_State_no x i h (.inr h4)]
  ·rw [if_neg h4]
   obtain ⟨k, hk⟩ : ∃ k : Nat, i = x.snap.index + (k : Int) := ⟨(i - x.snap.index).toNat, by omega⟩
   have w1 : IntKind.wrap .i64 (i - x.snap.index) = (k : Int) := by rw [Zdj (by omega)]; omega
   rw [w1, takeI_nat _ _ (by omega), Option.bind_some, p_All _ _ (by rw [List.length_take]; omega), hk, q_State_yes x k h (by omega)]
   rfl
end
section
open Go Go.RowKit
set_option maxRecDepth 100000
noncomputable def Zfy (p : Prop) : Bool := @decide p (Classical.propDecidable p)
theorem Xj {p : Prop} (h : p) : Zfy p = true := @decide_eq_true p (Classical.propDecidable p) h
theorem Yf {p : Prop} (h : ¬ p) : Zfy p = false := @decide_eq_false p (Classical.propDecidable p) h
theorem Vw {p q : Prop} (h : p ↔ q) : Zfy p = Zfy q := by rw [propext h]
theorem Zcu {p : Prop} [Decidable p] : decide p = Zfy p := by
 by_cases h : p
 ·rw [Xj h, decide_eq_true h]
 ·rw [Yf h, decide_eq_false h]
def InB (l : List Int) (lo hi : Int) : Prop := ∀ x ∈ l, lo ≤ x ∧ x ≤ hi
theorem Zey {lo hi : Int} : InB [] lo hi := fun _ h => by cases h
theorem InB_cons {x : Int} {l : List Int} {lo hi : Int} : InB (x :: l) lo hi ↔ (lo ≤ x ∧ x ≤ hi) ∧ InB l lo hi := by
 unfold InB
 constructor
 ·intro h; exact ⟨h x (by simp), fun y hy => h y (by simp [hy])⟩
 ·rintro ⟨h1, h2⟩ y hy
  rcases List.mem_cons.1 hy with rfl | hy
  ·exact h1
  ·exact h2 y hy
theorem InB.get {l : List Int} {lo hi : Int} (h : InB l lo hi) {i : Nat} {x : Int} (hx : l[i]? = some x) : lo ≤ x ∧ x ≤ hi := h x (List.mem_of_getElem? hx)
theorem InB.set {l : List Int} {lo hi : Int} (h : InB l lo hi) {i : Nat} {x : Int} (hx : lo ≤ x ∧ x ≤ hi) : InB (l.set i x) lo hi := fun y hy => by
 rcases List.mem_or_eq_of_mem_set hy with h1 | rfl
 ·exact h y h1
 ·exact hx
theorem p_within (x lo hi : Int) : V4 x lo hi = some (Zfy (lo ≤ x ∧ x ≤ hi)) := by
 unfold V4
 rw [Bool.cond_decide]
 by_cases h : lo ≤ x
 ·rw [if_pos h, Zcu]; congr 1; exact Vw ⟨fun h2 => ⟨h, h2⟩, fun h2 => h2.2⟩
 ·rw [if_neg h, Yf (fun h2 => h h2.1)]
theorem p_each_l1 (l : List Int) (lo hi : Int) (hl : l.length ≤ 1000000) : ∀ (m k n : Nat) (v : Int), m = l.length - k → k ≤ l.length → m < n → Za9 l lo hi n v k = some (Zfy (InB (l.drop k) lo hi)) := by
 intro m
 induction m with
 | zero =>
  intro k n v hm hk hn
  obtain ⟨n, rfl⟩ : ∃ n', n = n' + 1 := ⟨n - 1, by omega⟩
  rw [Za9, List.drop_eq_nil_of_le (by omega), Xj Zey]
  simp only [Bool.cond_decide, if_neg (show ¬ ((k : Int) < (l.length : Int)) by omega)]
  rfl
 | succ m ih =>
  intro k n v hm hk hn
  obtain ⟨n, rfl⟩ : ∃ n', n = n' + 1 := ⟨n - 1, by omega⟩
  obtain ⟨e, he, hd⟩ := Vj (show k < l.length by omega)
  rw [Za9, hd]
  simp only [Bool.cond_decide, if_pos (show ((k : Int) < (l.length : Int)) by omega), Vx, he, Option.bind_some, p_within]
  rw [Zdj (by omega), show ((k : Int) + 1) = ((k + 1 : Nat) : Int) by omega, ih (k + 1) n v (by omega) (by omega) (by omega)]
  by_cases h : lo ≤ e ∧ e ≤ hi
  ·rw [Xj h]; show some _ = _; congr 1; exact Vw ⟨fun h2 => InB_cons.2 ⟨h, h2⟩, fun h2 => (InB_cons.1 h2).2⟩
  ·rw [Yf h, Yf (fun h2 => h (InB_cons.1 h2).1), decide_eq_true (show (0 : Int) ≤ (k : Int) by omega)]; rfl
theorem p_each (l : List Int) (n lo hi : Int) (hl : l.length ≤ 1000000) : Zbr l n lo hi = some (Zfy ((l.length : Int) = n ∧ InB l lo hi)) := by
 unfold Zbr
 rw [Bool.cond_decide]
 by_cases h : (l.length : Int) = n
 ·rw [if_pos h]
  have := p_each_l1 l lo hi hl l.length 0 Yy 0 (by omega) (by omega) (by unfold Yy; omega)
  rw [show ((0 : Nat) : Int) = 0 from rfl] at this
  rw [this, List.drop_zero]
  congr 1; exact Vw ⟨fun h2 => ⟨h, h2⟩, fun h2 => h2.2⟩
 ·rw [if_neg h, Yf (fun h2 => h h2.1)]
theorem p_eRight (e : En) : Zf2 e = some (Jm e) := rfl
def stOf (t : Tu) (i : Int) : Option St := if t.snap.index ≤ i ∧ i ≤ t.last then some (allS t.snap (t.log.take (i - t.snap.index).toNat)) else none
theorem q_State (x : Tu) (i : Int) (h : bdT x) : J5 x i = some ((stOf x i).getD ⟨0, 0, 0, 0, false⟩, (stOf x i).isSome) := by
 unfold stOf Tu.last
 by_cases hi : x.snap.index ≤ i ∧ i ≤ x.snap.index + x.log.length
 ·rw [if_pos hi]
  obtain ⟨k, hk⟩ : ∃ k : Nat, i = x.snap.index + (k : Int) := ⟨(i - x.snap.index).toNat, by omega⟩
  rw [hk, q_State_yes x k h (by omega), show (x.snap.index + (k : Int) - x.snap.index).toNat = k by omega]
  rfl
 ·rw [if_neg hi, q_State_no x i h (by omega)]; rfl
structure RightC (x : Co) : Prop where
 n : 1 ≤ x.n ∧ x.n ≤ 5
 id : 1 ≤ x.id ∧ x.id ≤ x.n
 role : x.role ≤ 2
 bin : 1 ≤ x.binary ∧ x.binary ≤ 2
 tup : Zas x.tuple = true
 st : stOf x.tuple x.commit = some x.applied
 lv : (x.votes.length : Int) = x.n
 ln : (x.next.length : Int) = x.n
 lm : (x.mtch.length : Int) = x.n
 lc : (x.caps.length : Int) = x.n
 next : InB x.next 1 (x.tuple.last + 1)
 mtch : InB x.mtch 0 x.tuple.last
 caps : InB x.caps 0 2
 own : x.caps[(x.id - 1).toNat]? = some x.binary
 lead : x.role = 0 ∨ (0 < x.tuple.term ∧ x.tuple.vote = x.id)
noncomputable def Zcp (x : Co) : Bool := Zfy (RightC x)
structure BdC (x : Co) : Prop where
 tup : bdT x.tuple
 lv : x.votes.length ≤ 1000000
 ln : x.next.length ≤ 1000000
 lm : x.mtch.length ≤ 1000000
 lc : x.caps.length ≤ 1000000
theorem own_get (x : Co) (h1 : 1 ≤ x.n ∧ x.n ≤ 5) (h2 : 1 ≤ x.id ∧ x.id ≤ x.n) (h3 : (x.caps.length : Int) = x.n) : ∃ e, idx x.caps (IntKind.wrap .i64 (x.id - 1)) = some e ∧ x.caps[(x.id - 1).toNat]? = some e := by
 have hw : IntKind.wrap .i64 (x.id - 1) = (((x.id - 1).toNat : Nat) : Int) := by rw [Zdj (by omega)]; omega
 obtain ⟨e, he, _⟩ := Vj (show (x.id - 1).toNat < x.caps.length by omega)
 exact ⟨e, by rw [hw, Vx, he], he⟩
theorem last_bd {t : Tu} (h : bdT t) : -3000000000000 ≤ t.last ∧ t.last ≤ 3000000000000 := by
 obtain ⟨h1, h2, h3⟩ := h
 unfold Tu.last; omega
theorem Zdq (x : Co) (h : BdC x) : Zaj x = some (Zcp x) := by
 have hlb := last_bd h.tup
 have hw : IntKind.wrap .i64 (x.tuple.last + 1) = x.tuple.last + 1 := Zdj (by omega)
 simp only [Zaj, p_tLast x.tuple h.tup, p_within, q_Right x.tuple h.tup, q_State x.tuple x.commit h.tup, p_each x.next _ _ _ h.ln, p_each x.mtch _ _ _ h.lm, p_each x.caps _ _ _ h.lc, Option.bind_some, hw, snap_eq]
 unfold Zcp
 by_cases c1 : 1 ≤ x.n ∧ x.n ≤ 5
 case neg => rw [Yf c1, Yf (p := RightC x) fun h => c1 h.n]; rfl
 by_cases c2 : 1 ≤ x.id ∧ x.id ≤ x.n
 case neg => rw [Xj c1, Yf c2, Yf (p := RightC x) fun h => c2 h.id]; rfl
 by_cases c3 : x.role ≤ 2
 case neg => rw [Xj c1, Xj c2, decide_eq_false c3, Yf (p := RightC x) fun h => c3 h.role]; rfl
 by_cases c4 : 1 ≤ x.binary ∧ x.binary ≤ 2
 case neg => rw [Xj c1, Xj c2, decide_eq_true c3, Yf c4, Yf (p := RightC x) fun h => c4 h.bin]; rfl
 rw [Xj c1, Xj c2, decide_eq_true c3, Xj c4]
 simp only [cond_true, Bool.not_true, cond_false]
 cases c5 : Zas x.tuple
 case false => rw [Yf (p := RightC x) fun h => by have h2 := h.tup; rw [c5] at h2; cases h2]; rfl
 simp only [cond_true, Bool.not_true, cond_false]
 cases c6 : stOf x.tuple x.commit with
 | none => rw [Yf (p := RightC x) fun h => by rw [h.st] at c6; cases c6]; rfl
 | some s =>
  simp only [Option.isSome_some, Option.getD_some, cond_true]
  by_cases c7 : s = x.applied
  case neg => rw [decide_eq_false c7, Yf (p := RightC x) fun h => c7 (by have := h.st; rw [c6] at this; exact QJ this)]; rfl
  rw [decide_eq_true c7]
  simp only [cond_true, Bool.not_true, cond_false]
  by_cases c8 : (x.votes.length : Int) = x.n
  case neg => rw [decide_eq_false c8, Yf (p := RightC x) fun h => c8 h.lv]; rfl
  by_cases c9 : (x.next.length : Int) = x.n ∧ InB x.next 1 (x.tuple.last + 1)
  case neg => rw [decide_eq_true c8, Yf c9, Yf (p := RightC x) fun h => c9 ⟨h.ln, h.next⟩]; rfl
  by_cases c10 : (x.mtch.length : Int) = x.n ∧ InB x.mtch 0 x.tuple.last
  case neg => rw [decide_eq_true c8, Xj c9, Yf c10, Yf (p := RightC x) fun h => c10 ⟨h.lm, h.mtch⟩]; rfl
  by_cases c11 : (x.caps.length : Int) = x.n ∧ InB x.caps 0 2
  case neg => rw [decide_eq_true c8, Xj c9, Xj c10, Yf c11, Yf (p := RightC x) fun h => c11 ⟨h.lc, h.caps⟩]; rfl
  rw [decide_eq_true c8, Xj c9, Xj c10, Xj c11]
  obtain ⟨e, he, he2⟩ := own_get x c1 c2 c11.1
  simp only [cond_true, Bool.not_true, cond_false, Option.bind_some, he]
  by_cases c12 : e = x.binary
  case neg => rw [decide_eq_false c12, Yf (p := RightC x) fun h => c12 (by have := h.own; rw [he2] at this; exact QJ this)]; rfl
  rw [decide_eq_true c12]
  simp only [cond_true, Bool.not_true, cond_false, Bool.cond_decide]
  subst c12
  subst c7
  by_cases c13 : x.role = 0
  ·rw [if_pos c13, Xj (p := RightC x) ⟨c1, c2, c3, c4, c5, c6, c8, c9.1, c10.1, c11.1, c9.2, c10.2, c11.2, he2, .inl c13⟩]
  ·rw [if_neg c13]
   by_cases c14 : 0 < x.tuple.term
   ·rw [if_pos c14]
    by_cases c15 : x.tuple.vote = x.id
    ·rw [decide_eq_true c15, Xj (p := RightC x) ⟨c1, c2, c3, c4, c5, c6, c8, c9.1, c10.1, c11.1, c9.2, c10.2, c11.2, he2, .inr ⟨c14, c15⟩⟩]; rfl
    ·rw [decide_eq_false c15, Yf (p := RightC x) fun h => by rcases h.lead with h | h; exact c13 h; exact c15 h.2]; rfl
   ·rw [if_neg c14, Yf (p := RightC x) fun h => by rcases h.lead with h | h; exact c13 h; exact c14 h.1]
theorem Zfh (x : Co) (h : BdC x) : Zax x = some x := by
 have h1 := h.tup.1
 have h2 := h.lv
 have h3 := h.ln
 have h4 := h.lm
 have h5 := h.lc
 simp only [Zax, Zfs, Xk, Jj, Vs, Option.bind_some, fewI_ok _ (show x.tuple.log.length ≤ 1000000000 by omega), fewI_ok _ (show x.votes.length ≤ 1000000000 by omega), fewI_ok _ (show x.next.length ≤ 1000000000 by omega), fewI_ok _ (show x.mtch.length ≤ 1000000000 by omega), fewI_ok _ (show x.caps.length ≤ 1000000000 by omega)]
theorem p_Great_no (x : Co) (h : Zba x = some false) : BdC x ∧ x.votes.length ≤ 9 ∧ x.next.length ≤ 9 ∧ x.mtch.length ≤ 9 ∧ x.caps.length ≤ 9 ∧ x.tuple.log.length ≤ 250 := by
 unfold Zba Zcx at h
 simp only [Option.bind_some, Bool.cond_decide] at h
 repeat' split at h
 all_goals first | (cases h; done) | skip
 simp only [Option.some.injEq, decide_eq_false_iff_not] at h
 refine ⟨⟨⟨by omega, by omega, by omega⟩, by omega, by omega, by omega, by omega⟩, by omega, by omega, by omega, by omega, by omega⟩
theorem p_Great_some (x : Co) : ∃ b, Zba x = some b := by
 unfold Zba Zcx
 simp only [Option.bind_some, Bool.cond_decide]
 repeat' split
 all_goals exact ⟨_, rfl⟩
theorem RightC.bd {x : Co} (h : RightC x) : BdC x := by
 have h1 := tupB_bd _ h.tup
 have := h.n
 have := h.lv
 have := h.ln
 have := h.lm
 have := h.lc
 exact ⟨⟨by omega, h1.1, by omega⟩, by omega, by omega, by omega, by omega⟩
theorem p_State12' (x : Tu) (i : Int) (h : bdT x) : Zbx x i = some ((stOf x i).getD ⟨0, 0, 0, 0, false⟩, (stOf x i).isSome) := by rw [p_State12 x i h, q_State x i h]
theorem p_Right20_l1 (x : Co) (hn : 1 ≤ x.n ∧ x.n ≤ 5) (hi : 1 ≤ x.id ∧ x.id ≤ x.n) (h2 : (x.next.length : Int) = x.n) (h3 : (x.mtch.length : Int) = x.n) (h4 : (x.caps.length : Int) = x.n) (hb : bdT x.tuple) : ∀ (m k n : Nat) (b : Bool), m = x.caps.length - k → k ≤ x.caps.length → m < n →
  J3 x x.tuple.last n b k = some (Zfy (InB (x.next.drop k) 1 (x.tuple.last + 1) ∧ InB (x.mtch.drop k) 0 x.tuple.last ∧ InB (x.caps.drop k) 0 2 ∧ x.caps[(x.id - 1).toNat]? = some x.binary ∧ (x.role = 0 ∨ (0 < x.tuple.term ∧ x.tuple.vote = x.id)))) := by
 have hlb := last_bd hb
 have hw : IntKind.wrap .i64 (x.tuple.last + 1) = x.tuple.last + 1 := Zdj (by omega)
 obtain ⟨e0, he0, he1⟩ := own_get x hn hi h4
 intro m
 induction m with
 | zero =>
  intro k n b hm hk hn'
  obtain ⟨n, rfl⟩ : ∃ n', n = n' + 1 := ⟨n - 1, by omega⟩
  rw [J3, List.drop_eq_nil_of_le (by omega), List.drop_eq_nil_of_le (by omega), List.drop_eq_nil_of_le (by omega)]
  simp only [Bool.cond_decide, if_neg (show ¬ ((k : Int) < x.n) by omega), he0, he1, Option.bind_some, Option.some.injEq]
  by_cases c1 : x.role = 0
  ·rw [if_neg (fun h => h c1), Zcu]; congr 1; exact Vw ⟨fun h => ⟨Zey, Zey, Zey, h, .inl c1⟩, fun h => h.2.2.2.1⟩
  ·rw [if_pos c1]
   by_cases c2 : x.tuple.term < 1
   ·rw [if_pos c2, Yf]; rintro ⟨_, _, _, _, h | h⟩; exact c1 h; omega
   ·rw [if_neg c2]
    by_cases c3 : x.tuple.vote = x.id
    ·rw [if_neg (fun h => h c3), Zcu]; congr 1; exact Vw ⟨fun h => ⟨Zey, Zey, Zey, h, .inr ⟨by omega, c3⟩⟩, fun h => h.2.2.2.1⟩
    ·rw [if_pos c3, Yf]; rintro ⟨_, _, _, _, h | h⟩; exact c1 h; exact c3 h.2
 | succ m ih =>
  intro k n b hm hk hn'
  obtain ⟨n, rfl⟩ : ∃ n', n = n' + 1 := ⟨n - 1, by omega⟩
  obtain ⟨e, he, hd⟩ := Vj (show k < x.next.length by omega)
  obtain ⟨f, hf, hd2⟩ := Vj (show k < x.mtch.length by omega)
  obtain ⟨g, hg, hd3⟩ := Vj (show k < x.caps.length by omega)
  rw [J3, hd, hd2, hd3]
  simp only [Bool.cond_decide, if_pos (show ((k : Int) < x.n) by omega), Vx, he, hf, hg, Option.bind_some, hw]
  rw [Zdj (n := (k : Int) + 1) (by omega), show ((k : Int) + 1) = ((k + 1 : Nat) : Int) by omega, ih (k + 1) n b (by omega) (by omega) (by omega)]
  by_cases c1 : e < 1
  ·rw [if_pos c1, Yf]; rintro ⟨h, _⟩; have := (InB_cons.1 h).1; omega
  rw [if_neg c1]
  by_cases c2 : x.tuple.last + 1 < e
  ·rw [if_pos c2, Yf]; rintro ⟨h, _⟩; have := (InB_cons.1 h).1; omega
  rw [if_neg c2]
  by_cases c3 : f < 0
  ·rw [if_pos c3, Yf]; rintro ⟨_, h, _⟩; have := (InB_cons.1 h).1; omega
  rw [if_neg c3]
  by_cases c4 : x.tuple.last < f
  ·rw [if_pos c4, Yf]; rintro ⟨_, h, _⟩; have := (InB_cons.1 h).1; omega
  rw [if_neg c4]
  by_cases c5 : g < 0
  ·rw [if_pos c5, Yf]; rintro ⟨_, _, h, _⟩; have := (InB_cons.1 h).1; omega
  rw [if_neg c5]
  by_cases c6 : 2 < g
  ·rw [if_pos c6, Yf]; rintro ⟨_, _, h, _⟩; have := (InB_cons.1 h).1; omega
  rw [if_neg c6]
  congr 1
  exact Vw ⟨fun h => ⟨InB_cons.2 ⟨by omega, h.1⟩, InB_cons.2 ⟨by omega, h.2.1⟩, InB_cons.2 ⟨by omega, h.2.2.1⟩, h.2.2.2⟩, fun h => ⟨(InB_cons.1 h.1).2, (InB_cons.1 h.2.1).2, (InB_cons.1 h.2.2.1).2, h.2.2.2⟩⟩
theorem p_Right20 (x : Co) (h : BdC x) : V7 x = some (Zcp x) := by
 simp only [V7, p_Right12, p_State12' x.tuple x.commit h.tup, p_Last12 x.tuple h.tup, Option.bind_some, snap_eq, Bool.cond_decide]
 unfold Zcp
 by_cases c1 : x.n < 1
 ·rw [if_pos c1, Yf (p := RightC x) fun h => by have := h.n; omega]
 rw [if_neg c1]
 by_cases c2 : 5 < x.n
 ·rw [if_pos c2, Yf (p := RightC x) fun h => by have := h.n; omega]
 rw [if_neg c2]
 by_cases c3 : x.id < 1
 ·rw [if_pos c3, Yf (p := RightC x) fun h => by have := h.id; omega]
 rw [if_neg c3]
 by_cases c4 : x.n < x.id
 ·rw [if_pos c4, Yf (p := RightC x) fun h => by have := h.id; omega]
 rw [if_neg c4]
 by_cases c5 : 2 < x.role
 ·rw [if_pos c5, Yf (p := RightC x) fun h => by have := h.role; omega]
 rw [if_neg c5]
 by_cases c6 : x.binary < 1
 ·rw [if_pos c6, Yf (p := RightC x) fun h => by have := h.bin; omega]
 rw [if_neg c6]
 by_cases c7 : 2 < x.binary
 ·rw [if_pos c7, Yf (p := RightC x) fun h => by have := h.bin; omega]
 rw [if_neg c7]
 cases c8 : Zas x.tuple with
 | false => rw [Yf (p := RightC x) fun h => by have h2 := h.tup; rw [c8] at h2; cases h2]; rfl
 | true =>
  simp only [Bool.not_true, cond_false]
  cases c9 : stOf x.tuple x.commit with
  | none => rw [Yf (p := RightC x) fun h => by rw [h.st] at c9; cases c9]; rfl
  | some s =>
   simp only [Option.isSome_some, Option.getD_some, Bool.not_true, cond_false]
   by_cases d1 : s = x.applied
   case neg => rw [decide_eq_false d1, Yf (p := RightC x) fun h => d1 (by have := h.st; rw [c9] at this; exact QJ this)]; rfl
   rw [decide_eq_true d1]
   simp only [Bool.not_true, cond_false]
   by_cases d2 : (x.votes.length : Int) = x.n
   case neg => rw [if_pos d2, Yf (p := RightC x) fun h => d2 h.lv]
   rw [if_neg (fun h => h d2)]
   by_cases d3 : (x.next.length : Int) = x.n
   case neg => rw [if_pos d3, Yf (p := RightC x) fun h => d3 h.ln]
   rw [if_neg (fun h => h d3)]
   by_cases d4 : (x.mtch.length : Int) = x.n
   case neg => rw [if_pos d4, Yf (p := RightC x) fun h => d4 h.lm]
   rw [if_neg (fun h => h d4)]
   by_cases d5 : (x.caps.length : Int) = x.n
   case neg => rw [if_pos d5, Yf (p := RightC x) fun h => d5 h.lc]
   rw [if_neg (fun h => h d5)]
   have := p_Right20_l1 x (by omega) (by omega) d3 d4 d5 h.tup x.caps.length 0 Yy false (by omega) (by omega) (by have := h.lc; unfold Yy; omega)
   rw [show ((0 : Nat) : Int) = 0 from rfl] at this
   rw [this]
   simp only [List.drop_zero]
   congr 1
   subst d1
   exact Vw ⟨fun h => ⟨by omega, by omega, by omega, by omega, c8, c9, d2, d3, d4, d5, h.1, h.2.1, h.2.2.1, h.2.2.2.1, h.2.2.2.2⟩, fun h => ⟨h.next, h.mtch, h.caps, h.own, h.lead⟩⟩
end
section
open Go Go.RowKit
set_option maxRecDepth 100000
theorem p_eNumber (x : Int) : Vm x = some (numB x) := by
 unfold Vm numB
 by_cases h : 0 ≤ x <;> simp [h]
theorem p_eFine (x : St) : J7 x = some (Zbd x) := by
 obtain ⟨i, t, s, l, f⟩ := x
 simp only [J7, Zd8, p_eNumber, Option.bind_some, Zbd, firstS, numB, St.mk.injEq, Bool.cond_not, Bool.cond_decide]
 cases f <;> (repeat' split) <;> simp_all <;> omega
def entB (last term : Int) : List En → Prop
 | [] => True
 | e :: l => Jm e = true ∧ (last ≤ e.term ∧ e.term ≤ term) ∧ entB e.term term l
structure FineM (m : Ms) (n : Int) : Prop where
 many : 1 ≤ n ∧ n ≤ 5
 frm : 1 ≤ m.frm ∧ m.frm ≤ n
 dst : 1 ≤ m.dst ∧ m.dst ≤ n
 ne : m.frm ≠ m.dst
 kind : 1 ≤ m.kind ∧ m.kind ≤ 5
 term : 1 ≤ m.term ∧ m.term ≤ 1073741824
 cap : 1 ≤ m.cap ∧ m.cap ≤ 2
 last : 0 ≤ m.last ∧ m.last ≤ 1073741824
 lastTerm : 0 ≤ m.lastTerm ∧ m.lastTerm ≤ 1073741824
 commit : 0 ≤ m.commit ∧ m.commit ≤ 1073741824
 ents : entB m.lastTerm m.term m.entries
 few : m.entries.length ≤ 4
 app : m.kind ≠ 3 → m.entries.length = 0 ∧ m.commit = 0
 okk : m.okk = true → m.kind = 2 ∨ m.kind = 4
 snap : m.kind = 5 → 0 < m.snap.index ∧ Zbd m.snap = true
 nosnap : m.kind ≠ 5 → m.snap = ⟨0, 0, 0, 0, false⟩
noncomputable def Zdu (m : Ms) (n : Int) : Bool := Zfy (FineM m n)
structure BdM (m : Ms) : Prop where
 kind : 0 ≤ m.kind ∧ m.kind ≤ 255
 ents : m.entries.length ≤ 1000000
theorem p_entries_l1 (x : Ms) (h : x.entries.length ≤ 1000000) : ∀ (m k n : Nat) (v : Bool) (last : Int), m = x.entries.length - k → k ≤ x.entries.length → m < n → J2 x n v last k = some (Zfy (entB last x.term (x.entries.drop k) ∧ x.entries.length ≤ 4)) := by
 intro m
 induction m with
 | zero =>
  intro k n v last hm hk hn
  obtain ⟨n, rfl⟩ : ∃ n', n = n' + 1 := ⟨n - 1, by omega⟩
  rw [J2, List.drop_eq_nil_of_le (by omega)]
  simp only [Bool.cond_decide, if_neg (show ¬ ((k : Int) < (x.entries.length : Int)) by omega)]
  rw [Zcu]; congr 1
  exact Vw ⟨fun h => ⟨trivial, by omega⟩, fun h => by have := h.2; omega⟩
 | succ m ih =>
  intro k n v last hm hk hn
  obtain ⟨n, rfl⟩ : ∃ n', n = n' + 1 := ⟨n - 1, by omega⟩
  obtain ⟨e, he, hd⟩ := Vj (show k < x.entries.length by omega)
  rw [J2, hd]
  simp only [Bool.cond_decide, if_pos (show ((k : Int) < (x.entries.length : Int)) by omega), Vx, he, Option.bind_some, p_eRight, p_within]
  rw [Zdj (by omega), show ((k : Int) + 1) = ((k + 1 : Nat) : Int) by omega, ih (k + 1) n v e.term (by omega) (by omega) (by omega)]
  cases c1 : Jm e with
  | false => rw [Yf (p := entB last x.term (e :: x.entries.drop (k + 1)) ∧ x.entries.length ≤ 4) fun h => by have h2 := h.1.1; rw [c1] at h2; cases h2]; rfl
  | true =>
   by_cases c2 : last ≤ e.term ∧ e.term ≤ x.term
   ·rw [Xj c2]; show some _ = some _; congr 1
    exact Vw ⟨fun h => ⟨⟨c1, c2, h.1⟩, h.2⟩, fun h => ⟨h.1.2.2, h.2⟩⟩
   ·rw [Yf c2, Yf (p := entB last x.term (e :: x.entries.drop (k + 1)) ∧ x.entries.length ≤ 4) fun h => c2 h.1.2.1]; rfl
theorem p_entries (x : Ms) (h : x.entries.length ≤ 1000000) : Zcs x = some (Zfy (entB x.lastTerm x.term x.entries ∧ x.entries.length ≤ 4)) := by
 have := p_entries_l1 x h x.entries.length 0 Yy false x.lastTerm (by omega) (by omega) (by unfold Yy; omega)
 unfold Zcs
 simpa using this
theorem st_zero (s : St) : (decide (s.index = 0) && (decide (s.term = 0) && (decide (s.sum = 0) && (decide (s.level = 0) && decide (s.final = false))))) = decide (s = ⟨0, 0, 0, 0, false⟩) := by
 obtain ⟨a1, a2, a3, a4, a5⟩ := s
 rw [Bool.eq_iff_iff]; simp
theorem p_mFine (m : Ms) (n : Int) (h : BdM m) : Zd4 m n = some (Zdu m n) := by
 have hw : IntKind.wrap .i64 m.kind = m.kind := Zdj (by have := h.kind; omega)
 simp only [Zd4, p_within, p_each [m.frm, m.dst] _ _ _ (by simp), p_each [m.last, m.lastTerm, m.commit] _ _ _ (by simp), p_entries m h.ents, p_eFine, Option.bind_some, hw, st_zero]
 unfold Zdu
 by_cases c1 : 1 ≤ n ∧ n ≤ 5
 case neg => rw [Yf c1, Yf (p := FineM m n) fun h => c1 h.many]; rfl
 rw [Xj c1]
 by_cases c2 : (([m.frm, m.dst].length : Nat) : Int) = 2 ∧ InB [m.frm, m.dst] 1 n
 case neg => rw [Yf c2, Yf (p := FineM m n) fun h => c2 ⟨rfl, InB_cons.2 ⟨h.frm, InB_cons.2 ⟨h.dst, Zey⟩⟩⟩]; rfl
 rw [Xj c2]
 have c21 := (InB_cons.1 c2.2).1
 have c22 := (InB_cons.1 (InB_cons.1 c2.2).2).1
 by_cases c3 : m.frm = m.dst
 case pos => rw [decide_eq_true c3, Yf (p := FineM m n) fun h => h.ne c3]; rfl
 rw [decide_eq_false c3]
 by_cases c4 : 1 ≤ m.kind ∧ m.kind ≤ 5
 case neg => rw [Yf c4, Yf (p := FineM m n) fun h => c4 h.kind]; rfl
 rw [Xj c4]
 by_cases c5 : 1 ≤ m.term ∧ m.term ≤ 1073741824
 case neg => rw [Yf c5, Yf (p := FineM m n) fun h => c5 h.term]; rfl
 rw [Xj c5]
 by_cases c6 : 1 ≤ m.cap ∧ m.cap ≤ 2
 case neg => rw [Yf c6, Yf (p := FineM m n) fun h => c6 h.cap]; rfl
 rw [Xj c6]
 by_cases c7 : (([m.last, m.lastTerm, m.commit].length : Nat) : Int) = 3 ∧ InB [m.last, m.lastTerm, m.commit] 0 1073741824
 case neg => rw [Yf c7, Yf (p := FineM m n) fun h => c7 ⟨rfl, InB_cons.2 ⟨h.last, InB_cons.2 ⟨h.lastTerm, InB_cons.2 ⟨h.commit, Zey⟩⟩⟩⟩]; rfl
 rw [Xj c7]
 have c71 := (InB_cons.1 c7.2).1
 have c72 := (InB_cons.1 (InB_cons.1 c7.2).2).1
 have c73 := (InB_cons.1 (InB_cons.1 (InB_cons.1 c7.2).2).2).1
 by_cases c8 : entB m.lastTerm m.term m.entries ∧ m.entries.length ≤ 4
 case neg => rw [Yf c8, Yf (p := FineM m n) fun h => c8 ⟨h.ents, h.few⟩]; rfl
 rw [Xj c8]
 have yes : ∀ (d1 : m.kind ≠ 3 → m.entries.length = 0 ∧ m.commit = 0) (d2 : m.okk = true → m.kind = 2 ∨ m.kind = 4), (if m.kind = 5 then (if 0 < m.snap.index then some (Zbd m.snap) else some false) else some (decide (m.snap = ⟨0, 0, 0, 0, false⟩))) = some (Zfy (FineM m n)) := by
  intro d1 d2
  by_cases e1 : m.kind = 5
  ·rw [if_pos e1]
   by_cases e2 : 0 < m.snap.index
   ·rw [if_pos e2]
    cases e3 : Zbd m.snap with
    | true => rw [Xj (p := FineM m n) ⟨c1, c21, c22, c3, c4, c5, c6, c71, c72, c73, c8.1, c8.2, d1, d2, fun _ => ⟨e2, e3⟩, fun h => (h e1).elim⟩]
    | false => rw [Yf (p := FineM m n) fun h => by have h2 := (h.snap e1).2; rw [e3] at h2; cases h2]
   ·rw [if_neg e2, Yf (p := FineM m n) fun h => e2 (h.snap e1).1]
  ·rw [if_neg e1, Zcu]
   congr 1
   exact Vw ⟨fun e2 => ⟨c1, c21, c22, c3, c4, c5, c6, c71, c72, c73, c8.1, c8.2, d1, d2, fun h => (e1 h).elim, fun _ => e2⟩, fun h => h.nosnap e1⟩
 simp only [Bool.not_true, cond_false, Bool.cond_decide]
 by_cases d1 : m.kind = 3
 ·rw [if_neg (fun h => h d1)]
  cases d2 : m.okk with
  | false => exact yes (fun h => (h d1).elim) (fun h => by rw [d2] at h; cases h)
  | true =>
   rw [if_pos (by omega), if_pos (by omega), Yf (p := FineM m n) fun h => by have := h.okk d2; omega]; rfl
 ·rw [if_pos d1]
  by_cases d3 : (0 : Int) < (m.entries.length : Int)
  ·rw [if_pos d3, Yf (p := FineM m n) fun h => by have := (h.app d1).1; omega]
  rw [if_neg d3]
  by_cases d4 : 0 < m.commit
  ·rw [if_pos d4, Yf (p := FineM m n) fun h => by have := (h.app d1).2; omega]
  rw [if_neg d4]
  have d5 : m.kind ≠ 3 → m.entries.length = 0 ∧ m.commit = 0 := fun _ => ⟨by omega, by omega⟩
  cases d2 : m.okk with
  | false => exact yes d5 (fun h => by rw [d2] at h; cases h)
  | true =>
   show (if m.kind ≠ 2 then _ else _) = _
   by_cases d6 : m.kind = 2
   ·rw [if_neg (fun h => h d6)]; exact yes d5 (fun _ => .inl d6)
   ·rw [if_pos d6]
    by_cases d7 : m.kind = 4
    ·rw [if_neg (fun h => h d7)]; exact yes d5 (fun _ => .inr d7)
    ·rw [if_pos d7, Yf (p := FineM m n) fun h => by have := h.okk d2; omega]
end
section
open Go Go.RowKit
set_option maxRecDepth 100000
def ToC (x : Co) (m : Ms) : Prop := m.dst = x.id ∧ RightC x ∧ FineM m x.n
theorem p_To (x : Co) (m : Ms) (hx : BdC x) (hm : BdM m) : Zed x m = some (Zfy (ToC x m)) := by
 simp only [Zed, Zdq x hx, p_mFine m x.n hm, Option.bind_some, Bool.cond_decide]
 by_cases c1 : m.dst = x.id
 case neg => rw [if_pos c1, Yf fun h => c1 h.1]
 rw [if_neg (fun h => h c1)]
 unfold Zcp Zdu
 by_cases c2 : RightC x
 case neg => rw [Yf c2, Yf (p := ToC x m) fun h => c2 h.2.1]; rfl
 rw [Xj c2]
 show some _ = some _
 congr 1
 exact Vw ⟨fun h => ⟨c1, c2, h⟩, fun h => h.2.2⟩
open Classical in
noncomputable def hearC (x : Co) (m : Ms) : Co := if ToC x m then { x with caps := x.caps.set (m.frm - 1).toNat m.cap } else x
theorem idx_in {α : Type} (l : List α) (i : Int) (h : 1 ≤ i ∧ i ≤ (l.length : Int)) (hl : l.length ≤ 1000000) : ∃ e, idx l (i - 1) = some e ∧ l[(i - 1).toNat]? = some e ∧ IntKind.wrap .i64 (i - 1) = i - 1 := by
 have hw : i - 1 = (((i - 1).toNat : Nat) : Int) := by omega
 obtain ⟨e, he, _⟩ := Vj (show (i - 1).toNat < l.length by omega)
 exact ⟨e, by rw [hw, Vx]; exact he, he, Zdj (by omega)⟩
theorem p_Hear (x : Co) (m : Ms) (hx : BdC x) (hm : BdM m) : Zc0 x m = some (hearC x m) := by
 simp only [Zc0, p_To x m hx hm, Zfh x hx, Zdq x hx, Option.bind_some]
 unfold hearC
 by_cases c1 : ToC x m
 ·rw [Xj c1, if_pos c1]
  unfold Zcp
  rw [Xj c1.2.1]
  obtain ⟨e, he, _, hw⟩ := idx_in x.caps m.frm (by have := c1.2.2.frm; have := c1.2.1.lc; omega) hx.lc
  simp only [cond_true, he, Option.bind_some, hw]
  rfl
 ·rw [Yf c1, if_neg c1]; rfl
theorem hear_right (x : Co) (m : Ms) (h : RightC x) : RightC (hearC x m) := by
 unfold hearC
 split
 ·rename_i c
  have hf := c.2.2
  refine ⟨h.n, h.id, h.role, h.bin, h.tup, h.st, h.lv, h.ln, h.lm, ?_, h.next, h.mtch, InB.set h.caps (by have := hf.cap; omega), ?_, h.lead⟩
  ·dsimp only; rw [List.length_set]; exact h.lc
  ·dsimp only
   rw [List.getElem?_set_ne]
   ·exact h.own
   ·have h1 := hf.ne; have h2 := c.1; have h3 := hf.frm; have h4 := h.id; omega
 ·exact h
end
section
open Go Go.RowKit
set_option maxRecDepth 100000
theorem q_Append (x : Tu) (l : List En) (h : x.log.length ≤ 1000000 ∧ l.length ≤ 300) : Zb9 x l = some (Zct x (some { x with log := x.log ++ l }), chgE x (some { x with log := x.log ++ l })) := by unfold Zb9; rw [decide_eq_true h]; rfl
theorem p_tTermAt (x : Tu) (i : Int) (h : bdT x) : Zcd x i = some ((termAt x i).getD 0, (termAt x i).isSome) := by
 obtain ⟨h1, h2, h3⟩ := h
 unfold Zcd m_tuple_At termAt
 rw [p_tLast x ⟨h1, h2, h3⟩]
 unfold Tu.last
 simp only [Option.bind_some, Bool.cond_decide]
 by_cases hi : i = x.snap.index
 ·rw [if_pos hi, if_pos hi]; rfl
 ·rw [if_neg hi, if_neg hi]
  by_cases h4 : i ≤ x.snap.index
  ·rw [if_pos h4, if_neg (by omega)]; rfl
  ·rw [if_neg h4]
   by_cases h5 : x.snap.index + (x.log.length : Int) < i
   ·rw [if_pos h5, if_neg (by omega)]; rfl
   ·rw [if_neg h5, if_pos (by omega)]
    obtain ⟨k, hk⟩ : ∃ k : Nat, i = x.snap.index + 1 + k := ⟨(i - x.snap.index - 1).toNat, by omega⟩
    have e1 : IntKind.wrap .i64 (i - x.snap.index) = i - x.snap.index := Zdj (by omega)
    have e2 : IntKind.wrap .i64 (i - x.snap.index - 1) = (k : Int) := by rw [Zdj (by omega)]; omega
    have e3 : (i - x.snap.index - 1).toNat = k := by omega
    rw [e1, e2, e3, Vx]
    obtain ⟨e, he, _⟩ := Vj (show k < x.log.length by omega)
    rw [he]; rfl
theorem chg_eq (x : Tu) (res : Option Tu) : (Zct x res, chgE x res) = if Zas x = true then (match res with | some y => if Zas y = true then (y, (0 : Int)) else (x, 2) | none => (x, 2)) else (x, 2) := by
 unfold Zct chgE
 by_cases hT : Zas x = true
 ·rw [if_pos hT]
  cases res with
  | none =>
   have : Zca x none = none := by unfold Zca; rw [if_pos hT]
   rw [this]
  | some y =>
   by_cases hy : Zas y = true
   ·have : Zca x (some y) = some y := by unfold Zca; rw [if_pos hT]; exact if_pos hy
    rw [this]; dsimp only; rw [if_pos hy]
   ·have : Zca x (some y) = none := by unfold Zca; rw [if_pos hT]; exact if_neg hy
    rw [this]; dsimp only; rw [if_neg hy]
 ·have : Zca x res = none := if_neg hT
  rw [this, if_neg hT]
theorem chg_some (x y : Tu) : (Zct x (some y), chgE x (some y)) = if Zas x = true then (if Zas y = true then (y, (0 : Int)) else (x, 2)) else (x, 2) := by rw [chg_eq]
theorem commit_bd {x : Co} (h : RightC x) : x.tuple.snap.index ≤ x.commit ∧ x.commit ≤ x.tuple.last := by
 have := h.st
 unfold stOf at this
 split at this
 ·assumption
 ·cases this
theorem InB.mono {l : List Int} {a b c d : Int} (h : InB l a b) (h1 : c ≤ a) (h2 : b ≤ d) : InB l c d := fun x hx => by have := h x hx; omega
theorem add_tup (x : Co) (e : En) (h : RightC x) (he : Jm e = true) (ht : e.term = x.tuple.term) (hl : x.tuple.log.length < 200) : Zas { x.tuple with log := x.tuple.log ++ [e] } = true := by
 obtain ⟨h1, h2, h3, h4⟩ := (Zb8 _).1 h.tup
 refine (Zb8 _).2 ⟨h1, ?_, ?_, ?_⟩
 ·dsimp only; rw [List.length_append]; simp only [List.length_cons, List.length_nil]; exact ⟨h2.1, by omega, h2.2.2⟩
 ·dsimp only; rw [logB_snoc, h3, he, decide_eq_true (by omega)]; rfl
 ·dsimp only; rw [lastT_snoc]; omega
end
section
open Go Go.RowKit
set_option maxRecDepth 100000
theorem q_Hard (x : Tu) (t v : Int) (h : x.log.length ≤ 1000000) : J6 x t v = some (Zct x (hardR x t v), chgE x (hardR x t v)) := by unfold J6; rw [decide_eq_true h]; rfl
theorem p_fits (x : Co) (m : Ms) (hx : BdC x) (hm : BdM m) : Zbo x m = some (Zfy (ToC x m)) := by
 simp only [Zbo, Zdq x hx, p_mFine m x.n hm, Option.bind_some, Bool.cond_decide]
 by_cases c1 : m.dst = x.id
 case neg => rw [if_neg c1, Yf fun h => c1 h.1]
 rw [if_pos c1]
 unfold Zcp Zdu
 by_cases c2 : FineM m x.n
 case neg => rw [Yf c2, Yf (p := ToC x m) fun h => c2 h.2.2]; rfl
 rw [Xj c2]
 show some _ = some _
 congr 1
 exact Vw ⟨fun h => ⟨c1, h, c2⟩, fun h => h.2.1⟩
theorem hard_yes (x : Tu) (t v : Int) (hx : Zas x = true) (h : x.term < t ∨ t = x.term ∧ (x.vote = 0 ∨ x.vote = v)) (ht : t ≤ 1073741824) (hv : 0 ≤ v ∧ v ≤ 5) : Zas { x with term := t, vote := v } = true ∧ J6 x t v = some ({ x with term := t, vote := v }, 0) := by
 obtain ⟨g1, g2, g3, g4⟩ := (Zb8 x).1 hx
 have hT : Zas { x with term := t, vote := v } = true := (Zb8 _).2 ⟨g1, ⟨g2.1, g2.2.1, hv.1, hv.2, ht⟩, g3, by dsimp only; omega⟩
 refine ⟨hT, ?_⟩
 rw [q_Hard x t v (by omega)]
 have hr : hardR x t v = some { x with term := t, vote := v } := by unfold hardR; rw [if_pos h]
 have := chg_yes x _ _ hx hr hT
 rw [this.1, this.2]
theorem hear_no (x : Co) (m : Ms) (h : ¬ ToC x m) : hearC x m = x := by unfold hearC; rw [if_neg h]
theorem hear_eq (x : Co) (m : Ms) (h : ToC x m) : hearC x m = { x with caps := x.caps.set (m.frm - 1).toNat m.cap } := by unfold hearC; rw [if_pos h]
open Classical in
noncomputable def X8 (x : Co) (m : Ms) : Co := if ToC x m ∧ x.tuple.term < m.term then { x with caps := x.caps.set (m.frm - 1).toNat m.cap, tuple := { x.tuple with term := m.term, vote := 0 }, role := 0, votes := List.replicate x.n.toNat false } else hearC x m
theorem p_Meet (x : Co) (m : Ms) (hx : BdC x) (hm : BdM m) : Zbs x m = some (X8 x m) := by
 simp only [Zbs, Zfh x hx, p_fits x m hx hm, p_Hear x m hx hm, Option.bind_some, Bool.cond_decide]
 unfold X8
 by_cases c1 : ToC x m
 case neg => rw [Yf c1, if_neg (show ¬ (ToC x m ∧ x.tuple.term < m.term) from fun h => c1 h.1), hear_no x m c1]; rfl
 rw [Xj c1]
 simp only [Bool.not_true, cond_false]
 rw [hear_eq x m c1]
 by_cases c2 : x.tuple.term < m.term
 ·rw [if_pos (show ToC x m ∧ x.tuple.term < m.term from ⟨c1, c2⟩), if_pos (show x.tuple.term < m.term from c2)]
  have hH := (hard_yes x.tuple m.term 0 c1.2.1.tup (.inl c2) c1.2.2.term.2 (by omega)).2
  have hn := c1.2.1.n
  obtain ⟨N, hN⟩ : ∃ N : Nat, x.n = (N : Int) := ⟨x.n.toNat, by omega⟩
  have hk : makeI false x.n = some (List.replicate x.n.toNat false) := by rw [hN, makeI_nat _ N (by omega), Int.toNat_natCast]
  simp only [hH, hk, Option.bind_some]
 ·rw [if_neg (show ¬ (ToC x m ∧ x.tuple.term < m.term) from fun h => c2 h.2), if_neg (show ¬ x.tuple.term < m.term from c2)]
theorem Zfa (x : Co) (m : Ms) (h : RightC x) : RightC (X8 x m) := by
 unfold X8
 split
 ·rename_i c
  have hh := hear_right x m h
  rw [hear_eq x m c.1] at hh
  have hn := h.n
  refine ⟨h.n, h.id, by show (0 : Int) ≤ 2; decide, h.bin, (hard_yes x.tuple m.term 0 h.tup (.inl c.2) c.1.2.2.term.2 (by omega)).1, h.st, ?_, h.ln, h.lm, hh.lc, h.next, h.mtch, hh.caps, hh.own, .inl rfl⟩
  dsimp only; rw [List.length_replicate]; omega
 ·exact hear_right x m h
structure MeetF (x y : Co) : Prop where
 id : y.id = x.id
 n : y.n = x.n
 binary : y.binary = x.binary
 commit : y.commit = x.commit
 applied : y.applied = x.applied
 next : y.next = x.next
 mtch : y.mtch = x.mtch
 snap : y.tuple.snap = x.tuple.snap
 log : y.tuple.log = x.tuple.log
 term : x.tuple.term ≤ y.tuple.term
theorem meet_f (x : Co) (m : Ms) : MeetF x (X8 x m) := by
 unfold X8
 split
 ·rename_i c
  exact ⟨rfl, rfl, rfl, rfl, rfl, rfl, rfl, rfl, rfl, by dsimp only; omega⟩
 ·by_cases c : ToC x m
  ·rw [hear_eq x m c]; exact ⟨rfl, rfl, rfl, rfl, rfl, rfl, rfl, rfl, rfl, Int.le_refl _⟩
  ·rw [hear_no x m c]; exact ⟨rfl, rfl, rfl, rfl, rfl, rfl, rfl, rfl, rfl, Int.le_refl _⟩
theorem MeetF.last {x y : Co} (h : MeetF x y) : y.tuple.last = x.tuple.last := by unfold Tu.last; rw [h.snap, h.log]
theorem meet_term (x : Co) (m : Ms) (h : ToC x m) : (x.tuple.term < m.term ∧ (X8 x m).tuple.term = m.term ∧ (X8 x m).tuple.vote = 0 ∧ (X8 x m).role = 0) ∨ (m.term ≤ x.tuple.term ∧ X8 x m = { x with caps := x.caps.set (m.frm - 1).toNat m.cap }) := by
 by_cases c : x.tuple.term < m.term
 ·left
  unfold X8
  rw [if_pos ⟨h, c⟩]
  exact ⟨c, rfl, rfl, rfl⟩
 ·right
  unfold X8
  rw [if_neg (fun h => c h.2), hear_eq x m h]
  exact ⟨by omega, rfl⟩
theorem meet_ge (x : Co) (m : Ms) (h : ToC x m) : m.term ≤ (X8 x m).tuple.term := by
 rcases meet_term x m h with ⟨_, h2, _⟩ | ⟨h1, h2⟩
 ·rw [h2]; exact Int.le_refl _
 ·rw [h2]; exact h1
def mapTo (f : Int → Int) (k : Nat) (l : List Int) : List Int := (l.take k).map f ++ l.drop k
theorem mapTo_get (f : Int → Int) (l : List Int) (k : Nat) (e : Int) (h : l[k]? = some e) : (mapTo f k l)[k]? = some e := by
 have hk := (List.getElem?_eq_some_iff.1 h).1
 unfold mapTo
 rw [List.getElem?_append_right (by rw [List.length_map, List.length_take]; omega), List.length_map, List.length_take, List.getElem?_drop, ← h]
 congr 1; omega
theorem mapTo_set (f : Int → Int) (l : List Int) (k : Nat) (e : Int) (h : l[k]? = some e) : (mapTo f k l).set k (f e) = mapTo f (k + 1) l := by
 have hk := (List.getElem?_eq_some_iff.1 h).1
 obtain ⟨e', he', hd⟩ := Vj hk
 rw [h] at he'
 obtain rfl := QJ he'
 unfold mapTo
 rw [List.set_append, if_neg (by rw [List.length_map, List.length_take]; omega), hd, List.take_add_one, h]
 have : k - ((l.take k).map f).length = 0 := by rw [List.length_map, List.length_take]; omega
 rw [this]
 simp
theorem mapTo_all (f : Int → Int) (l : List Int) (k : Nat) (h : l.length ≤ k) : mapTo f k l = l.map f := by
 unfold mapTo
 rw [List.take_of_length_le h, List.drop_eq_nil_of_le h, List.append_nil]
theorem mapTo_zero (f : Int → Int) (l : List Int) : mapTo f 0 l = l := by simp [mapTo]
theorem setI_nat {α : Type} (l : List α) (k : Nat) (v : α) : Zbf l (k : Int) v = l.set k v := by unfold Zbf; simp
def backM (y : Co) (m : Ms) (k : Int) (ok : Bool) (last : Int) : Ms := ⟨k, y.id, m.frm, y.tuple.term, y.binary, last, 0, 0, ok, [], ⟨0, 0, 0, 0, false⟩⟩
theorem back_fine (x y : Co) (m : Ms) (ok : Bool) (k last : Int) (h : ToC x m) (h1 : y.id = x.id) (h2 : y.binary = x.binary) (ht : 1 ≤ y.tuple.term ∧ y.tuple.term ≤ 1073741824) (hk : k = 2 ∨ k = 4) (hl : 0 ≤ last ∧ last ≤ 1073741824) : FineM (backM y m k ok last) x.n := by
 have hf := h.2.2
 have hid := h.2.1.id
 have hb := h.2.1.bin
 have he := h.1
 have hne := hf.ne
 unfold backM
 refine ⟨hf.many, by dsimp only; omega, hf.frm, by dsimp only; omega, by dsimp only; omega, ht, by dsimp only; omega, hl, ⟨Int.le_refl 0, (by decide : (0 : Int) ≤ 1073741824)⟩, ⟨Int.le_refl 0, (by decide : (0 : Int) ≤ 1073741824)⟩, trivial, by simp, fun _ => ⟨rfl, rfl⟩, fun _ => hk, fun h5 => by dsimp only at h5; omega, fun _ => rfl⟩
end
section
open Go Go.RowKit
set_option maxRecDepth 100000
theorem p_number20 (x : Int) : Zao x = some (numB x) := by
 unfold Zao numB
 by_cases h : 0 ≤ x <;> simp [h]
theorem p_entries20_l1 (x : Ms) (h : x.entries.length ≤ 1000000) : ∀ (m k n : Nat) (v : Bool) (last : Int), m = x.entries.length - k → k ≤ x.entries.length → m < n → Jf x n v last k = some (Zfy (entB last x.term (x.entries.drop k) ∧ x.entries.length ≤ 4)) := by
 intro m
 induction m with
 | zero =>
  intro k n v last hm hk hn
  obtain ⟨n, rfl⟩ : ∃ n', n = n' + 1 := ⟨n - 1, by omega⟩
  rw [Jf, List.drop_eq_nil_of_le (by omega)]
  simp only [Bool.cond_decide, if_neg (show ¬ ((k : Int) < (x.entries.length : Int)) by omega)]
  rw [Zcu]; congr 1
  exact Vw ⟨fun h => ⟨trivial, by omega⟩, fun h => by have := h.2; omega⟩
 | succ m ih =>
  intro k n v last hm hk hn
  obtain ⟨n, rfl⟩ : ∃ n', n = n' + 1 := ⟨n - 1, by omega⟩
  obtain ⟨e, he, hd⟩ := Vj (show k < x.entries.length by omega)
  rw [Jf, hd]
  simp only [Bool.cond_decide, if_pos (show ((k : Int) < (x.entries.length : Int)) by omega), Vx, he, Option.bind_some, p_Right]
  rw [Zdj (by omega), show ((k : Int) + 1) = ((k + 1 : Nat) : Int) by omega, ih (k + 1) n v e.term (by omega) (by omega) (by omega)]
  cases c1 : Jm e with
  | false => rw [Yf (p := entB last x.term (e :: x.entries.drop (k + 1)) ∧ x.entries.length ≤ 4) fun h => by have h2 := h.1.1; rw [c1] at h2; cases h2]; rfl
  | true =>
   simp only [Bool.not_true, cond_false]
   by_cases c2 : e.term < last
   ·rw [if_pos c2, Yf (p := entB last x.term (e :: x.entries.drop (k + 1)) ∧ x.entries.length ≤ 4) fun h => by have h2 := h.1.2.1; omega]
   rw [if_neg c2]
   by_cases c3 : x.term < e.term
   ·rw [if_pos c3, Yf (p := entB last x.term (e :: x.entries.drop (k + 1)) ∧ x.entries.length ≤ 4) fun h => by have h2 := h.1.2.1; omega]
   rw [if_neg c3]
   congr 1
   exact Vw ⟨fun h => ⟨⟨c1, ⟨by omega, by omega⟩, h.1⟩, h.2⟩, fun h => ⟨h.1.2.2, h.2⟩⟩
theorem p_entries20 (x : Ms) (h : x.entries.length ≤ 1000000) : Zbv x = some (Zfy (entB x.lastTerm x.term x.entries ∧ x.entries.length ≤ 4)) := by
 have := p_entries20_l1 x h x.entries.length 0 Yy false x.lastTerm (by omega) (by omega) (by unfold Yy; omega)
 unfold Zbv
 simpa using this
theorem numB_no {x : Int} (h : numB x = false) : ¬ (0 ≤ x ∧ x ≤ 1073741824) := fun h2 => by rw [numB, decide_eq_true h2] at h; cases h
theorem numB_yes {x : Int} (h : numB x = true) : 0 ≤ x ∧ x ≤ 1073741824 := of_decide_eq_true h
theorem Zbt (m : Ms) (n : Int) (h : BdM m) : Vl m n = some (Zdu m n) := by
 simp only [Vl, p_number20, p_entries20 m h.ents, p_Fine, Option.bind_some, st_zero, Bool.cond_decide]
 unfold Zdu
 by_cases c0 : n < 1
 ·rw [if_pos c0, Yf (p := FineM m n) fun h => by have := h.many; omega]
 rw [if_neg c0]
 by_cases c1 : 5 < n
 ·rw [if_pos c1, Yf (p := FineM m n) fun h => by have := h.many; omega]
 rw [if_neg c1]
 by_cases c2 : m.frm < 1
 ·rw [if_pos c2, Yf (p := FineM m n) fun h => by have := h.frm; omega]
 rw [if_neg c2]
 by_cases c3 : n < m.frm
 ·rw [if_pos c3, Yf (p := FineM m n) fun h => by have := h.frm; omega]
 rw [if_neg c3]
 by_cases c4 : m.dst < 1
 ·rw [if_pos c4, Yf (p := FineM m n) fun h => by have := h.dst; omega]
 rw [if_neg c4]
 by_cases c5 : n < m.dst
 ·rw [if_pos c5, Yf (p := FineM m n) fun h => by have := h.dst; omega]
 rw [if_neg c5]
 by_cases c6 : m.frm = m.dst
 ·rw [if_pos c6, Yf (p := FineM m n) fun h => h.ne c6]
 rw [if_neg c6]
 by_cases c7 : m.kind < 1
 ·rw [if_pos c7, Yf (p := FineM m n) fun h => by have := h.kind; omega]
 rw [if_neg c7]
 by_cases c8 : 6 ≤ m.kind
 ·rw [if_pos c8, Yf (p := FineM m n) fun h => by have := h.kind; omega]
 rw [if_neg c8]
 by_cases c9 : m.term < 1
 ·rw [if_pos c9, Yf (p := FineM m n) fun h => by have := h.term; omega]
 rw [if_neg c9]
 by_cases c10 : 1073741824 < m.term
 ·rw [if_pos c10, Yf (p := FineM m n) fun h => by have := h.term; omega]
 rw [if_neg c10]
 by_cases c11 : m.cap < 1
 ·rw [if_pos c11, Yf (p := FineM m n) fun h => by have := h.cap; omega]
 rw [if_neg c11]
 by_cases c12 : 2 < m.cap
 ·rw [if_pos c12, Yf (p := FineM m n) fun h => by have := h.cap; omega]
 rw [if_neg c12]
 cases d0 : numB m.last with
 | false => rw [Yf (p := FineM m n) fun h => numB_no d0 h.last]; rfl
 | true =>
 have d0' := numB_yes d0
 cases d1 : numB m.lastTerm with
 | false => rw [Yf (p := FineM m n) fun h => numB_no d1 h.lastTerm]; rfl
 | true =>
 have d1' := numB_yes d1
 cases d2 : numB m.commit with
 | false => rw [Yf (p := FineM m n) fun h => numB_no d2 h.commit]; rfl
 | true =>
 have d2' := numB_yes d2
 by_cases c20 : entB m.lastTerm m.term m.entries ∧ m.entries.length ≤ 4
 case neg => rw [Yf c20, Yf (p := FineM m n) fun h => c20 ⟨h.ents, h.few⟩]; rfl
 rw [Xj c20]
 simp only [Bool.not_true, cond_false]
 have yes : ∀ (d1 : m.kind ≠ 3 → m.entries.length = 0 ∧ m.commit = 0) (d2 : m.okk = true → m.kind = 2 ∨ m.kind = 4), (if m.kind = 5 then (cond (Zbd m.snap) (some (decide (0 < m.snap.index))) (some false)) else some (decide (m.snap = ⟨0, 0, 0, 0, false⟩))) = some (Zfy (FineM m n)) := by
  intro d1 d2
  have mk : (m.kind = 5 → 0 < m.snap.index ∧ Zbd m.snap = true) → (m.kind ≠ 5 → m.snap = ⟨0, 0, 0, 0, false⟩) → FineM m n := fun s1 s2 =>
   ⟨⟨by omega, by omega⟩, ⟨by omega, by omega⟩, ⟨by omega, by omega⟩, c6, ⟨by omega, by omega⟩, ⟨by omega, by omega⟩, ⟨by omega, by omega⟩, d0', d1', d2', c20.1, c20.2, d1, d2, s1, s2⟩
  by_cases e1 : m.kind = 5
  ·rw [if_pos e1]
   cases e3 : Zbd m.snap with
   | true =>
    simp only [cond_true]
    rw [Zcu]
    congr 1
    exact Vw ⟨fun e2 => mk (fun _ => ⟨e2, e3⟩) (fun h => (h e1).elim), fun h => (h.snap e1).1⟩
   | false => rw [Yf (p := FineM m n) fun h => by have h2 := (h.snap e1).2; rw [e3] at h2; cases h2]; rfl
  ·rw [if_neg e1, Zcu]
   congr 1
   exact Vw ⟨fun e2 => mk (fun h => (e1 h).elim) (fun _ => e2), fun h => h.nosnap e1⟩
 by_cases e1 : m.kind = 3
 ·rw [if_neg (fun h => h e1)]
  cases e2 : m.okk with
  | false => exact yes (fun h => (h e1).elim) (fun h => by rw [e2] at h; cases h)
  | true =>
   simp only [cond_true]
   rw [if_pos (by omega), if_pos (by omega), Yf (p := FineM m n) fun h => by have := h.okk e2; omega]
 ·rw [if_pos e1]
  by_cases e3 : (0 : Int) < (m.entries.length : Int)
  ·rw [if_pos e3, Yf (p := FineM m n) fun h => by have := (h.app e1).1; omega]
  rw [if_neg e3]
  by_cases e4 : 0 < m.commit
  ·rw [if_pos e4, Yf (p := FineM m n) fun h => by have := (h.app e1).2; omega]
  rw [if_neg e4]
  have e5 : m.kind ≠ 3 → m.entries.length = 0 ∧ m.commit = 0 := fun _ => ⟨by omega, by omega⟩
  cases e2 : m.okk with
  | false => exact yes e5 (fun h => by rw [e2] at h; cases h)
  | true =>
   simp only [cond_true]
   by_cases e6 : m.kind = 2
   ·rw [if_neg (fun h => h e6)]; exact yes e5 (fun _ => .inl e6)
   ·rw [if_pos e6]
    by_cases e7 : m.kind = 4
    ·rw [if_neg (fun h => h e7)]; exact yes e5 (fun _ => .inr e7)
    ·rw [if_pos e7, Yf (p := FineM m n) fun h => by have := h.okk e2; omega]
end
section
open Go Go.RowKit
set_option maxRecDepth 100000
def endT (t : Tu) : Int := Zee t.snap.term t.log
theorem termAt_last (t : Tu) : termAt t t.last = some (endT t) := by
 have := termAt_log t t.log.length (Nat.le_refl _)
 rw [List.take_length] at this
 exact this
theorem p_end (x : Co) (h : BdC x) : Zb6 x = some (x.tuple.last, endT x.tuple) := by
 simp only [Zb6, p_tLast x.tuple h.tup, p_tTermAt x.tuple _ h.tup, termAt_last, Option.bind_some, Option.getD_some]
def NewP (x : Co) (lt la : Int) : Prop := endT x.tuple < lt ∨ (lt = endT x.tuple ∧ x.tuple.last ≤ la)
theorem p_Newer (x : Co) (lt la : Int) (h : RightC x) : Zak x lt la = some (Zfy (NewP x lt la)) := by
 simp only [Zak, Zdq x h.bd, Zcp, Xj h, p_end x h.bd, Option.bind_some, Bool.not_true, cond_false, Bool.cond_decide]
 by_cases c : endT x.tuple = lt
 ·rw [if_neg (fun h => h c), Zcu]
  congr 1
  exact Vw ⟨fun h => .inr ⟨c.symm, h⟩, fun h => by rcases h with h | h; omega; exact h.2⟩
 ·rw [if_pos c, Zcu]
  congr 1
  exact Vw ⟨fun h => .inl h, fun h => by rcases h with h | h; exact h; omega⟩
def leadC (x : Co) : Co := { x with role := 2, tuple := { x.tuple with log := x.tuple.log ++ [⟨x.tuple.term, 0, 0⟩] }, next := x.next.map (fun _ => x.tuple.last + 1 + 1), mtch := (x.mtch.map fun _ => 0).set (x.id - 1).toNat (x.tuple.last + 1) }
theorem p_Lead_l1 (x : Co) (t : Tu × Int) (r : Int) (h : RightC x) (hr : -3000000000000 ≤ r ∧ r ≤ 3000000000000) : ∀ (q k n : Nat), q = x.next.length - k → k ≤ x.next.length → q < n →
  Zaf x t r n k (mapTo (fun _ => r + 1) k x.next) (mapTo (fun _ => 0) k x.mtch) = some { x with role := 2, tuple := t.1, next := x.next.map (fun _ => r + 1), mtch := (x.mtch.map fun _ => 0).set (x.id - 1).toNat r } := by
 have hn := h.n
 have hl := h.ln
 have hm := h.lm
 have hid := h.id
 have hw : IntKind.wrap .i64 (x.id - 1) = (((x.id - 1).toNat : Nat) : Int) := by rw [Zdj (by omega)]; omega
 intro q
 induction q with
 | zero =>
  intro k n hq hk hn'
  obtain ⟨n, rfl⟩ : ∃ n', n = n' + 1 := ⟨n - 1, by omega⟩
  obtain ⟨e, he, _⟩ := Vj (show (x.id - 1).toNat < (x.mtch.map fun _ => (0 : Int)).length by rw [List.length_map]; omega)
  rw [Zaf, mapTo_all _ _ _ (by omega), mapTo_all _ _ _ (by omega)]
  simp only [Bool.cond_decide, if_neg (show ¬ (k : Int) < x.n by omega), hw, Vx, he, Option.bind_some, setI_nat]
 | succ q ih =>
  intro k n hq hk hn'
  obtain ⟨n, rfl⟩ : ∃ n', n = n' + 1 := ⟨n - 1, by omega⟩
  obtain ⟨e, he, _⟩ := Vj (show k < x.next.length by omega)
  obtain ⟨f, hf, _⟩ := Vj (show k < x.mtch.length by omega)
  have s1 := mapTo_set (fun _ => r + 1) x.next k e he
  have s2 := mapTo_set (fun _ => 0) x.mtch k f hf
  rw [Zaf]
  simp only [Bool.cond_decide, if_pos (show (k : Int) < x.n by omega), Vx, mapTo_get _ _ _ _ he, mapTo_get _ _ _ _ hf, Option.bind_some, setI_nat, Zdj (n := r + 1) (by omega), s1, s2, Zdj (n := (k : Int) + 1) (by omega)]
  rw [show ((k : Int) + 1) = ((k + 1 : Nat) : Int) by omega, ih (k + 1) n (by omega) (by omega) (by omega)]
theorem noop_right (x : Co) (h : RightC x) (hr : x.role ≠ 0) : Jm ⟨x.tuple.term, 0, 0⟩ = true ∧ 0 < x.tuple.term ∧ x.tuple.vote = x.id := by
 have h1 := h.lead
 have h2 := ((Zb8 _).1 h.tup).2.1.2.2.2.2
 rcases h1 with h1 | h1
 ·exact (hr h1).elim
 ·refine ⟨?_, h1⟩
  unfold Jm
  exact decide_eq_true ⟨Int.le_refl 0, (by decide : (0 : Int) ≤ 4), h1.1, h2, Int.le_refl 0, (by decide : (0 : Int) ≤ 1073741824), .inl rfl⟩
theorem p_Lead_no (x : Co) (h : RightC x) (hr : x.role ≠ 1) : Jd x = some x := by
 simp only [Jd, Zfh x h.bd, Option.bind_some, Bool.cond_decide, if_pos hr]
theorem p_Lead_full (x : Co) (h : RightC x) (hr : x.role = 1) (hl : 200 ≤ x.tuple.log.length) : Jd x = some { x with role := 0 } := by
 have hbd := h.bd
 have happ := q_Append x.tuple [⟨x.tuple.term, 0, 0⟩] ⟨hbd.tup.1, by simp⟩
 rw [chg_some, if_pos h.tup, if_neg (fun h2 => by have := ((Zb8 _).1 h2).2.1.2.1; dsimp only at this; rw [List.length_append] at this; simp only [List.length_cons, List.length_nil] at this; omega)] at happ
 simp only [Jd, Zfh x hbd, Zdq x hbd, Zcp, Xj h, happ, Option.bind_some, Bool.cond_decide, if_neg (show ¬ x.role ≠ 1 from fun h => h hr), Bool.not_true, cond_false, if_pos (show (2 : Int) ≠ 0 by decide)]
theorem lead_tup (x : Co) (h : RightC x) (hr : x.role = 1) (hl : x.tuple.log.length < 200) : Zas { x.tuple with log := x.tuple.log ++ [⟨x.tuple.term, 0, 0⟩] } = true :=
 add_tup x _ h (noop_right x h (by omega)).1 rfl hl
theorem lead_last (x : Co) : ({ x.tuple with log := x.tuple.log ++ [⟨x.tuple.term, 0, 0⟩] } : Tu).last = x.tuple.last + 1 := by unfold Tu.last; dsimp only; rw [List.length_append]; simp only [List.length_cons, List.length_nil]; omega
theorem p_Lead (x : Co) (h : RightC x) (hr : x.role = 1) (hl : x.tuple.log.length < 200) : Jd x = some (leadC x) := by
 have hbd := h.bd
 have hlb := last_bd hbd.tup
 have ha := lead_tup x h hr hl
 have hxb := tupB_bd _ h.tup
 have hlen : x.tuple.last = x.tuple.snap.index + x.tuple.log.length := rfl
 have hbd' : bdT { x.tuple with log := x.tuple.log ++ [⟨x.tuple.term, 0, 0⟩] } := by
  refine ⟨?_, hbd.tup.2⟩
  show (x.tuple.log ++ [(⟨x.tuple.term, 0, 0⟩ : En)]).length ≤ 1000000
  rw [List.length_append]
  simp only [List.length_cons, List.length_nil]
  omega
 have happ := q_Append x.tuple [⟨x.tuple.term, 0, 0⟩] ⟨hbd.tup.1, by simp⟩
 rw [chg_some, if_pos h.tup, if_pos ha] at happ
 have hloop := p_Lead_l1 x ({ x.tuple with log := x.tuple.log ++ [⟨x.tuple.term, 0, 0⟩] }, 0) (x.tuple.last + 1) h (by omega) x.next.length 0 Yy (by omega) (by omega) (by have := hbd.ln; unfold Yy; omega)
 rw [mapTo_zero, mapTo_zero] at hloop
 simp only [Jd, Zfh x hbd, Zdq x hbd, Zcp, Xj h, happ, Option.bind_some, Bool.cond_decide, if_neg (show ¬ x.role ≠ 1 from fun h => h hr), Bool.not_true, cond_false, if_neg (show ¬ (0 : Int) ≠ 0 by decide), p_tLast _ hbd', lead_last]
 exact hloop
theorem lead_right (x : Co) (h : RightC x) (hr : x.role = 1) (hl : x.tuple.log.length < 200) : RightC (leadC x) := by
 have ha := lead_tup x h hr hl
 have hcb := commit_bd h
 have hlen : x.tuple.last = x.tuple.snap.index + x.tuple.log.length := rfl
 have hxb := tupB_bd _ h.tup
 have hn := h.n
 have hid := h.id
 unfold leadC
 refine ⟨h.n, h.id, by show (2 : Int) ≤ 2; omega, h.bin, ha, ?_, h.lv, ?_, ?_, h.lc, ?_, ?_, h.caps, h.own, .inr ⟨(noop_right x h (by omega)).2.1, (noop_right x h (by omega)).2.2⟩⟩
 ·dsimp only
  rw [← h.st]
  unfold stOf
  rw [lead_last, if_pos (by dsimp only; omega), if_pos hcb, List.take_append_of_le_length (by dsimp only; omega)]
 ·dsimp only; rw [List.length_map]; exact h.ln
 ·dsimp only; rw [List.length_set, List.length_map]; exact h.lm
 ·dsimp only; rw [lead_last]
  intro a ha'
  obtain ⟨_, _, rfl⟩ := List.mem_map.1 ha'
  omega
 ·dsimp only; rw [lead_last]
  refine InB.set (fun a ha' => ?_) (by omega)
  obtain ⟨_, _, rfl⟩ := List.mem_map.1 ha'
  omega
def FreeP (y : Co) (m : Ms) : Prop := (y.tuple.vote = 0 ∨ y.tuple.vote = m.frm) ∧ y.role = 0 ∧ m.term = y.tuple.term ∧ NewP y m.lastTerm m.last
def votedC (y : Co) (m : Ms) : Co := { y with tuple := { y.tuple with term := m.term, vote := m.frm } }
theorem p_Vote_no (x : Co) (m : Ms) (hx : BdC x) (hm : BdM m) (h : ¬ (ToC x m ∧ m.kind = 1)) : V9 x m = some (x, []) := by
 simp only [V9, p_fits x m hx hm, Zfh x hx, Option.bind_some, Bool.cond_decide]
 by_cases c1 : ToC x m
 case neg => rw [Yf c1]; rfl
 rw [Xj c1]
 simp only [Bool.not_true, cond_false]
 rw [if_pos (fun h2 => h ⟨c1, h2⟩)]
theorem p_Vote_yes (x : Co) (m : Ms) (hm : BdM m) (h : ToC x m) (hk : m.kind = 1) (hf : FreeP (X8 x m) m) : V9 x m = some (votedC (X8 x m) m, [backM (votedC (X8 x m) m) m 2 true 0]) := by
 have hx := h.2.1.bd
 have hy := Zfa x m h.2.1
 obtain ⟨f1, f2, f3, f4⟩ := hf
 have hd := (hard_yes (X8 x m).tuple m.term m.frm hy.tup (.inr ⟨f3, f1⟩) h.2.2.term.2 (by have := h.2.2.frm; have := h.2.2.many; omega)).2
 simp only [V9, p_fits x m hx hm, p_Meet x m hx hm, Xj h, Option.bind_some, Bool.cond_decide, Bool.not_true, cond_false, if_neg (show ¬ m.kind ≠ 1 from fun h => h hk), if_pos f2, if_pos f3, p_Newer _ _ _ hy, Xj f4, cond_true, hd, J4]
 rcases f1 with f1 | f1
 ·rw [if_pos f1]; rfl
 ·by_cases c : (X8 x m).tuple.vote = 0
  ·rw [if_pos c]; rfl
  ·rw [if_neg c, if_pos f1]; rfl
theorem p_Vote_none (x : Co) (m : Ms) (hm : BdM m) (h : ToC x m) (hk : m.kind = 1) (hf : ¬ FreeP (X8 x m) m) : V9 x m = some (X8 x m, [backM (X8 x m) m 2 false 0]) := by
 have hx := h.2.1.bd
 have hy := Zfa x m h.2.1
 have key : ((X8 x m).tuple.vote = 0 ∨ (X8 x m).tuple.vote = m.frm) → (X8 x m).role = 0 → m.term = (X8 x m).tuple.term → Zfy (NewP (X8 x m) m.lastTerm m.last) = false := fun a b c => Yf fun d => hf ⟨a, b, c, d⟩
 simp only [V9, p_fits x m hx hm, p_Meet x m hx hm, Xj h, Option.bind_some, Bool.cond_decide, Bool.not_true, cond_false, if_neg (show ¬ m.kind ≠ 1 from fun h => h hk), p_Newer _ _ _ hy, J4]
 by_cases c1 : (X8 x m).tuple.vote = 0
 ·rw [if_pos c1]
  by_cases c2 : (X8 x m).role = 0
  ·rw [if_pos c2]
   by_cases c3 : m.term = (X8 x m).tuple.term
   ·rw [if_pos c3, key (.inl c1) c2 c3]; rfl
   ·rw [if_neg c3]; rfl
  ·rw [if_neg c2]; rfl
 ·rw [if_neg c1]
  by_cases c4 : (X8 x m).tuple.vote = m.frm
  ·rw [if_pos c4]
   by_cases c2 : (X8 x m).role = 0
   ·rw [if_pos c2]
    by_cases c3 : m.term = (X8 x m).tuple.term
    ·rw [if_pos c3, key (.inr c4) c2 c3]; rfl
    ·rw [if_neg c3]; rfl
   ·rw [if_neg c2]; rfl
  ·rw [if_neg c4]; rfl
theorem voted_right (x : Co) (m : Ms) (h : ToC x m) (hf : FreeP (X8 x m) m) : RightC (votedC (X8 x m) m) := by
 have hy := Zfa x m h.2.1
 obtain ⟨f1, f2, f3, f4⟩ := hf
 have hd := (hard_yes (X8 x m).tuple m.term m.frm hy.tup (.inr ⟨f3, f1⟩) h.2.2.term.2 (by have := h.2.2.frm; have := h.2.2.many; omega)).1
 exact ⟨hy.n, hy.id, hy.role, hy.bin, hd, hy.st, hy.lv, hy.ln, hy.lm, hy.lc, hy.next, hy.mtch, hy.caps, hy.own, .inl f2⟩
end
section
open Go Go.RowKit
set_option maxRecDepth 100000
theorem Zd5 : Jl = some true := by decide +kernel
end
section
open Go Go.RowKit
set_option maxRecDepth 100000
def toM (x : Co) (m : Ms) (d : Int) : Ms := ⟨m.kind, x.id, d, x.tuple.term, x.binary, m.last, m.lastTerm, m.commit, m.okk, m.entries, m.snap⟩
theorem others_r1 (x : Co) (m : Ms) (hm : m.entries.length ≤ 1000000) (l : List Int) : ∀ (v : List Ms), v.length + l.length ≤ 1000000 → Jq x m l v = some (v ++ l.map (toM x m)) := by
 induction l with
 | nil => intro v _; rw [Jq]; simp
 | cons d l ih =>
  intro v hv
  rw [List.length_cons] at hv
  rw [Jq, Xk, fewI_ok _ (by omega), Option.bind_some, fewI_ok _ (by rw [List.length_append]; simp only [List.length_cons, List.length_nil]; omega), Option.bind_some]
  have := ih (v ++ [toM x m d]) (by rw [List.length_append]; simp only [List.length_cons, List.length_nil]; omega)
  rw [List.append_assoc] at this
  exact this
theorem others_all : ∀ n : Fin 6, ∀ i : Fin 6, 1 ≤ i.val → i.val ≤ n.val → (Za5 (i.val : Int) 1 n.val).length = n.val - 1 ∧ ∀ k : Fin 6, ∀ d, (Za5 (i.val : Int) 1 n.val)[k.val]? = some d → (1 ≤ d ∧ d ≤ (n.val : Int) ∧ d ≠ (i.val : Int)) ∧ (1 ≤ k.val → ∀ c, (Za5 (i.val : Int) 1 n.val)[k.val - 1]? = some c → c < d) := by
 intro n i h1 h2
 have hn : n.val = 1 ∨ n.val = 2 ∨ n.val = 3 ∨ n.val = 4 ∨ n.val = 5 := by omega
 have key : ∀ (L : List Int) (i n : Int), (∀ k : Fin 6, (match L[k.val]? with | some d => decide ((1 ≤ d ∧ d ≤ n ∧ d ≠ i)) && (if 1 ≤ k.val then (match L[k.val - 1]? with | some c => decide (c < d) | none => true) else true) | none => true) = true) → ∀ k : Fin 6, ∀ d, L[k.val]? = some d → (1 ≤ d ∧ d ≤ n ∧ d ≠ i) ∧ (1 ≤ k.val → ∀ c, L[k.val - 1]? = some c → c < d) := by
  intro L i n h k d hd
  have h3 := h k
  rw [hd] at h3
  simp only [Bool.and_eq_true, decide_eq_true_eq] at h3
  refine ⟨h3.1, fun h4 c hc => ?_⟩
  have h5 := h3.2
  rw [if_pos h4, hc] at h5
  exact of_decide_eq_true h5
 have fin : ∀ n : Fin 6, ∀ i : Fin 6, 1 ≤ i.val → i.val ≤ n.val → (Za5 (i.val : Int) 1 n.val).length = n.val - 1 ∧ (∀ k : Fin 6, (match (Za5 (i.val : Int) 1 n.val)[k.val]? with | some d => decide ((1 ≤ d ∧ d ≤ (n.val : Int) ∧ d ≠ (i.val : Int))) && (if 1 ≤ k.val then (match (Za5 (i.val : Int) 1 n.val)[k.val - 1]? with | some c => decide (c < d) | none => true) else true) | none => true) = true) := by decide +kernel
 exact ⟨(fin n i h1 h2).1, key _ _ _ (fin n i h1 h2).2⟩
end
section
open Go Go.RowKit
set_option maxRecDepth 100000
end
section
open Go Go.RowKit
set_option maxRecDepth 100000
def halfB (l : List Bool) : Bool := decide (l.length < 2 * l.count true)
theorem votesL_len (l : List Bool) : ∀ k, (votesL k l).length = l.count true := by
 induction l with
 | nil => intro k; rfl
 | cons a l ih =>
  intro k
  rw [votesL]
  cases a with
  | true => rw [if_pos rfl, List.length_cons, ih, List.count_cons_self]
  | false => rw [if_neg (by decide), ih, List.count_cons_of_ne (by decide)]
theorem half_r1 (x : List Bool) (l : List Int) : ∀ v : Int, 0 ≤ v → v + l.length ≤ 2000000 → Jr x l v = some (decide ((x.length : Int) < 2 * (v + l.length))) := by
 induction l with
 | nil => intro v h1 h2; rw [Jr, Zdj (by simp at h2; omega)]; simp
 | cons a l ih =>
  intro v h1 h2
  rw [List.length_cons] at h2 ⊢
  rw [Jr, Zdj (by omega), ih (v + 1) (by omega) (by omega)]
  congr 3
  omega
theorem p_Half (l : List Bool) (h : l.length ≤ 1000000) : Zay l = some (halfB l) := by
 have h1 := votesL_len l 0
 have h2 : l.count true ≤ l.length := List.count_le_length
 unfold Zay m_it_votes
 rw [if_pos h, Option.bind_some, half_r1 l _ 0 (by omega) (by rw [h1]; omega), h1]
 unfold halfB
 congr 1
 rw [Bool.eq_iff_iff, decide_eq_true_eq, decide_eq_true_eq]
 omega
theorem p_Others_is (x : Co) (m : Ms) (h : RightC x) (hm : m.entries.length ≤ 1000000) : Zcm x m = some ((Za5 x.id 1 x.n.toNat).map (toM x m)) ∧ (Za5 x.id 1 x.n.toNat).length ≤ 5 := by
 have hn := h.n
 have hi := h.id
 obtain ⟨N, hN⟩ : ∃ N : Nat, x.n = (N : Int) := ⟨x.n.toNat, by omega⟩
 obtain ⟨J, hJ⟩ : ∃ J : Nat, x.id = (J : Int) := ⟨x.id.toNat, by omega⟩
 obtain ⟨h1, h2⟩ := others_all ⟨N, by omega⟩ ⟨J, by omega⟩ (by show 1 ≤ J; omega) (by show J ≤ N; omega)
 dsimp only at h1 h2
 have e : x.n.toNat = N := by omega
 rw [e, hJ]
 refine ⟨?_, by omega⟩
 unfold Zcm m_it_others
 rw [Option.bind_some, show (min x.n 5).toNat = N by omega, others_r1 x m hm _ [] (by rw [hJ, h1]; simp; omega), hJ]
 rfl
def Zdi (x : Co) : Co := { x with tuple := { x.tuple with term := x.tuple.term + 1, vote := x.id }, role := 1, votes := (List.replicate x.n.toNat false).set (x.id - 1).toNat true }
theorem time_right (x : Co) (h : RightC x) (ht : x.tuple.term < 1073741824) : RightC (Zdi x) ∧ J6 x.tuple (x.tuple.term + 1) x.id = some ({ x.tuple with term := x.tuple.term + 1, vote := x.id }, 0) := by
 have hid := h.id
 have hn := h.n
 have hs := (Zb8 _).1 h.tup
 have h0 : 0 ≤ x.tuple.term := by
  have h1 := lastT_mono _ _ hs.2.2.1
  have h2 := hs.2.2.2
  rcases hs.1 with h3 | h3
  ·rw [h3] at h1 h2; have : firstS.term = 0 := rfl; omega
  ·omega
 have hh := hard_yes x.tuple (x.tuple.term + 1) x.id h.tup (.inl (by omega)) (by omega) (by omega)
 refine ⟨⟨h.n, h.id, by show (1 : Int) ≤ 2; decide, h.bin, hh.1, h.st, ?_, h.ln, h.lm, h.lc, h.next, h.mtch, h.caps, h.own, .inr ⟨by show 0 < x.tuple.term + 1; omega, rfl⟩⟩, hh.2⟩
 show (((List.replicate x.n.toNat false).set _ true).length : Int) = x.n
 rw [List.length_set, List.length_replicate]
 omega
end
section
open Go Go.RowKit
set_option maxRecDepth 100000
structure LeadWay (x o : Co) : Prop where
 right : RightC o
 id : o.id = x.id
 n : o.n = x.n
 commit : o.commit = x.commit
 snap : o.tuple.snap = x.tuple.snap
 term : o.tuple.term = x.tuple.term
 vote : o.tuple.vote = x.tuple.vote
 len : x.tuple.log.length ≤ o.tuple.log.length
 pre : o.tuple.log.take x.tuple.log.length = x.tuple.log
theorem LeadWay.refl {x : Co} (h : RightC x) : LeadWay x x := ⟨h, rfl, rfl, rfl, rfl, rfl, rfl, Nat.le_refl _, List.take_length⟩
theorem follow_right (x : Co) (h : RightC x) : RightC { x with role := 0 } := ⟨h.n, h.id, by show (0 : Int) ≤ 2; decide, h.bin, h.tup, h.st, h.lv, h.ln, h.lm, h.lc, h.next, h.mtch, h.caps, h.own, .inl rfl⟩
theorem lead_step (x : Co) (h : RightC x) : ∃ z, Jd x = some z ∧ LeadWay x z := by
 by_cases hr : x.role = 1
 ·by_cases hl : 200 ≤ x.tuple.log.length
  ·exact ⟨_, p_Lead_full x h hr hl, follow_right x h, rfl, rfl, rfl, rfl, rfl, rfl, Nat.le_refl _, List.take_length⟩
  ·refine ⟨_, p_Lead x h hr (by omega), lead_right x h hr (by omega), rfl, rfl, rfl, rfl, rfl, rfl, ?_, ?_⟩
   ·show _ ≤ (x.tuple.log ++ [_]).length
    rw [List.length_append]; omega
   ·show (x.tuple.log ++ [_]).take _ = _
    exact List.take_left
 ·exact ⟨x, p_Lead_no x h hr, LeadWay.refl h⟩
structure StepWay (x o : Co) : Prop where
 right : RightC o
 id : o.id = x.id
 n : o.n = x.n
 commit : o.commit = x.commit
 snap : o.tuple.snap = x.tuple.snap
 term : x.tuple.term ≤ o.tuple.term
 vote : o.tuple.term = x.tuple.term → 0 < x.tuple.vote → o.tuple.vote = x.tuple.vote
 len : x.tuple.log.length ≤ o.tuple.log.length
 pre : o.tuple.log.take x.tuple.log.length = x.tuple.log
theorem StepWay.refl {x : Co} (h : RightC x) : StepWay x x := ⟨h, rfl, rfl, rfl, rfl, Int.le_refl _, fun _ _ => rfl, Nat.le_refl _, List.take_length⟩
theorem StepWay.lead {x y z : Co} (h : StepWay x y) (g : LeadWay y z) : StepWay x z :=
 ⟨g.right, g.id.trans h.id, g.n.trans h.n, g.commit.trans h.commit, g.snap.trans h.snap, by rw [g.term]; exact h.term, fun a b => by rw [g.vote]; exact h.vote (by rw [← g.term]; exact a) b, Nat.le_trans h.len g.len, by
  have e := h.pre
  rw [← g.pre, List.take_take, Nat.min_eq_left h.len] at e
  exact e⟩
structure ToldWay (o : Co) (l : List Ms) : Prop where
 few : l.length ≤ 1000
 many : (l.length : Int) ≤ o.n
 all : ∀ m ∈ l, FineM m o.n ∧ m.frm = o.id ∧ m.term = o.tuple.term ∧ BdM m
theorem ToldWay.nil {o : Co} (h : RightC o) : ToldWay o [] := ⟨Nat.zero_le _, by have := h.n; simp only [List.length_nil]; omega, fun _ h => by cases h⟩
theorem meet_step (x : Co) (m : Ms) (h : RightC x) : StepWay x (X8 x m) := by
 have hf := meet_f x m
 refine ⟨Zfa x m h, hf.id, hf.n, hf.commit, hf.snap, hf.term, fun h1 h2 => ?_, by rw [hf.log]; exact Nat.le_refl _, by rw [hf.log]; exact List.take_length⟩
 by_cases c : ToC x m
 ·rcases meet_term x m c with ⟨h3, h4, _⟩ | ⟨_, h4⟩
  ·omega
  ·rw [h4]
 ·unfold X8
  rw [if_neg (fun h => c h.1), hear_no x m c]
theorem vote_step (x : Co) (m : Ms) (h : RightC x) (hm : BdM m) : ∃ o l, V9 x m = some (o, l) ∧ StepWay x o ∧ ToldWay o l := by
 by_cases c : ToC x m ∧ m.kind = 1
 case neg => exact ⟨x, [], p_Vote_no x m h.bd hm c, StepWay.refl h, ToldWay.nil h⟩
 obtain ⟨c1, hk⟩ := c
 have hs := meet_step x m h
 have hf := meet_f x m
 have hge := meet_ge x m c1
 have hmt := c1.2.2.term
 have hn := h.n
 have htb := ((Zb8 _).1 hs.right.tup).2.1.2.2.2.2
 have told : ∀ (o : Co) (ok : Bool), o.id = x.id → o.n = x.n → o.binary = x.binary → o.tuple.term = (X8 x m).tuple.term → ToldWay o [backM o m 2 ok 0] := fun o ok h1 h2 h3 h4 => by
  refine ⟨by simp, by rw [h2]; simp only [List.length_cons, List.length_nil]; omega, fun a ha => ?_⟩
  obtain rfl : a = backM o m 2 ok 0 := by simpa using ha
  refine ⟨?_, rfl, rfl, ⟨by show (0 : Int) ≤ 2 ∧ (2 : Int) ≤ 255; decide, by show (0 : Nat) ≤ 1000000; omega⟩⟩
  rw [h2]
  exact back_fine x o m ok 2 0 c1 h1 h3 (by rw [h4]; omega) (.inl rfl) ⟨Int.le_refl 0, by decide⟩
 by_cases hF : FreeP (X8 x m) m
 ·refine ⟨_, _, p_Vote_yes x m hm c1 hk hF, ?_, told _ true hf.id hf.n hf.binary hF.2.2.1⟩
  obtain ⟨f1, f2, f3, f4⟩ := hF
  refine ⟨voted_right x m c1 ⟨f1, f2, f3, f4⟩, hf.id, hf.n, hf.commit, hf.snap, by show x.tuple.term ≤ m.term; rw [f3]; exact hs.term, fun h1 h2 => ?_, hs.len, hs.pre⟩
  have h3 : (X8 x m).tuple.term = x.tuple.term := by rw [← f3]; exact h1
  have h4 := hs.vote h3 h2
  show m.frm = x.tuple.vote
  rcases f1 with f1 | f1 <;> omega
 ·exact ⟨_, _, p_Vote_none x m hm c1 hk hF, hs, told _ false hf.id hf.n hf.binary rfl⟩
theorem voted_step (x : Co) (m : Ms) (h : RightC x) (hm : BdM m) : ∃ o, J8 x m = some (o, []) ∧ StepWay x o := by
 have hx := h.bd
 by_cases c : ToC x m
 case neg =>
  refine ⟨x, ?_, StepWay.refl h⟩
  simp only [J8, Zfh x hx, p_fits x m hx hm, Yf c, Option.bind_some, Bool.not_false, cond_true]
 by_cases hk : m.kind = 2
 case neg =>
  refine ⟨x, ?_, StepWay.refl h⟩
  simp only [J8, Zfh x hx, p_fits x m hx hm, Xj c, Option.bind_some, Bool.not_true, cond_false, Bool.cond_decide, if_pos (show m.kind ≠ 2 from hk)]
 have hs := meet_step x m h
 have hy := hs.right
 have hmf := meet_f x m
 have hbdy := hy.bd
 have hlv := hy.lv
 have hn := h.n
 have hfr := c.2.2.frm
 have hw : IntKind.wrap .i64 (m.frm - 1) = (((m.frm - 1).toNat : Nat) : Int) := by rw [Zdj (by omega)]; omega
 have hnn := hmf.n
 obtain ⟨e, he, _⟩ := Vj (show (m.frm - 1).toNat < (X8 x m).votes.length by omega)
 have hl : ((X8 x m).votes.set (m.frm - 1).toNat true).length ≤ 1000000 := by rw [List.length_set]; exact hbdy.lv
 have hzR : RightC { X8 x m with votes := (X8 x m).votes.set (m.frm - 1).toNat true } := ⟨hy.n, hy.id, hy.role, hy.bin, hy.tup, hy.st, by dsimp only; rw [List.length_set]; exact hy.lv, hy.ln, hy.lm, hy.lc, hy.next, hy.mtch, hy.caps, hy.own, hy.lead⟩
 have hzS : StepWay x { X8 x m with votes := (X8 x m).votes.set (m.frm - 1).toNat true } := ⟨hzR, hs.id, hs.n, hs.commit, hs.snap, hs.term, hs.vote, hs.len, hs.pre⟩
 obtain ⟨z, hz1, hz2⟩ := lead_step _ hzR
 have k1 : J8 x m = cond (!m.okk) (some (X8 x m, [])) (if (X8 x m).role ≠ 1 then some (X8 x m, []) else if m.term ≠ (X8 x m).tuple.term then some (X8 x m, []) else cond (halfB ((X8 x m).votes.set (m.frm - 1).toNat true)) (some (z, [])) (some ({ X8 x m with votes := (X8 x m).votes.set (m.frm - 1).toNat true }, []))) := by
  simp only [J8, p_fits x m hx hm, p_Meet x m hx hm, Xj c, Option.bind_some, Bool.cond_decide, Bool.not_true, cond_false, if_neg (show ¬ m.kind ≠ 2 from fun h => h hk), hw, Vx, he, setI_nat, p_Half _ hl, hz1]
 rw [k1]
 by_cases c1 : (X8 x m).role = 1
 case neg => simp only [ne_eq, if_pos (show ¬ (X8 x m).role = 1 from c1)]; exact ⟨X8 x m, by cases m.okk <;> rfl, hs⟩
 simp only [ne_eq, if_neg (show ¬ ¬ (X8 x m).role = 1 from fun h => h c1)]
 by_cases c2 : m.term = (X8 x m).tuple.term
 case neg => simp only [if_pos (show ¬ m.term = (X8 x m).tuple.term from c2)]; exact ⟨X8 x m, by cases m.okk <;> rfl, hs⟩
 simp only [if_neg (show ¬ ¬ m.term = (X8 x m).tuple.term from fun h => h c2)]
 cases m.okk with
 | false => exact ⟨_, rfl, hs⟩
 | true =>
  cases halfB ((X8 x m).votes.set (m.frm - 1).toNat true) with
  | true => exact ⟨_, rfl, hzS.lead hz2⟩
  | false => exact ⟨_, rfl, hzS⟩
theorem others_mem (x : Co) (h : RightC x) : (((Za5 x.id 1 x.n.toNat).length : Nat) : Int) ≤ x.n ∧ ∀ d ∈ Za5 x.id 1 x.n.toNat, 1 ≤ d ∧ d ≤ x.n ∧ d ≠ x.id := by
 have hn := h.n
 have hi := h.id
 obtain ⟨N, hN⟩ : ∃ N : Nat, x.n = (N : Int) := ⟨x.n.toNat, by omega⟩
 obtain ⟨J, hJ⟩ : ∃ J : Nat, x.id = (J : Int) := ⟨x.id.toNat, by omega⟩
 obtain ⟨h1, h2⟩ := others_all ⟨N, by omega⟩ ⟨J, by omega⟩ (by show 1 ≤ J; omega) (by show J ≤ N; omega)
 dsimp only at h1 h2
 rw [show x.n.toNat = N by omega, hJ, hN]
 refine ⟨by omega, fun d hd => ?_⟩
 obtain ⟨k, hk⟩ := List.getElem?_of_mem hd
 have hkl := (List.getElem?_eq_some_iff.1 hk).1
 exact (h2 ⟨k, by omega⟩ d hk).1
theorem time_step (x : Co) (h : RightC x) : ∃ o l, V1 x = some (o, l) ∧ StepWay x o ∧ ToldWay o l := by
 have hx := h.bd
 have htb := ((Zb8 _).1 h.tup).2.1.2.2.2.2
 by_cases hr : x.role = 2
 ·refine ⟨x, [], ?_, StepWay.refl h, ToldWay.nil h⟩
  simp only [V1, Zfh x hx, Zdq x hx, Zcp, Xj h, Option.bind_some, Bool.not_true, cond_false, Bool.cond_decide, if_pos hr]
 by_cases ht : x.tuple.term = 1073741824
 ·refine ⟨x, [], ?_, StepWay.refl h, ToldWay.nil h⟩
  simp only [V1, Zfh x hx, Zdq x hx, Zcp, Xj h, Option.bind_some, Bool.not_true, cond_false, Bool.cond_decide, if_neg hr, if_pos ht]
 obtain ⟨hR, hH⟩ := time_right x h (by omega)
 have hid := h.id
 have hn := h.n
 have hbd := hR.bd
 obtain ⟨N, hN⟩ : ∃ N : Nat, x.n = (N : Int) := ⟨x.n.toNat, by omega⟩
 have hk : makeI false x.n = some (List.replicate x.n.toNat false) := by rw [hN, makeI_nat _ N (by omega), Int.toNat_natCast]
 have hw : IntKind.wrap .i64 (x.id - 1) = (((x.id - 1).toNat : Nat) : Int) := by rw [Zdj (by omega)]; omega
 have hg : idx (List.replicate x.n.toNat false) (((x.id - 1).toNat : Nat) : Int) = some false := by rw [Vx, List.getElem?_replicate, if_pos (by omega)]
 have hi : idx [x.id] 0 = some x.id := rfl
 have hlv : ((List.replicate x.n.toNat false).set (x.id - 1).toNat true).length ≤ 1000000 := by rw [List.length_set, List.length_replicate]; omega
 have h00 : 0 ≤ endT x.tuple ∧ endT x.tuple ≤ x.tuple.term := by
  have h0 := ((Zb8 _).1 h.tup).2.2
  have h1 := lastT_mono _ _ h0.1
  have hs := ((Zb8 _).1 h.tup).1
  unfold endT
  rcases hs with h3 | h3
  ·rw [h3] at h1 h0 ⊢; have : firstS.term = 0 := rfl; omega
  ·omega
 have hwt : IntKind.wrap .i64 (x.tuple.term + 1) = x.tuple.term + 1 := Zdj (by omega)
 have hend := p_end (Zdi x) hbd
 have hot := p_Others_is (Zdi x) ⟨1, 0, 0, 0, 0, (Zdi x).tuple.last, endT (Zdi x).tuple, 0, false, [], ⟨0, 0, 0, 0, false⟩⟩ hR (by simp)
 have hom := others_mem (Zdi x) hR
 obtain ⟨z, hz1, hz2⟩ := lead_step (Zdi x) hR
 have e1 : V1 x = (cond (halfB (Zdi x).votes) ((Jd (Zdi x)).bind fun r78 => some (r78, [])) ((Zb6 (Zdi x)).bind fun r101 => (Zcm (Zdi x) ⟨1, 0, 0, 0, 0, r101.1, r101.2, 0, false, [], ⟨0, 0, 0, 0, false⟩⟩).bind fun r104 => some (Zdi x, r104))) := by
  simp only [V1, Zfh x hx, Zdq x hx, Zcp, Xj h, Option.bind_some, Bool.not_true, cond_false, Bool.cond_decide, if_neg hr, if_neg ht, hwt, hH, hk, hi, hw, hg, setI_nat, p_Half _ hlv]
  rfl
 have hS : StepWay x (Zdi x) := ⟨hR, rfl, rfl, rfl, rfl, by show x.tuple.term ≤ x.tuple.term + 1; omega, fun h1 _ => by have h2 : x.tuple.term + 1 = x.tuple.term := h1; omega, Nat.le_refl _, List.take_length⟩
 rw [e1, hend, Option.bind_some, hot.1, Option.bind_some, hz1, Option.bind_some]
 cases halfB (Zdi x).votes with
 | true => exact ⟨_, _, rfl, hS.lead hz2, ToldWay.nil hz2.right⟩
 | false =>
  refine ⟨_, _, rfl, hS, by rw [List.length_map]; omega, by rw [List.length_map]; exact hom.1, fun a ha => ?_⟩
  obtain ⟨d, hd, rfl⟩ := List.mem_map.1 ha
  obtain ⟨d1, d2, d3⟩ := hom.2 d hd
  have hxb := tupB_bd _ h.tup
  have hlen : x.tuple.last = x.tuple.snap.index + x.tuple.log.length := rfl
  have hla : (Zdi x).tuple.last = x.tuple.last := rfl
  have he : endT (Zdi x).tuple = endT x.tuple := rfl
  refine ⟨⟨hR.n, hR.id, ⟨d1, d2⟩, fun hh => d3 hh.symm, by show (1 : Int) ≤ 1 ∧ (1 : Int) ≤ 5; decide, by show 1 ≤ x.tuple.term + 1 ∧ x.tuple.term + 1 ≤ 1073741824; omega, h.bin, by show 0 ≤ (Zdi x).tuple.last ∧ (Zdi x).tuple.last ≤ 1073741824; rw [hla]; omega, by show 0 ≤ endT (Zdi x).tuple ∧ endT (Zdi x).tuple ≤ 1073741824; rw [he]; omega, ⟨Int.le_refl 0, by show (0 : Int) ≤ 1073741824; decide⟩, trivial, by show (0 : Nat) ≤ 4; omega, fun _ => ⟨rfl, rfl⟩, fun hh => absurd (show (false : Bool) = true from hh) (by decide), fun hh => absurd (show (1 : Int) = 5 from hh) (by decide), fun _ => rfl⟩, rfl, rfl, ⟨by show (0 : Int) ≤ 1 ∧ (1 : Int) ≤ 255; decide, by show (0 : Nat) ≤ 1000000; omega⟩⟩
theorem p_step (x : Co) (k : Int) (m : Ms) (h : RightC x) (hm : BdM m) : ∃ o l, Zaz x k m = some (o, l) ∧ StepWay x o ∧ ToldWay o l := by
 unfold Zaz
 by_cases c0 : Int.tmod k 4 = 0
 ·obtain ⟨o, l, h1, h2, h3⟩ := time_step x h
  exact ⟨o, l, by rw [decide_eq_true c0, cond_true, h1]; rfl, h2, h3⟩
 by_cases c1 : Int.tmod k 4 = 1
 ·obtain ⟨o, l, h1, h2, h3⟩ := vote_step x m h hm
  exact ⟨o, l, by rw [decide_eq_false c0, cond_false, decide_eq_true c1, cond_true, h1]; rfl, h2, h3⟩
 by_cases c2 : Int.tmod k 4 = 2
 ·obtain ⟨o, h1, h2⟩ := voted_step x m h hm
  exact ⟨o, [], by rw [decide_eq_false c0, cond_false, decide_eq_false c1, cond_false, decide_eq_true c2, cond_true, h1]; rfl, h2, ToldWay.nil h2.right⟩
 ·exact ⟨X8 x m, [], by rw [decide_eq_false c0, cond_false, decide_eq_false c1, cond_false, decide_eq_false c2, cond_false, p_Meet x m h.bd hm]; rfl, meet_step x m h, ToldWay.nil (Zfa x m h)⟩
theorem Zaw (f : Nat → Int → Option Bool) (l : List Ms) (hl : l.length ≤ 1000) (stop : ∀ n j, ¬ j < (l.length : Int) → f (n + 1) j = some true)
  (go : ∀ n (k : Nat) e, l[k]? = some e → f (n + 1) k = f n (IntKind.wrap .i64 ((k : Int) + 1))) : ∀ (q k n : Nat), q + k = l.length → q < n → f n k = some true := by
 intro q
 induction q with
 | zero =>
  intro k n hk hn
  obtain ⟨n, rfl⟩ : ∃ n', n = n' + 1 := ⟨n - 1, by omega⟩
  exact stop n k (by omega)
 | succ q ih =>
  intro k n hk hn
  obtain ⟨n, rfl⟩ : ∃ n', n = n' + 1 := ⟨n - 1, by omega⟩
  obtain ⟨e, he, _⟩ := Vj (show k < l.length by omega)
  have w1 : IntKind.wrap .i64 ((k : Int) + 1) = ((k + 1 : Nat) : Int) := by rw [Zdj (by omega)]; omega
  rw [go n k e he, w1]
  exact ih (k + 1) n (by omega) (by omega)
theorem told_l2 (kk : Int → Int → Int → Int → Int → Int → Int → Int → Int → Bool → List En → Int → Int → Int → Int → Int → Int → Int → Bool → List Bool → List Int → List Int → List Int → Option Bool) (i : Int) (r : Co × List Ms) (hT : ToldWay r.1 r.2) (hK : kk (IntKind.wrap .i64 (i + 1)) r.1.id r.1.n r.1.role r.1.binary r.1.tuple.snap.index r.1.tuple.snap.term r.1.tuple.snap.sum r.1.tuple.snap.level r.1.tuple.snap.final r.1.tuple.log r.1.tuple.term r.1.tuple.vote r.1.commit r.1.applied.index r.1.applied.term r.1.applied.sum r.1.applied.level r.1.applied.final r.1.votes r.1.next r.1.mtch r.1.caps = some true) : X3 kk i r Yy 0 = some true := by
 have hn := hT.few
 exact Zaw (fun n j => X3 kk i r n j) r.2 hn
  (fun n j hj => by show X3 kk i r (n + 1) j = _; rw [X3, decide_eq_false hj, cond_false]; exact hK)
  (fun n k e he => by
   obtain ⟨h1, h2, h3, h4⟩ := hT.all e (List.mem_of_getElem? he)
   have h5 := Zbt e r.1.n h4
   unfold Zdu at h5
   rw [Xj h1] at h5
   have hk := (List.getElem?_eq_some_iff.1 he).1
   show X3 kk i r (n + 1) (k : Int) = _
   rw [X3]
   simp only [decide_eq_true (show (k : Int) < (r.2.length : Int) by omega), cond_true, Vx, he, Option.bind_some, h5, Bool.not_true, cond_false, h2, h3, ne_eq, not_true, decide_false])
  r.2.length 0 Yy (by omega) (by unfold Yy; omega)
theorem told_l3 (kk : Int → Int → Int → Int → Int → Int → Int → Int → Int → Bool → List En → Int → Int → Int → Int → Int → Int → Int → Bool → List Bool → List Int → List Int → List Int → Option Bool) (i : Int) (r : Co × List Ms) (hT : ToldWay r.1 r.2) (hK : kk (IntKind.wrap .i64 (i + 1)) r.1.id r.1.n r.1.role r.1.binary r.1.tuple.snap.index r.1.tuple.snap.term r.1.tuple.snap.sum r.1.tuple.snap.level r.1.tuple.snap.final r.1.tuple.log r.1.tuple.term r.1.tuple.vote r.1.commit r.1.applied.index r.1.applied.term r.1.applied.sum r.1.applied.level r.1.applied.final r.1.votes r.1.next r.1.mtch r.1.caps = some true) : X0 kk i r Yy 0 = some true := by
 have hn := hT.few
 exact Zaw (fun n j => X0 kk i r n j) r.2 hn
  (fun n j hj => by show X0 kk i r (n + 1) j = _; rw [X0, decide_eq_false hj, cond_false]; exact hK)
  (fun n k e he => by
   obtain ⟨h1, h2, h3, h4⟩ := hT.all e (List.mem_of_getElem? he)
   have h5 := Zbt e r.1.n h4
   unfold Zdu at h5
   rw [Xj h1] at h5
   have hk := (List.getElem?_eq_some_iff.1 he).1
   show X0 kk i r (n + 1) (k : Int) = _
   rw [X0]
   simp only [decide_eq_true (show (k : Int) < (r.2.length : Int) by omega), cond_true, Vx, he, Option.bind_some, h5, Bool.not_true, cond_false, h2, h3, ne_eq, not_true, decide_false])
  r.2.length 0 Yy (by omega) (by unfold Yy; omega)
theorem told_l4 (kk : Int → Int → Int → Int → Int → Int → Int → Int → Int → Bool → List En → Int → Int → Int → Int → Int → Int → Int → Bool → List Bool → List Int → List Int → List Int → Option Bool) (i : Int) (r : Co × List Ms) (hT : ToldWay r.1 r.2) (hK : kk (IntKind.wrap .i64 (i + 1)) r.1.id r.1.n r.1.role r.1.binary r.1.tuple.snap.index r.1.tuple.snap.term r.1.tuple.snap.sum r.1.tuple.snap.level r.1.tuple.snap.final r.1.tuple.log r.1.tuple.term r.1.tuple.vote r.1.commit r.1.applied.index r.1.applied.term r.1.applied.sum r.1.applied.level r.1.applied.final r.1.votes r.1.next r.1.mtch r.1.caps = some true) : Xz kk i r Yy 0 = some true := by
 have hn := hT.few
 exact Zaw (fun n j => Xz kk i r n j) r.2 hn
  (fun n j hj => by show Xz kk i r (n + 1) j = _; rw [Xz, decide_eq_false hj, cond_false]; exact hK)
  (fun n k e he => by
   obtain ⟨h1, h2, h3, h4⟩ := hT.all e (List.mem_of_getElem? he)
   have h5 := Zbt e r.1.n h4
   unfold Zdu at h5
   rw [Xj h1] at h5
   have hk := (List.getElem?_eq_some_iff.1 he).1
   show Xz kk i r (n + 1) (k : Int) = _
   rw [Xz]
   simp only [decide_eq_true (show (k : Int) < (r.2.length : Int) by omega), cond_true, Vx, he, Option.bind_some, h5, Bool.not_true, cond_false, h2, h3, ne_eq, not_true, decide_false])
  r.2.length 0 Yy (by omega) (by unfold Yy; omega)
theorem told_l5 (kk : Int → Int → Int → Int → Int → Int → Int → Int → Int → Bool → List En → Int → Int → Int → Int → Int → Int → Int → Bool → List Bool → List Int → List Int → List Int → Option Bool) (i : Int) (r : Co × List Ms) (hT : ToldWay r.1 r.2) (hK : kk (IntKind.wrap .i64 (i + 1)) r.1.id r.1.n r.1.role r.1.binary r.1.tuple.snap.index r.1.tuple.snap.term r.1.tuple.snap.sum r.1.tuple.snap.level r.1.tuple.snap.final r.1.tuple.log r.1.tuple.term r.1.tuple.vote r.1.commit r.1.applied.index r.1.applied.term r.1.applied.sum r.1.applied.level r.1.applied.final r.1.votes r.1.next r.1.mtch r.1.caps = some true) : X6 kk i r Yy 0 = some true := by
 have hn := hT.few
 exact Zaw (fun n j => X6 kk i r n j) r.2 hn
  (fun n j hj => by show X6 kk i r (n + 1) j = _; rw [X6, decide_eq_false hj, cond_false]; exact hK)
  (fun n k e he => by
   obtain ⟨h1, h2, h3, h4⟩ := hT.all e (List.mem_of_getElem? he)
   have h5 := Zbt e r.1.n h4
   unfold Zdu at h5
   rw [Xj h1] at h5
   have hk := (List.getElem?_eq_some_iff.1 he).1
   show X6 kk i r (n + 1) (k : Int) = _
   rw [X6]
   simp only [decide_eq_true (show (k : Int) < (r.2.length : Int) by omega), cond_true, Vx, he, Option.bind_some, h5, Bool.not_true, cond_false, h2, h3, ne_eq, not_true, decide_false])
  r.2.length 0 Yy (by omega) (by unfold Yy; omega)
theorem told_l6 (kk : Int → Int → Int → Int → Int → Int → Int → Int → Int → Bool → List En → Int → Int → Int → Int → Int → Int → Int → Bool → List Bool → List Int → List Int → List Int → Option Bool) (i : Int) (r : Co × List Ms) (hT : ToldWay r.1 r.2) (hK : kk (IntKind.wrap .i64 (i + 1)) r.1.id r.1.n r.1.role r.1.binary r.1.tuple.snap.index r.1.tuple.snap.term r.1.tuple.snap.sum r.1.tuple.snap.level r.1.tuple.snap.final r.1.tuple.log r.1.tuple.term r.1.tuple.vote r.1.commit r.1.applied.index r.1.applied.term r.1.applied.sum r.1.applied.level r.1.applied.final r.1.votes r.1.next r.1.mtch r.1.caps = some true) : X4 kk i r Yy 0 = some true := by
 have hn := hT.few
 exact Zaw (fun n j => X4 kk i r n j) r.2 hn
  (fun n j hj => by show X4 kk i r (n + 1) j = _; rw [X4, decide_eq_false hj, cond_false]; exact hK)
  (fun n k e he => by
   obtain ⟨h1, h2, h3, h4⟩ := hT.all e (List.mem_of_getElem? he)
   have h5 := Zbt e r.1.n h4
   unfold Zdu at h5
   rw [Xj h1] at h5
   have hk := (List.getElem?_eq_some_iff.1 he).1
   show X4 kk i r (n + 1) (k : Int) = _
   rw [X4]
   simp only [decide_eq_true (show (k : Int) < (r.2.length : Int) by omega), cond_true, Vx, he, Option.bind_some, h5, Bool.not_true, cond_false, h2, h3, ne_eq, not_true, decide_false])
  r.2.length 0 Yy (by omega) (by unfold Yy; omega)
theorem told_l7 (kk : Int → Int → Int → Int → Int → Int → Int → Int → Int → Bool → List En → Int → Int → Int → Int → Int → Int → Int → Bool → List Bool → List Int → List Int → List Int → Option Bool) (i : Int) (r : Co × List Ms) (hT : ToldWay r.1 r.2) (hK : kk (IntKind.wrap .i64 (i + 1)) r.1.id r.1.n r.1.role r.1.binary r.1.tuple.snap.index r.1.tuple.snap.term r.1.tuple.snap.sum r.1.tuple.snap.level r.1.tuple.snap.final r.1.tuple.log r.1.tuple.term r.1.tuple.vote r.1.commit r.1.applied.index r.1.applied.term r.1.applied.sum r.1.applied.level r.1.applied.final r.1.votes r.1.next r.1.mtch r.1.caps = some true) : X2 kk i r Yy 0 = some true := by
 have hn := hT.few
 exact Zaw (fun n j => X2 kk i r n j) r.2 hn
  (fun n j hj => by show X2 kk i r (n + 1) j = _; rw [X2, decide_eq_false hj, cond_false]; exact hK)
  (fun n k e he => by
   obtain ⟨h1, h2, h3, h4⟩ := hT.all e (List.mem_of_getElem? he)
   have h5 := Zbt e r.1.n h4
   unfold Zdu at h5
   rw [Xj h1] at h5
   have hk := (List.getElem?_eq_some_iff.1 he).1
   show X2 kk i r (n + 1) (k : Int) = _
   rw [X2]
   simp only [decide_eq_true (show (k : Int) < (r.2.length : Int) by omega), cond_true, Vx, he, Option.bind_some, h5, Bool.not_true, cond_false, h2, h3, ne_eq, not_true, decide_false])
  r.2.length 0 Yy (by omega) (by unfold Yy; omega)
theorem told_l8 (w : List UInt8) (l : List Ms) (r : Co × List Ms) (hT : ToldWay r.1 r.2) (hK : Z0 w l Yy 1 r.1.id r.1.n r.1.role r.1.binary r.1.tuple.snap.index r.1.tuple.snap.term r.1.tuple.snap.sum r.1.tuple.snap.level r.1.tuple.snap.final r.1.tuple.log r.1.tuple.term r.1.tuple.vote r.1.commit r.1.applied.index r.1.applied.term r.1.applied.sum r.1.applied.level r.1.applied.final r.1.votes r.1.next r.1.mtch r.1.caps = some true) : X1 w l r Yy false 0 = some true := by
 have hn := hT.few
 exact Zaw (fun n j => X1 w l r n false j) r.2 hn
  (fun n j hj => by show X1 w l r (n + 1) false j = _; rw [X1, decide_eq_false hj, cond_false]; exact hK)
  (fun n k e he => by
   obtain ⟨h1, h2, h3, h4⟩ := hT.all e (List.mem_of_getElem? he)
   have h5 := Zbt e r.1.n h4
   unfold Zdu at h5
   rw [Xj h1] at h5
   have hk := (List.getElem?_eq_some_iff.1 he).1
   show X1 w l r (n + 1) false (k : Int) = _
   rw [X1]
   simp only [decide_eq_true (show (k : Int) < (r.2.length : Int) by omega), cond_true, Vx, he, Option.bind_some, h5, Bool.not_true, cond_false, h2, h3, ne_eq, not_true, decide_false])
  r.2.length 0 Yy (by omega) (by unfold Yy; omega)
theorem told_l9 (w : List UInt8) (l : List Ms) (r : Co × List Ms) (hT : ToldWay r.1 r.2) (hK : Z0 w l Yy 1 r.1.id r.1.n r.1.role r.1.binary r.1.tuple.snap.index r.1.tuple.snap.term r.1.tuple.snap.sum r.1.tuple.snap.level r.1.tuple.snap.final r.1.tuple.log r.1.tuple.term r.1.tuple.vote r.1.commit r.1.applied.index r.1.applied.term r.1.applied.sum r.1.applied.level r.1.applied.final r.1.votes r.1.next r.1.mtch r.1.caps = some true) : X5 w l r Yy false 0 = some true := by
 have hn := hT.few
 exact Zaw (fun n j => X5 w l r n false j) r.2 hn
  (fun n j hj => by show X5 w l r (n + 1) false j = _; rw [X5, decide_eq_false hj, cond_false]; exact hK)
  (fun n k e he => by
   obtain ⟨h1, h2, h3, h4⟩ := hT.all e (List.mem_of_getElem? he)
   have h5 := Zbt e r.1.n h4
   unfold Zdu at h5
   rw [Xj h1] at h5
   have hk := (List.getElem?_eq_some_iff.1 he).1
   show X5 w l r (n + 1) false (k : Int) = _
   rw [X5]
   simp only [decide_eq_true (show (k : Int) < (r.2.length : Int) by omega), cond_true, Vx, he, Option.bind_some, h5, Bool.not_true, cond_false, h2, h3, ne_eq, not_true, decide_false])
  r.2.length 0 Yy (by omega) (by unfold Yy; omega)
theorem told_l10 (w : List UInt8) (l : List Ms) (r : Co × List Ms) (hT : ToldWay r.1 r.2) (hK : Z0 w l Yy 1 r.1.id r.1.n r.1.role r.1.binary r.1.tuple.snap.index r.1.tuple.snap.term r.1.tuple.snap.sum r.1.tuple.snap.level r.1.tuple.snap.final r.1.tuple.log r.1.tuple.term r.1.tuple.vote r.1.commit r.1.applied.index r.1.applied.term r.1.applied.sum r.1.applied.level r.1.applied.final r.1.votes r.1.next r.1.mtch r.1.caps = some true) : Xr w l r Yy false 0 = some true := by
 have hn := hT.few
 exact Zaw (fun n j => Xr w l r n false j) r.2 hn
  (fun n j hj => by show Xr w l r (n + 1) false j = _; rw [Xr, decide_eq_false hj, cond_false]; exact hK)
  (fun n k e he => by
   obtain ⟨h1, h2, h3, h4⟩ := hT.all e (List.mem_of_getElem? he)
   have h5 := Zbt e r.1.n h4
   unfold Zdu at h5
   rw [Xj h1] at h5
   have hk := (List.getElem?_eq_some_iff.1 he).1
   show Xr w l r (n + 1) false (k : Int) = _
   rw [Xr]
   simp only [decide_eq_true (show (k : Int) < (r.2.length : Int) by omega), cond_true, Vx, he, Option.bind_some, h5, Bool.not_true, cond_false, h2, h3, ne_eq, not_true, decide_false])
  r.2.length 0 Yy (by omega) (by unfold Yy; omega)
theorem told_l11 (w : List UInt8) (l : List Ms) (r : Co × List Ms) (hT : ToldWay r.1 r.2) (hK : Z0 w l Yy 1 r.1.id r.1.n r.1.role r.1.binary r.1.tuple.snap.index r.1.tuple.snap.term r.1.tuple.snap.sum r.1.tuple.snap.level r.1.tuple.snap.final r.1.tuple.log r.1.tuple.term r.1.tuple.vote r.1.commit r.1.applied.index r.1.applied.term r.1.applied.sum r.1.applied.level r.1.applied.final r.1.votes r.1.next r.1.mtch r.1.caps = some true) : Xs w l r Yy false 0 = some true := by
 have hn := hT.few
 exact Zaw (fun n j => Xs w l r n false j) r.2 hn
  (fun n j hj => by show Xs w l r (n + 1) false j = _; rw [Xs, decide_eq_false hj, cond_false]; exact hK)
  (fun n k e he => by
   obtain ⟨h1, h2, h3, h4⟩ := hT.all e (List.mem_of_getElem? he)
   have h5 := Zbt e r.1.n h4
   unfold Zdu at h5
   rw [Xj h1] at h5
   have hk := (List.getElem?_eq_some_iff.1 he).1
   show Xs w l r (n + 1) false (k : Int) = _
   rw [Xs]
   simp only [decide_eq_true (show (k : Int) < (r.2.length : Int) by omega), cond_true, Vx, he, Option.bind_some, h5, Bool.not_true, cond_false, h2, h3, ne_eq, not_true, decide_false])
  r.2.length 0 Yy (by omega) (by unfold Yy; omega)
theorem told_l12 (w : List UInt8) (l : List Ms) (r : Co × List Ms) (hT : ToldWay r.1 r.2) (hK : Z0 w l Yy 1 r.1.id r.1.n r.1.role r.1.binary r.1.tuple.snap.index r.1.tuple.snap.term r.1.tuple.snap.sum r.1.tuple.snap.level r.1.tuple.snap.final r.1.tuple.log r.1.tuple.term r.1.tuple.vote r.1.commit r.1.applied.index r.1.applied.term r.1.applied.sum r.1.applied.level r.1.applied.final r.1.votes r.1.next r.1.mtch r.1.caps = some true) : Xp w l r Yy false 0 = some true := by
 have hn := hT.few
 exact Zaw (fun n j => Xp w l r n false j) r.2 hn
  (fun n j hj => by show Xp w l r (n + 1) false j = _; rw [Xp, decide_eq_false hj, cond_false]; exact hK)
  (fun n k e he => by
   obtain ⟨h1, h2, h3, h4⟩ := hT.all e (List.mem_of_getElem? he)
   have h5 := Zbt e r.1.n h4
   unfold Zdu at h5
   rw [Xj h1] at h5
   have hk := (List.getElem?_eq_some_iff.1 he).1
   show Xp w l r (n + 1) false (k : Int) = _
   rw [Xp]
   simp only [decide_eq_true (show (k : Int) < (r.2.length : Int) by omega), cond_true, Vx, he, Option.bind_some, h5, Bool.not_true, cond_false, h2, h3, ne_eq, not_true, decide_false])
  r.2.length 0 Yy (by omega) (by unfold Yy; omega)
theorem told_l13 (w : List UInt8) (l : List Ms) (r : Co × List Ms) (hT : ToldWay r.1 r.2) (hK : Z0 w l Yy 1 r.1.id r.1.n r.1.role r.1.binary r.1.tuple.snap.index r.1.tuple.snap.term r.1.tuple.snap.sum r.1.tuple.snap.level r.1.tuple.snap.final r.1.tuple.log r.1.tuple.term r.1.tuple.vote r.1.commit r.1.applied.index r.1.applied.term r.1.applied.sum r.1.applied.level r.1.applied.final r.1.votes r.1.next r.1.mtch r.1.caps = some true) : Xq w l r Yy false 0 = some true := by
 have hn := hT.few
 exact Zaw (fun n j => Xq w l r n false j) r.2 hn
  (fun n j hj => by show Xq w l r (n + 1) false j = _; rw [Xq, decide_eq_false hj, cond_false]; exact hK)
  (fun n k e he => by
   obtain ⟨h1, h2, h3, h4⟩ := hT.all e (List.mem_of_getElem? he)
   have h5 := Zbt e r.1.n h4
   unfold Zdu at h5
   rw [Xj h1] at h5
   have hk := (List.getElem?_eq_some_iff.1 he).1
   show Xq w l r (n + 1) false (k : Int) = _
   rw [Xq]
   simp only [decide_eq_true (show (k : Int) < (r.2.length : Int) by omega), cond_true, Vx, he, Option.bind_some, h5, Bool.not_true, cond_false, h2, h3, ne_eq, not_true, decide_false])
  r.2.length 0 Yy (by omega) (by unfold Yy; omega)
theorem right_l1 (w : List UInt8) (l : List Ms) (hl : l.length ≤ 20) (hkd : ∀ e ∈ l, 0 ≤ e.kind ∧ e.kind ≤ 255) : ∀ (q i n : Nat) (c : Co), RightC c → q + i = l.length → q < n →
  Z0 w l n i c.id c.n c.role c.binary c.tuple.snap.index c.tuple.snap.term c.tuple.snap.sum c.tuple.snap.level c.tuple.snap.final c.tuple.log c.tuple.term c.tuple.vote c.commit c.applied.index c.applied.term c.applied.sum c.applied.level c.applied.final c.votes c.next c.mtch c.caps = some true := by
 intro q
 induction q with
 | zero =>
  intro i n c hc hi hn
  obtain ⟨n, rfl⟩ : ∃ n', n = n' + 1 := ⟨n - 1, by omega⟩
  rw [Z0, decide_eq_false (show ¬ (i : Int) < (l.length : Int) by omega), cond_false, Zd5]
  rfl
 | succ q ih =>
  intro i n c hc hi hn
  obtain ⟨n, rfl⟩ : ∃ n', n = n' + 1 := ⟨n - 1, by omega⟩
  obtain ⟨e, he, _⟩ := Vj (show i < l.length by omega)
  have w1 : IntKind.wrap .i64 ((i : Int) + 1) = ((i + 1 : Nat) : Int) := by rw [Zdj (by omega)]; omega
  have hkk : ∀ o : Co, RightC o → Z0 w l n (IntKind.wrap .i64 ((i : Int) + 1)) o.id o.n o.role o.binary o.tuple.snap.index o.tuple.snap.term o.tuple.snap.sum o.tuple.snap.level o.tuple.snap.final o.tuple.log o.tuple.term o.tuple.vote o.commit o.applied.index o.applied.term o.applied.sum o.applied.level o.applied.final o.votes o.next o.mtch o.caps = some true := fun o ho => by
   rw [w1]; exact ih (i + 1) n o ho (by omega) (by omega)
  rw [Z0, decide_eq_true (show (i : Int) < (l.length : Int) by omega), cond_true, Vx, he, Option.bind_some]
  by_cases c4 : (4 : Int) < (e.entries.length : Int)
  ·rw [decide_eq_true c4, cond_true, Zd5]; rfl
  rw [decide_eq_false c4, cond_false]
  have hm : BdM {e with dst := c.id} := ⟨hkd e (List.mem_of_getElem? he), by show e.entries.length ≤ 1000000; omega⟩
  have rest : ∀ (o : Co) (t : List Ms), StepWay c o → ToldWay o t → BdC o ∧ V7 o = some true ∧ takeI o.tuple.log (c.tuple.log.length : Int) = some c.tuple.log ∧ Va c.tuple.log c.tuple.log = some true := fun o t hs ht => by
   have hb := hs.right.bd
   have h1 := p_Right20 o hb
   unfold Zcp at h1
   rw [Xj hs.right] at h1
   have h2 := takeI_nat o.tuple.log _ hs.len
   rw [hs.pre] at h2
   have h3 := p_Same c.tuple.log c.tuple.log hc.bd.tup.1
   rw [decide_eq_true rfl] at h3
   exact ⟨hb, h1, h2, h3⟩
  by_cases ci : (i : Int) < (w.length : Int)
  ·obtain ⟨b, hb, _⟩ := Vj (show i < w.length by omega)
   obtain ⟨o, t, hst, hs, ht⟩ := p_step c (b.toNat : Int) _ hc hm
   obtain ⟨r1, r2, r3, r4⟩ := rest o t hs ht
   have hmany := ht.many
   have hlen := hs.len
   have hterm := hs.term
   have hvote := hs.vote
   have l2 := told_l2 (Z0 w l n) i (o, t) ht (hkk o hs.right)
   have l3 := told_l3 (Z0 w l n) i (o, t) ht (hkk o hs.right)
   have l4 := told_l4 (Z0 w l n) i (o, t) ht (hkk o hs.right)
   rw [decide_eq_true ci, cond_true, Vx w i, hb]
   simp only [Option.bind_some]
   refine (congrArg (fun z => Option.bind z _) hst).trans ?_
   simp only [Option.bind_some, r2, Bool.not_true, cond_false, Bool.cond_decide, if_neg (show ¬ o.tuple.term < c.tuple.term by omega), if_neg (show ¬ (o.tuple.log.length : Int) < (c.tuple.log.length : Int) by omega), hs.commit, hs.snap, hs.id, hs.n, ne_eq, not_true, if_false, decide_true, Bool.and_true, r3, r4, if_neg (show ¬ c.n < (t.length : Int) by rw [← hs.n]; omega), l2, l3, l4]
   by_cases e1 : o.tuple.term = c.tuple.term
   ·rw [if_pos e1]
    by_cases e2 : 0 < c.tuple.vote
    ·rw [if_pos e2, if_neg (fun h => h (hvote e1 e2))]
    ·rw [if_neg e2]
   ·rw [if_neg e1]
  ·obtain ⟨o, t, hst, hs, ht⟩ := p_step c 0 _ hc hm
   obtain ⟨r1, r2, r3, r4⟩ := rest o t hs ht
   have hmany := ht.many
   have hlen := hs.len
   have hterm := hs.term
   have hvote := hs.vote
   have l5 := told_l5 (Z0 w l n) i (o, t) ht (hkk o hs.right)
   have l6 := told_l6 (Z0 w l n) i (o, t) ht (hkk o hs.right)
   have l7 := told_l7 (Z0 w l n) i (o, t) ht (hkk o hs.right)
   rw [decide_eq_false ci, cond_false]
   simp only [Option.bind_some]
   refine (congrArg (fun z => Option.bind z _) hst).trans ?_
   simp only [Option.bind_some, r2, Bool.not_true, cond_false, Bool.cond_decide, if_neg (show ¬ o.tuple.term < c.tuple.term by omega), if_neg (show ¬ (o.tuple.log.length : Int) < (c.tuple.log.length : Int) by omega), hs.commit, hs.snap, hs.id, hs.n, ne_eq, not_true, if_false, decide_true, Bool.and_true, r3, r4, if_neg (show ¬ c.n < (t.length : Int) by rw [← hs.n]; omega), l5, l6, l7]
   by_cases e1 : o.tuple.term = c.tuple.term
   ·rw [if_pos e1]
    by_cases e2 : 0 < c.tuple.vote
    ·rw [if_pos e2, if_neg (fun h => h (hvote e1 e2))]
    ·rw [if_neg e2]
   ·rw [if_neg e1]
theorem p_ElectRight (c : Co) (w : List UInt8) (l : List Ms) (hkd : ∀ e ∈ l, 0 ≤ e.kind ∧ e.kind ≤ 255) : Zbq c w l = some true := by
 obtain ⟨g, hg⟩ := p_Great_some c
 unfold Zbq
 rw [hg, Option.bind_some]
 cases g with
 | true => rw [cond_true, Zd5]; rfl
 | false =>
 have hbd := (p_Great_no c hg).1
 rw [cond_false, p_Right20 c hbd, Option.bind_some]
 unfold Zcp
 by_cases hc : RightC c
 case neg => rw [Yf hc, Zd5]; rfl
 rw [Xj hc, Bool.not_true, cond_false]
 by_cases c20 : (20 : Int) < (l.length : Int)
 ·rw [decide_eq_true c20, cond_true, Zd5]; rfl
 rw [decide_eq_false c20, cond_false]
 by_cases c0 : (0 : Int) < (l.length : Int)
 case neg => rw [decide_eq_false c0, cond_false, Zd5]; rfl
 obtain ⟨e, he, _⟩ := Vj (show 0 < l.length by omega)
 have hi0 : ∀ {α : Type} (z : List α), idx z 0 = z[0]? := fun z => Vx z 0
 have hkk : ∀ o : Co, RightC o → Z0 w l Yy 1 o.id o.n o.role o.binary o.tuple.snap.index o.tuple.snap.term o.tuple.snap.sum o.tuple.snap.level o.tuple.snap.final o.tuple.log o.tuple.term o.tuple.vote o.commit o.applied.index o.applied.term o.applied.sum o.applied.level o.applied.final o.votes o.next o.mtch o.caps = some true := fun o ho =>
  right_l1 w l (by omega) hkd (l.length - 1) 1 Yy o ho (by omega) (by unfold Yy; omega)
 rw [decide_eq_true c0, cond_true, hi0 l, he, Option.bind_some]
 by_cases c4 : (4 : Int) < (e.entries.length : Int)
 ·rw [decide_eq_true c4, cond_true, Zd5]; rfl
 rw [decide_eq_false c4, cond_false]
 have hm : BdM {e with dst := c.id} := ⟨hkd e (List.mem_of_getElem? he), by show e.entries.length ≤ 1000000; omega⟩
 have rest : ∀ (o : Co) (t : List Ms), StepWay c o → ToldWay o t → BdC o ∧ V7 o = some true ∧ takeI o.tuple.log (c.tuple.log.length : Int) = some c.tuple.log ∧ Va c.tuple.log c.tuple.log = some true := fun o t hs ht => by
  have hb := hs.right.bd
  have h1 := p_Right20 o hb
  unfold Zcp at h1
  rw [Xj hs.right] at h1
  have h2 := takeI_nat o.tuple.log _ hs.len
  rw [hs.pre] at h2
  have h3 := p_Same c.tuple.log c.tuple.log hc.bd.tup.1
  rw [decide_eq_true rfl] at h3
  exact ⟨hb, h1, h2, h3⟩
 by_cases ci : (0 : Int) < (w.length : Int)
 ·obtain ⟨b, hb, _⟩ := Vj (show 0 < w.length by omega)
  obtain ⟨o, t, hst, hs, ht⟩ := p_step c (b.toNat : Int) _ hc hm
  obtain ⟨r1, r2, r3, r4⟩ := rest o t hs ht
  have hmany := ht.many
  have hlen := hs.len
  have hterm := hs.term
  have hvote := hs.vote
  have l8 := told_l8 w l (o, t) ht (hkk o hs.right)
  have l9 := told_l9 w l (o, t) ht (hkk o hs.right)
  have l10 := told_l10 w l (o, t) ht (hkk o hs.right)
  rw [decide_eq_true ci, cond_true, hi0 w, hb]
  simp only [Option.bind_some]
  refine (congrArg (fun z => Option.bind z _) hst).trans ?_
  simp only [Option.bind_some, r2, Bool.not_true, cond_false, Bool.cond_decide, if_neg (show ¬ o.tuple.term < c.tuple.term by omega), if_neg (show ¬ (o.tuple.log.length : Int) < (c.tuple.log.length : Int) by omega), hs.commit, hs.snap, hs.id, hs.n, ne_eq, not_true, if_false, decide_true, Bool.and_true, r3, r4, if_neg (show ¬ c.n < (t.length : Int) by rw [← hs.n]; omega), l8, l9, l10]
  by_cases e1 : o.tuple.term = c.tuple.term
  ·rw [if_pos e1]
   by_cases e2 : 0 < c.tuple.vote
   ·rw [if_pos e2, if_neg (fun h => h (hvote e1 e2))]
   ·rw [if_neg e2]
  ·rw [if_neg e1]
 ·obtain ⟨o, t, hst, hs, ht⟩ := p_step c 0 _ hc hm
  obtain ⟨r1, r2, r3, r4⟩ := rest o t hs ht
  have hmany := ht.many
  have hlen := hs.len
  have hterm := hs.term
  have hvote := hs.vote
  have l11 := told_l11 w l (o, t) ht (hkk o hs.right)
  have l12 := told_l12 w l (o, t) ht (hkk o hs.right)
  have l13 := told_l13 w l (o, t) ht (hkk o hs.right)
  rw [decide_eq_false ci, cond_false]
  simp only [Option.bind_some]
  refine (congrArg (fun z => Option.bind z _) hst).trans ?_
  simp only [Option.bind_some, r2, Bool.not_true, cond_false, Bool.cond_decide, if_neg (show ¬ o.tuple.term < c.tuple.term by omega), if_neg (show ¬ (o.tuple.log.length : Int) < (c.tuple.log.length : Int) by omega), hs.commit, hs.snap, hs.id, hs.n, ne_eq, not_true, if_false, decide_true, Bool.and_true, r3, r4, if_neg (show ¬ c.n < (t.length : Int) by rw [← hs.n]; omega), l11, l12, l13]
  by_cases e1 : o.tuple.term = c.tuple.term
  ·rw [if_pos e1]
   by_cases e2 : 0 < c.tuple.vote
   ·rw [if_pos e2, if_neg (fun h => h (hvote e1 e2))]
   ·rw [if_neg e2]
  ·rw [if_neg e1]
end
section
open Go Go.ChangeShapes Go.WideShapes Go.ChangeAt Go.RowKit
set_option maxRecDepth 100000
theorem bvs_encs (l : List UInt8) : bvs l = Z8 enY l := by
 induction l with
 | nil => rfl
 | cons x l ih => rw [Zdf, ← ih]; rfl
instance : Inhabited Mq := ⟨⟨⟨0, 0, 0, 0, 0, 0, 0, 0, false, [], default⟩, none, 0⟩⟩
section
variable {H : Type} {enc : TypeId × Value → H} {W : World} {base0 : Nat} {sp : Nat → Bool} {held : Bool} {base : Nat}
structure Mq.ok (w : World) (y : Mq) : Prop where
 m : y.m.ok
 sl : SlW w enE y.A y.c y.m.entries
theorem trod_msg {fuel : Nat} {cs : List Value} {x : DataW H × List MemPlace} (h : DataW.trod enc Try.prog W base0 sp held fuel 36 cs = some x) : ∃ y : Mq, y.ok W ∧ cs = enQ y := by
 obtain ⟨A, c, m, e, g, hm⟩ := trod_Ms h
 exact ⟨⟨m, A, c⟩, ⟨hm, ⟨g.1, g.2.1, g.2.2⟩⟩, e⟩
theorem open_msgs {v : Value} {d : DataW H} {p : List MemPlace} (hval : Value.okWide Try.prog W .any base 32 v) (h1 : DataW.Trod enc Try.prog W base0 sp held 32 v d p) :
  ∃ A c, ∃ q : List Mq, ∃ l : List Ms, v = .slice A l.length c ∧ SlI W enQ A c q ∧ q.map Mq.m = l ∧ (∀ y ∈ q, SlW W enE y.A y.c y.m.entries) ∧ ∀ e ∈ l, e.ok := by
 obtain ⟨a1, len, cap, rfl⟩ := okWide_slice Try.underlying32 hval
 have hb := okWide_blk Try.underlying32 hval
 obtain ⟨fuel, hf⟩ := h1
 obtain ⟨A, c, q, h, g1, g2, g3, r⟩ := trod_rows enQ (Mq.ok W) 15 (by omega) (fun _ => rfl) Try.underlying32 (by kernel_rfl) (fun _ _ _ h => trod_msg h) hf
 simp only [Value.cells, List.cons.injEq, and_true] at h
 injection h with e1 e2 e3
 subst e1
 subst e3
 refine ⟨a1, cap, q, q.map Mq.m, by rw [List.length_map, e2], ⟨g1, g2, g3, hb⟩, rfl, fun y hy => (r y hy).sl, fun e he => ?_⟩
 obtain ⟨y, hy, rfl⟩ := List.mem_map.1 he
 exact (r y hy).m
end
end

end Go.Proofs.Ytamjlcaoieliaaa
