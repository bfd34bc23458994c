/- Texts of one claim put together. -/
import Derived.Test.YtenagnncpaabdaaMi2
import Derived.Test.YtenagnncpaabdaaMi5
namespace Go.Proofs.Ytenagnncpaabdaa
open Go Go.RowKit
set_option maxRecDepth 100000
theorem p_number (x : Int) : V5 x = some (numB x) := by
 unfold V5 numB
 by_cases h : 0 ≤ x <;> simp [h]
theorem p_Fine (x : St) : Vx x = some (Zaf x) := by
 obtain ⟨i, t, s, l, f⟩ := x
 simp only [Vx, J8, p_number, Option.bind_some, Zaf, firstS, numB, St.mk.injEq, Bool.cond_not, Bool.cond_decide]
 cases f <;> (repeat' split) <;> simp_all <;> omega
theorem p_Right (x : En) : Zas x = some (V9 x) := by
 obtain ⟨t, k, v⟩ := x
 simp only [Zas, p_number, Option.bind_some, V9, numB, Bool.cond_not, Bool.cond_decide]
 (repeat' split) <;> (refine congrArg some ?_; rw [Bool.eq_iff_iff]; simp only [decide_eq_true_eq, true_iff, Bool.false_eq_true, false_iff]; omega)
theorem p_Right12_l1 (x : Tu) (hl : x.log.length ≤ 1000000) : ∀ (m k n : Nat) (b : Bool) (t : Int), m = x.log.length - k → k ≤ x.log.length → m < n →
  Jf x n b t k = some (Zbn t (x.log.drop k) && decide (Jz t (x.log.drop k) ≤ x.term ∧ 0 ≤ x.term ∧ x.term ≤ 1073741824)) := by
 intro m
 induction m with
 | zero =>
  intro k n b t hm hk hn
  obtain ⟨n, rfl⟩ : ∃ n', n = n' + 1 := ⟨n - 1, by omega⟩
  have hkl : k = x.log.length := by omega
  have hd : x.log.drop k = [] := List.drop_eq_nil_of_le (by omega)
  rw [Jf, hd]
  simp only [Zbn, Bool.cond_decide, if_neg (show ¬ ((k : Int) < (x.log.length : Int)) by omega), Bool.true_and]
  (repeat' split) <;> (refine congrArg some ?_; rw [Bool.eq_iff_iff]; simp only [decide_eq_true_eq, true_iff, Bool.false_eq_true, false_iff]; simp only [Jz]; omega)
 | succ m ih =>
  intro k n b t hm hk hn
  obtain ⟨n, rfl⟩ : ∃ n', n = n' + 1 := ⟨n - 1, by omega⟩
  obtain ⟨e, he, hd⟩ := Xw (show k < x.log.length by omega)
  have hi := ih (k + 1) n b e.term (by omega) (by omega) (by omega)
  rw [Jf, hd]
  simp only [Bool.cond_decide, if_pos (show ((k : Int) < (x.log.length : Int)) by omega), Zan, he, Option.bind_some, p_Right, Bool.cond_not, Zbn, Jz]
  rw [Zbp (by omega), show ((k : Int) + 1) = ((k + 1 : Nat) : Int) by omega, hi]
  cases hr : V9 e with
  | false => rfl
  | true =>
   simp only [cond_true, Bool.true_and]
   by_cases h : e.term < t
   ·rw [if_pos h, decide_eq_false (show ¬ (t ≤ e.term) by omega)]; rfl
   ·rw [if_neg h, decide_eq_true (show t ≤ e.term by omega)]; rfl
theorem p_Right12 (x : Tu) : Zck x = some (Jo x) := by
 have key : Jo x = (Zaf x.snap && decide (x.snap.index ≤ 1073740824 ∧ x.log.length ≤ 200 ∧ 0 ≤ x.vote ∧ x.vote ≤ 5) && (Zbn x.snap.term x.log && decide (Jz x.snap.term x.log ≤ x.term ∧ 0 ≤ x.term ∧ x.term ≤ 1073741824))) := by
  rw [Bool.eq_iff_iff]
  unfold Jo
  simp only [Bool.and_eq_true, decide_eq_true_eq]
  constructor
  ·rintro ⟨⟨⟨h1, h2⟩, h3⟩, h4⟩
   have h5 := lastT_mono _ _ h3
   have h6 : 0 ≤ x.snap.term := by
    rcases (Zak _).1 h1 with h | h
    ·rw [h]; decide
    ·omega
   exact ⟨⟨h1, by omega⟩, h3, by omega⟩
  ·rintro ⟨⟨h1, h2⟩, h3, h4⟩
   exact ⟨⟨⟨h1, by omega⟩, h3⟩, by omega⟩
 rw [key]
 simp only [Zck, p_Fine, Option.bind_some, Bool.cond_not, Bool.cond_decide]
 cases hf : Zaf x.snap with
 | false => rfl
 | true =>
  simp only [cond_true, Bool.true_and]
  by_cases h1 : x.snap.index ≤ 1073740824 ∧ x.log.length ≤ 200 ∧ 0 ≤ x.vote ∧ x.vote ≤ 5
  ·rw [if_neg (by omega), if_neg (by omega), if_neg (by omega), if_neg (by omega), decide_eq_true h1, Bool.true_and]
   have := p_Right12_l1 x (by omega) x.log.length 0 X6 false x.snap.term (by omega) (by omega) (by unfold X6; omega)
   exact this
  ·rw [decide_eq_false h1, Bool.false_and]
   (repeat' split) <;> first | rfl | (exfalso; omega)
theorem p_Same_l1 (a b : List En) (hl : a.length ≤ 1000000) (hab : a.length = b.length) : ∀ (m k n : Nat) (v : Bool), m = a.length - k → k ≤ a.length → m < n → J0 a b n v k = some (decide (a.drop k = b.drop k)) := by
 intro m
 induction m with
 | zero =>
  intro k n v hm hk hn
  obtain ⟨n, rfl⟩ : ∃ n', n = n' + 1 := ⟨n - 1, by omega⟩
  rw [J0, List.drop_eq_nil_of_le (by omega), List.drop_eq_nil_of_le (by omega)]
  simp only [Bool.cond_decide, if_neg (show ¬ ((k : Int) < (a.length : Int)) by omega)]
  rfl
 | succ m ih =>
  intro k n v hm hk hn
  obtain ⟨n, rfl⟩ : ∃ n', n = n' + 1 := ⟨n - 1, by omega⟩
  obtain ⟨e, he, hd⟩ := Xw (show k < a.length by omega)
  obtain ⟨f, hf, hd2⟩ := Xw (show k < b.length by omega)
  rw [J0, hd, hd2]
  simp only [Bool.cond_decide, if_pos (show ((k : Int) < (a.length : Int)) by omega), Zan, he, hf, Option.bind_some, en_eq, Bool.cond_not]
  rw [Zbp (by omega), show ((k : Int) + 1) = ((k + 1 : Nat) : Int) by omega, ih (k + 1) n v (by omega) (by omega) (by omega)]
  by_cases h : e = f
  ·subst h; rw [if_pos rfl]; congr 1; rw [Bool.eq_iff_iff]; simp
  ·rw [if_neg h]; congr 1; rw [Bool.eq_iff_iff]; simp [h]
theorem p_Same (a b : List En) (hl : a.length ≤ 1000000) : Zdu a b = some (decide (a = b)) := by
 unfold Zdu
 by_cases h : a.length = b.length
 ·simp only [Bool.cond_decide, if_neg (show ¬ ((a.length : Int) ≠ (b.length : Int)) by omega)]
  have := p_Same_l1 a b hl h a.length 0 X6 false (by omega) (by omega) (by unfold X6; omega)
  simpa using this
 ·simp only [Bool.cond_decide, if_pos (show ((a.length : Int) ≠ (b.length : Int)) by omega)]
  rw [decide_eq_false (fun h' => h (by rw [h']))]
theorem p_Same12 (x y : Tu) (hl : x.log.length ≤ 1000000) : Zdb x y = some (decide (x = y)) := by
 obtain ⟨s, l, t, v⟩ := x; obtain ⟨s2, l2, t2, v2⟩ := y
 simp only [Zdb, snap_eq, p_Same l l2 hl, Option.bind_some, Bool.cond_decide, Tu.mk.injEq]
 by_cases h1 : s = s2 <;> by_cases h2 : t = t2 <;> by_cases h3 : v = v2 <;> simp [h1, h2, h3]
def bdT (x : Tu) : Prop := x.log.length ≤ 1000000 ∧ -2000000000000 ≤ x.snap.index ∧ x.snap.index ≤ 2000000000000
theorem q_Right (x : Tu) (h : bdT x) : Zcn x = some (Jo x) := by unfold Zcn; rw [okT_iff.2 h]; rfl
theorem q_State_yes (x : Tu) (k : Nat) (h : bdT x) (hk : k ≤ x.log.length) : Jm x (x.snap.index + k) = some (Zca x.snap (x.log.take k), true) := by
 unfold Jm
 rw [okT_iff.2 h, decide_eq_true (by omega)]
 have : (x.snap.index + (k : Int) - x.snap.index).toNat = k := by omega
 rw [this]; rfl
theorem q_State_no (x : Tu) (i : Int) (h : bdT x) (hi : i < x.snap.index ∨ x.snap.index + x.log.length < i) : Jm x i = some (⟨0, 0, 0, 0, false⟩, false) := by
 unfold Jm
 rw [okT_iff.2 h, decide_eq_false (by omega)]; rfl
theorem p_tLast (x : Tu) (h : bdT x) : J5 x = some x.last := by unfold J5 Tu.last; obtain ⟨h1, h2, h3⟩ := h; rw [Zbp (by omega)]
theorem Zft (x : Tu) (h : bdT x) : Jn x = some x.last := p_tLast x h
theorem p_Next (s : St) (e : En) : Zb2 s e = some (Jh s e) := by
 simp only [Zb2, p_Right, p_Fine, Option.bind_some]
 by_cases hc : V9 e = true ∧ Zaf s = true ∧ s.index < 1073741824
 ·obtain ⟨hr, hf, hi⟩ := hc
  have hn : Jh s e = Zb7 e.kind e.value { s with index := s.index + 1, term := e.term } := by unfold Jh; rw [if_pos ⟨hr, hf, hi⟩]
  have hb : 0 ≤ s.index ∧ 0 ≤ s.sum ∧ s.sum ≤ 1073741824 := by
   rcases (Zak s).1 hf with h | h
   ·rw [h]; decide
   ·omega
  have hv : 0 ≤ e.value ∧ e.value ≤ 1073741824 := by
   unfold V9 at hr; simp only [decide_eq_true_eq] at hr; omega
  have w0 : IntKind.wrap .i64 (s.index + 1) = s.index + 1 := Zbp (by omega)
  have w1 : IntKind.wrap .i64 (31 * s.sum) = 31 * s.sum := Zbp (by omega)
  have w2 : IntKind.wrap .i64 (31 * s.sum + e.value) = 31 * s.sum + e.value := Zbp (by omega)
  have w3 : IntKind.wrap .i64 (31 * s.sum + e.value + 1) = 31 * s.sum + e.value + 1 := Zbp (by omega)
  rw [hn, hr, hf, w0, w1, w2, w3, Int.tmod_eq_emod_of_nonneg (by omega), decide_eq_false (show ¬ (1073741824 ≤ s.index) by omega)]
  simp only [Bool.not_true, cond_false, Bool.cond_decide]
  unfold Zb7
  by_cases k1 : e.kind = 1
  ·rw [if_pos k1, if_pos k1]
  ·rw [if_neg k1, if_neg k1]
   by_cases k2 : e.kind = 2
   ·rw [if_pos k2, if_pos k2]
   ·rw [if_neg k2, if_neg k2]
    by_cases k3 : e.kind = 3
    ·rw [if_pos k3, if_pos k3]
     cases hF : s.final <;> rfl
    ·rw [if_neg k3, if_neg k3]
     by_cases k4 : e.kind = 4
     ·rw [if_pos k4, if_pos k4]
     ·rw [if_neg k4, if_neg k4]
 ·have hn : Jh s e = s := by unfold Jh; rw [if_neg hc]
  rw [hn]
  cases hr : V9 e with
  | false => rfl
  | true =>
   cases hf : Zaf s with
   | false => rfl
   | true =>
    rw [decide_eq_true (show 1073741824 ≤ s.index by
     have : ¬ (s.index < 1073741824) := fun h => hc ⟨hr, hf, h⟩
     omega)]
    rfl
theorem p_All_l1 (l : List En) (hl : l.length ≤ 1000000) : ∀ (m k n : Nat) (s : St), m = l.length - k → k ≤ l.length → m < n → Zad l n k s.index s.term s.sum s.level s.final = some (Zca s (l.drop k)) := by
 intro m
 induction m with
 | zero =>
  intro k n s hm hk hn
  obtain ⟨n, rfl⟩ : ∃ n', n = n' + 1 := ⟨n - 1, by omega⟩
  rw [Zad, List.drop_eq_nil_of_le (by omega)]
  simp only [Bool.cond_decide, if_neg (show ¬ ((k : Int) < (l.length : Int)) by omega)]
  rfl
 | succ m ih =>
  intro k n s hm hk hn
  obtain ⟨n, rfl⟩ : ∃ n', n = n' + 1 := ⟨n - 1, by omega⟩
  obtain ⟨e, he, hd⟩ := Xw (show k < l.length by omega)
  rw [Zad, hd]
  simp only [Bool.cond_decide, if_pos (show ((k : Int) < (l.length : Int)) by omega), Zan, he, Option.bind_some]
  have : Zb2 ⟨s.index, s.term, s.sum, s.level, s.final⟩ e = some (Jh s e) := p_Next s e
  rw [this, Option.bind_some, Zbp (by omega), show ((k : Int) + 1) = ((k + 1 : Nat) : Int) by omega, ih (k + 1) n (Jh s e) (by omega) (by omega) (by omega)]
  rfl
theorem p_All (s : St) (l : List En) (hl : l.length ≤ 1000000) : Zfa s l = some (Zca s l) := p_All_l1 l hl l.length 0 X6 s (by omega) (by omega) (by unfold X6; omega)
theorem p_State12 (x : Tu) (i : Int) (h : bdT x) : Zbg x i = Jm x i := by
 have h1 := h.1
 have h2 := h.2
 unfold Zbg
 rw [Zft x h]
 simp only [Option.bind_some, Bool.cond_decide, Tu.last]
 by_cases h3 : i < x.snap.index
 ·rw [if_pos h3, q_State_no x i h (.inl h3)]
 ·rw [if_neg h3]
  by_cases h4 : x.snap.index + (x.log.length : Int) < i
  ·rw [if_pos h4, q_State_no x i h (.inr h4)]
  ·rw [if_neg h4]
   obtain ⟨k, hk⟩ : ∃ k : Nat, i = x.snap.index + (k : Int) := ⟨(i - x.snap.index).toNat, by omega⟩
   have w1 : IntKind.wrap .i64 (i - x.snap.index) = (k : Int) := by rw [Zbp (by omega)]; omega
   rw [w1, takeI_nat _ _ (by omega), Option.bind_some, p_All _ _ (by rw [List.length_take]; omega), hk, q_State_yes x k h (by omega)]
   rfl
end Go.Proofs.Ytenagnncpaabdaa
namespace Go.Proofs.Ytenagnncpaabdaa
open Go Go.RowKit
set_option maxRecDepth 100000
noncomputable def Zfn (p : Prop) : Bool := @decide p (Classical.propDecidable p)
theorem Xn {p : Prop} (h : p) : Zfn p = true := @decide_eq_true p (Classical.propDecidable p) h
theorem Yc {p : Prop} (h : ¬ p) : Zfn p = false := @decide_eq_false p (Classical.propDecidable p) h
theorem Vj {p q : Prop} (h : p ↔ q) : Zfn p = Zfn q := by rw [propext h]
theorem Zdq {p : Prop} [Decidable p] : decide p = Zfn p := by
 by_cases h : p
 ·rw [Xn h, decide_eq_true h]
 ·rw [Yc h, decide_eq_false h]
def InB (l : List Int) (lo hi : Int) : Prop := ∀ x ∈ l, lo ≤ x ∧ x ≤ hi
theorem Zeh {lo hi : Int} : InB [] lo hi := fun _ h => by cases h
theorem InB_cons {x : Int} {l : List Int} {lo hi : Int} : InB (x :: l) lo hi ↔ (lo ≤ x ∧ x ≤ hi) ∧ InB l lo hi := by
 unfold InB
 constructor
 ·intro h; exact ⟨h x (by simp), fun y hy => h y (by simp [hy])⟩
 ·rintro ⟨h1, h2⟩ y hy
  rcases List.mem_cons.1 hy with rfl | hy
  ·exact h1
  ·exact h2 y hy
theorem InB.get {l : List Int} {lo hi : Int} (h : InB l lo hi) {i : Nat} {x : Int} (hx : l[i]? = some x) : lo ≤ x ∧ x ≤ hi := h x (List.mem_of_getElem? hx)
theorem InB.set {l : List Int} {lo hi : Int} (h : InB l lo hi) {i : Nat} {x : Int} (hx : lo ≤ x ∧ x ≤ hi) : InB (l.set i x) lo hi := fun y hy => by
 rcases List.mem_or_eq_of_mem_set hy with h1 | rfl
 ·exact h y h1
 ·exact hx
theorem p_within (x lo hi : Int) : Vk x lo hi = some (Zfn (lo ≤ x ∧ x ≤ hi)) := by
 unfold Vk
 rw [Bool.cond_decide]
 by_cases h : lo ≤ x
 ·rw [if_pos h, Zdq]; congr 1; exact Vj ⟨fun h2 => ⟨h, h2⟩, fun h2 => h2.2⟩
 ·rw [if_neg h, Yc (fun h2 => h h2.1)]
theorem p_each_l1 (l : List Int) (lo hi : Int) (hl : l.length ≤ 1000000) : ∀ (m k n : Nat) (v : Int), m = l.length - k → k ≤ l.length → m < n → Zar l lo hi n v k = some (Zfn (InB (l.drop k) lo hi)) := by
 intro m
 induction m with
 | zero =>
  intro k n v hm hk hn
  obtain ⟨n, rfl⟩ : ∃ n', n = n' + 1 := ⟨n - 1, by omega⟩
  rw [Zar, List.drop_eq_nil_of_le (by omega), Xn Zeh]
  simp only [Bool.cond_decide, if_neg (show ¬ ((k : Int) < (l.length : Int)) by omega)]
  rfl
 | succ m ih =>
  intro k n v hm hk hn
  obtain ⟨n, rfl⟩ : ∃ n', n = n' + 1 := ⟨n - 1, by omega⟩
  obtain ⟨e, he, hd⟩ := Xw (show k < l.length by omega)
  rw [Zar, hd]
  simp only [Bool.cond_decide, if_pos (show ((k : Int) < (l.length : Int)) by omega), Zan, he, Option.bind_some, p_within]
  rw [Zbp (by omega), show ((k : Int) + 1) = ((k + 1 : Nat) : Int) by omega, ih (k + 1) n v (by omega) (by omega) (by omega)]
  by_cases h : lo ≤ e ∧ e ≤ hi
  ·rw [Xn h]; show some _ = _; congr 1; exact Vj ⟨fun h2 => InB_cons.2 ⟨h, h2⟩, fun h2 => (InB_cons.1 h2).2⟩
  ·rw [Yc h, Yc (fun h2 => h (InB_cons.1 h2).1), decide_eq_true (show (0 : Int) ≤ (k : Int) by omega)]; rfl
theorem p_each (l : List Int) (n lo hi : Int) (hl : l.length ≤ 1000000) : Za5 l n lo hi = some (Zfn ((l.length : Int) = n ∧ InB l lo hi)) := by
 unfold Za5
 rw [Bool.cond_decide]
 by_cases h : (l.length : Int) = n
 ·rw [if_pos h]
  have := p_each_l1 l lo hi hl l.length 0 X6 0 (by omega) (by omega) (by unfold X6; omega)
  rw [show ((0 : Nat) : Int) = 0 from rfl] at this
  rw [this, List.drop_zero]
  congr 1; exact Vj ⟨fun h2 => ⟨h, h2⟩, fun h2 => h2.2⟩
 ·rw [if_neg h, Yc (fun h2 => h h2.1)]
theorem p_eRight (e : En) : Zfi e = some (V9 e) := rfl
def stOf (t : Tu) (i : Int) : Option St := if t.snap.index ≤ i ∧ i ≤ t.last then some (Zca t.snap (t.log.take (i - t.snap.index).toNat)) else none
theorem q_State (x : Tu) (i : Int) (h : bdT x) : Jm x i = some ((stOf x i).getD ⟨0, 0, 0, 0, false⟩, (stOf x i).isSome) := by
 unfold stOf Tu.last
 by_cases hi : x.snap.index ≤ i ∧ i ≤ x.snap.index + x.log.length
 ·rw [if_pos hi]
  obtain ⟨k, hk⟩ : ∃ k : Nat, i = x.snap.index + (k : Int) := ⟨(i - x.snap.index).toNat, by omega⟩
  rw [hk, q_State_yes x k h (by omega), show (x.snap.index + (k : Int) - x.snap.index).toNat = k by omega]
  rfl
 ·rw [if_neg hi, q_State_no x i h (by omega)]; rfl
structure RightC (x : Co) : Prop where
 n : 1 ≤ x.n ∧ x.n ≤ 5
 id : 1 ≤ x.id ∧ x.id ≤ x.n
 role : x.role ≤ 2
 bin : 1 ≤ x.binary ∧ x.binary ≤ 2
 tup : Jo x.tuple = true
 st : stOf x.tuple x.commit = some x.applied
 lv : (x.votes.length : Int) = x.n
 ln : (x.next.length : Int) = x.n
 lm : (x.mtch.length : Int) = x.n
 lc : (x.caps.length : Int) = x.n
 next : InB x.next 1 (x.tuple.last + 1)
 mtch : InB x.mtch 0 x.tuple.last
 caps : InB x.caps 0 2
 own : x.caps[(x.id - 1).toNat]? = some x.binary
 lead : x.role = 0 ∨ (0 < x.tuple.term ∧ x.tuple.vote = x.id)
noncomputable def Zbt (x : Co) : Bool := Zfn (RightC x)
structure BdC (x : Co) : Prop where
 tup : bdT x.tuple
 lv : x.votes.length ≤ 1000000
 ln : x.next.length ≤ 1000000
 lm : x.mtch.length ≤ 1000000
 lc : x.caps.length ≤ 1000000
theorem own_get (x : Co) (h1 : 1 ≤ x.n ∧ x.n ≤ 5) (h2 : 1 ≤ x.id ∧ x.id ≤ x.n) (h3 : (x.caps.length : Int) = x.n) : ∃ e, idx x.caps (IntKind.wrap .i64 (x.id - 1)) = some e ∧ x.caps[(x.id - 1).toNat]? = some e := by
 have hw : IntKind.wrap .i64 (x.id - 1) = (((x.id - 1).toNat : Nat) : Int) := by rw [Zbp (by omega)]; omega
 obtain ⟨e, he, _⟩ := Xw (show (x.id - 1).toNat < x.caps.length by omega)
 exact ⟨e, by rw [hw, Zan, he], he⟩
theorem last_bd {t : Tu} (h : bdT t) : -3000000000000 ≤ t.last ∧ t.last ≤ 3000000000000 := by
 obtain ⟨h1, h2, h3⟩ := h
 unfold Tu.last; omega
theorem Zdf (x : Co) (h : BdC x) : Zab x = some (Zbt x) := by
 have hlb := last_bd h.tup
 have hw : IntKind.wrap .i64 (x.tuple.last + 1) = x.tuple.last + 1 := Zbp (by omega)
 simp only [Zab, p_tLast x.tuple h.tup, p_within, q_Right x.tuple h.tup, q_State x.tuple x.commit h.tup, p_each x.next _ _ _ h.ln, p_each x.mtch _ _ _ h.lm, p_each x.caps _ _ _ h.lc, Option.bind_some, hw, snap_eq]
 unfold Zbt
 by_cases c1 : 1 ≤ x.n ∧ x.n ≤ 5
 case neg => rw [Yc c1, Yc (p := RightC x) fun h => c1 h.n]; rfl
 by_cases c2 : 1 ≤ x.id ∧ x.id ≤ x.n
 case neg => rw [Xn c1, Yc c2, Yc (p := RightC x) fun h => c2 h.id]; rfl
 by_cases c3 : x.role ≤ 2
 case neg => rw [Xn c1, Xn c2, decide_eq_false c3, Yc (p := RightC x) fun h => c3 h.role]; rfl
 by_cases c4 : 1 ≤ x.binary ∧ x.binary ≤ 2
 case neg => rw [Xn c1, Xn c2, decide_eq_true c3, Yc c4, Yc (p := RightC x) fun h => c4 h.bin]; rfl
 rw [Xn c1, Xn c2, decide_eq_true c3, Xn c4]
 simp only [cond_true, Bool.not_true, cond_false]
 cases c5 : Jo x.tuple
 case false => rw [Yc (p := RightC x) fun h => by have h2 := h.tup; rw [c5] at h2; cases h2]; rfl
 simp only [cond_true, Bool.not_true, cond_false]
 cases c6 : stOf x.tuple x.commit with
 | none => rw [Yc (p := RightC x) fun h => by rw [h.st] at c6; cases c6]; rfl
 | some s =>
  simp only [Option.isSome_some, Option.getD_some, cond_true]
  by_cases c7 : s = x.applied
  case neg => rw [decide_eq_false c7, Yc (p := RightC x) fun h => c7 (by have := h.st; rw [c6] at this; exact Option.some.inj this)]; rfl
  rw [decide_eq_true c7]
  simp only [cond_true, Bool.not_true, cond_false]
  by_cases c8 : (x.votes.length : Int) = x.n
  case neg => rw [decide_eq_false c8, Yc (p := RightC x) fun h => c8 h.lv]; rfl
  by_cases c9 : (x.next.length : Int) = x.n ∧ InB x.next 1 (x.tuple.last + 1)
  case neg => rw [decide_eq_true c8, Yc c9, Yc (p := RightC x) fun h => c9 ⟨h.ln, h.next⟩]; rfl
  by_cases c10 : (x.mtch.length : Int) = x.n ∧ InB x.mtch 0 x.tuple.last
  case neg => rw [decide_eq_true c8, Xn c9, Yc c10, Yc (p := RightC x) fun h => c10 ⟨h.lm, h.mtch⟩]; rfl
  by_cases c11 : (x.caps.length : Int) = x.n ∧ InB x.caps 0 2
  case neg => rw [decide_eq_true c8, Xn c9, Xn c10, Yc c11, Yc (p := RightC x) fun h => c11 ⟨h.lc, h.caps⟩]; rfl
  rw [decide_eq_true c8, Xn c9, Xn c10, Xn c11]
  obtain ⟨e, he, he2⟩ := own_get x c1 c2 c11.1
  simp only [cond_true, Bool.not_true, cond_false, Option.bind_some, he]
  by_cases c12 : e = x.binary
  case neg => rw [decide_eq_false c12, Yc (p := RightC x) fun h => c12 (by have := h.own; rw [he2] at this; exact Option.some.inj this)]; rfl
  rw [decide_eq_true c12]
  simp only [cond_true, Bool.not_true, cond_false, Bool.cond_decide]
  subst c12
  subst c7
  by_cases c13 : x.role = 0
  ·rw [if_pos c13, Xn (p := RightC x) ⟨c1, c2, c3, c4, c5, c6, c8, c9.1, c10.1, c11.1, c9.2, c10.2, c11.2, he2, .inl c13⟩]
  ·rw [if_neg c13]
   by_cases c14 : 0 < x.tuple.term
   ·rw [if_pos c14]
    by_cases c15 : x.tuple.vote = x.id
    ·rw [decide_eq_true c15, Xn (p := RightC x) ⟨c1, c2, c3, c4, c5, c6, c8, c9.1, c10.1, c11.1, c9.2, c10.2, c11.2, he2, .inr ⟨c14, c15⟩⟩]; rfl
    ·rw [decide_eq_false c15, Yc (p := RightC x) fun h => by rcases h.lead with h | h; exact c13 h; exact c15 h.2]; rfl
   ·rw [if_neg c14, Yc (p := RightC x) fun h => by rcases h.lead with h | h; exact c13 h; exact c14 h.1]
theorem p_mOwn (x : Co) (h : BdC x) : Zbh x = some x := by
 have h1 := h.tup.1
 have h2 := h.lv
 have h3 := h.ln
 have h4 := h.lm
 have h5 := h.lc
 simp only [Zbh, Ze5, X0, V2, Vb, Option.bind_some, Ze3 _ (show x.tuple.log.length ≤ 1000000000 by omega), Ze3 _ (show x.votes.length ≤ 1000000000 by omega), Ze3 _ (show x.next.length ≤ 1000000000 by omega), Ze3 _ (show x.mtch.length ≤ 1000000000 by omega), Ze3 _ (show x.caps.length ≤ 1000000000 by omega)]
theorem p_ints_l1 (a b : List Int) (hl : a.length ≤ 1000000) (hab : a.length = b.length) : ∀ (m k n : Nat) (v : Bool), m = a.length - k → k ≤ a.length → m < n → J1 a b n v k = some (decide (a.drop k = b.drop k)) := by
 intro m
 induction m with
 | zero =>
  intro k n v hm hk hn
  obtain ⟨n, rfl⟩ : ∃ n', n = n' + 1 := ⟨n - 1, by omega⟩
  rw [J1, List.drop_eq_nil_of_le (by omega), List.drop_eq_nil_of_le (by omega)]
  simp only [Bool.cond_decide, if_neg (show ¬ ((k : Int) < (a.length : Int)) by omega)]
  rfl
 | succ m ih =>
  intro k n v hm hk hn
  obtain ⟨n, rfl⟩ : ∃ n', n = n' + 1 := ⟨n - 1, by omega⟩
  obtain ⟨e, he, hd⟩ := Xw (show k < a.length by omega)
  obtain ⟨f, hf, hd2⟩ := Xw (show k < b.length by omega)
  rw [J1, hd, hd2]
  simp only [Bool.cond_decide, if_pos (show ((k : Int) < (a.length : Int)) by omega), Zan, he, hf, Option.bind_some]
  rw [Zbp (by omega), show ((k : Int) + 1) = ((k + 1 : Nat) : Int) by omega, ih (k + 1) n v (by omega) (by omega) (by omega)]
  by_cases h : e = f
  ·subst h; rw [if_neg (fun h => h rfl)]; congr 1; rw [Bool.eq_iff_iff]; simp
  ·rw [if_pos h]; congr 1; rw [Bool.eq_iff_iff]; simp [h]
theorem p_ints (a b : List Int) (hl : a.length ≤ 1000000) : Za9 a b = some (decide (a = b)) := by
 unfold Za9
 by_cases h : a.length = b.length
 ·simp only [Bool.cond_decide, if_neg (show ¬ ((a.length : Int) ≠ (b.length : Int)) by omega)]
  have := p_ints_l1 a b hl h a.length 0 X6 false (by omega) (by omega) (by unfold X6; omega)
  simpa using this
 ·simp only [Bool.cond_decide, if_pos (show ((a.length : Int) ≠ (b.length : Int)) by omega)]
  rw [decide_eq_false (fun h' => h (by rw [h']))]
theorem p_Same20_l1 (x y : Co) (h : BdC x) (hab : x.votes.length = y.votes.length) : ∀ (m k n : Nat) (v : Bool), m = x.votes.length - k → k ≤ x.votes.length → m < n → J2 x y n v k = some (decide (x.votes.drop k = y.votes.drop k ∧ x.next = y.next ∧ x.mtch = y.mtch ∧ x.caps = y.caps)) := by
 have hv := h.lv
 intro m
 induction m with
 | zero =>
  intro k n v hm hk hn
  obtain ⟨n, rfl⟩ : ∃ n', n = n' + 1 := ⟨n - 1, by omega⟩
  rw [J2, List.drop_eq_nil_of_le (by omega), List.drop_eq_nil_of_le (by omega)]
  simp only [Bool.cond_decide, if_neg (show ¬ ((k : Int) < (x.votes.length : Int)) by omega), p_ints _ _ h.ln, p_ints _ _ h.lm, p_ints _ _ h.lc, Option.bind_some]
  (repeat' split) <;> (congr 1; rw [Bool.eq_iff_iff]; simp_all)
 | succ m ih =>
  intro k n v hm hk hn
  obtain ⟨n, rfl⟩ : ∃ n', n = n' + 1 := ⟨n - 1, by omega⟩
  obtain ⟨e, he, hd⟩ := Xw (show k < x.votes.length by omega)
  obtain ⟨f, hf, hd2⟩ := Xw (show k < y.votes.length by omega)
  rw [J2, hd, hd2]
  simp only [Bool.cond_decide, if_pos (show ((k : Int) < (x.votes.length : Int)) by omega), Zan, he, hf, Option.bind_some]
  rw [Zbp (by omega), show ((k : Int) + 1) = ((k + 1 : Nat) : Int) by omega, ih (k + 1) n v (by omega) (by omega) (by omega)]
  by_cases h : e = f
  ·subst h; rw [if_neg (fun h => h rfl)]; congr 1; rw [Bool.eq_iff_iff]; simp
  ·rw [if_pos h]; congr 1; rw [Bool.eq_iff_iff]; simp [h]
theorem p_Same20 (x y : Co) (h : BdC x) : Vm x y = some (decide (x = y)) := by
 have hv := h.lv
 obtain ⟨a1, a2, a3, a4, a5, a6, a7, a8, a9, a10, a11⟩ := x
 obtain ⟨b1, b2, b3, b4, b5, b6, b7, b8, b9, b10, b11⟩ := y
 simp only [Vm, p_Same12 a5 b5 h.tup.1, snap_eq, Option.bind_some, Bool.cond_decide, Co.mk.injEq, Bool.cond_not]
 by_cases c1 : a1 = b1
 case neg => simp [c1]
 by_cases c2 : a2 = b2
 case neg => simp [c2]
 by_cases c3 : a3 = b3
 case neg => simp [c3]
 by_cases c4 : a4 = b4
 case neg => simp [c4]
 by_cases c5 : a5 = b5
 case neg => simp [c5]
 by_cases c6 : a6 = b6
 case neg => simp [c6]
 by_cases c7 : a7 = b7
 case neg => simp [c7]
 by_cases c8 : a8.length = b8.length
 case neg =>
  have : a8 ≠ b8 := fun h => c8 (by rw [h])
  simp [c8, this]
  intros; omega
 have := p_Same20_l1 ⟨a1, a2, a3, a4, a5, a6, a7, a8, a9, a10, a11⟩ ⟨b1, b2, b3, b4, b5, b6, b7, b8, b9, b10, b11⟩ h c8 a8.length 0 X6 false (by simp) (by omega) (by dsimp only at hv; unfold X6; omega)
 dsimp only at this
 rw [show ((0 : Nat) : Int) = 0 from rfl] at this
 rw [this]
 subst c1; subst c2; subst c3; subst c4; subst c5; subst c6; subst c7
 simp [c8]
theorem p_Great_no (x : Co) (h : Jj x = some false) : BdC x ∧ x.votes.length ≤ 9 ∧ x.next.length ≤ 9 ∧ x.mtch.length ≤ 9 ∧ x.caps.length ≤ 9 ∧ x.tuple.log.length ≤ 250 := by
 unfold Jj Zcm at h
 simp only [Option.bind_some, Bool.cond_decide] at h
 repeat' split at h
 all_goals first | (cases h; done) | skip
 simp only [Option.some.injEq, decide_eq_false_iff_not] at h
 refine ⟨⟨⟨by omega, by omega, by omega⟩, by omega, by omega, by omega, by omega⟩, by omega, by omega, by omega, by omega, by omega⟩
theorem p_Great_some (x : Co) : ∃ b, Jj x = some b := by
 unfold Jj Zcm
 simp only [Option.bind_some, Bool.cond_decide]
 repeat' split
 all_goals exact ⟨_, rfl⟩
theorem RightC.bd {x : Co} (h : RightC x) : BdC x := by
 have h1 := Zdg _ h.tup
 have := h.n
 have := h.lv
 have := h.ln
 have := h.lm
 have := h.lc
 exact ⟨⟨by omega, h1.1, by omega⟩, by omega, by omega, by omega, by omega⟩
theorem p_State12' (x : Tu) (i : Int) (h : bdT x) : Zbg x i = some ((stOf x i).getD ⟨0, 0, 0, 0, false⟩, (stOf x i).isSome) := by rw [p_State12 x i h, q_State x i h]
theorem p_Right20_l1 (x : Co) (hn : 1 ≤ x.n ∧ x.n ≤ 5) (hi : 1 ≤ x.id ∧ x.id ≤ x.n) (h2 : (x.next.length : Int) = x.n) (h3 : (x.mtch.length : Int) = x.n) (h4 : (x.caps.length : Int) = x.n) (hb : bdT x.tuple) : ∀ (m k n : Nat) (b : Bool), m = x.caps.length - k → k ≤ x.caps.length → m < n →
  Jd x x.tuple.last n b k = some (Zfn (InB (x.next.drop k) 1 (x.tuple.last + 1) ∧ InB (x.mtch.drop k) 0 x.tuple.last ∧ InB (x.caps.drop k) 0 2 ∧ x.caps[(x.id - 1).toNat]? = some x.binary ∧ (x.role = 0 ∨ (0 < x.tuple.term ∧ x.tuple.vote = x.id)))) := by
 have hlb := last_bd hb
 have hw : IntKind.wrap .i64 (x.tuple.last + 1) = x.tuple.last + 1 := Zbp (by omega)
 obtain ⟨e0, he0, he1⟩ := own_get x hn hi h4
 intro m
 induction m with
 | zero =>
  intro k n b hm hk hn'
  obtain ⟨n, rfl⟩ : ∃ n', n = n' + 1 := ⟨n - 1, by omega⟩
  rw [Jd, List.drop_eq_nil_of_le (by omega), List.drop_eq_nil_of_le (by omega), List.drop_eq_nil_of_le (by omega)]
  simp only [Bool.cond_decide, if_neg (show ¬ ((k : Int) < x.n) by omega), he0, he1, Option.bind_some, Option.some.injEq]
  by_cases c1 : x.role = 0
  ·rw [if_neg (fun h => h c1), Zdq]; congr 1; exact Vj ⟨fun h => ⟨Zeh, Zeh, Zeh, h, .inl c1⟩, fun h => h.2.2.2.1⟩
  ·rw [if_pos c1]
   by_cases c2 : x.tuple.term < 1
   ·rw [if_pos c2, Yc]; rintro ⟨_, _, _, _, h | h⟩; exact c1 h; omega
   ·rw [if_neg c2]
    by_cases c3 : x.tuple.vote = x.id
    ·rw [if_neg (fun h => h c3), Zdq]; congr 1; exact Vj ⟨fun h => ⟨Zeh, Zeh, Zeh, h, .inr ⟨by omega, c3⟩⟩, fun h => h.2.2.2.1⟩
    ·rw [if_pos c3, Yc]; rintro ⟨_, _, _, _, h | h⟩; exact c1 h; exact c3 h.2
 | succ m ih =>
  intro k n b hm hk hn'
  obtain ⟨n, rfl⟩ : ∃ n', n = n' + 1 := ⟨n - 1, by omega⟩
  obtain ⟨e, he, hd⟩ := Xw (show k < x.next.length by omega)
  obtain ⟨f, hf, hd2⟩ := Xw (show k < x.mtch.length by omega)
  obtain ⟨g, hg, hd3⟩ := Xw (show k < x.caps.length by omega)
  rw [Jd, hd, hd2, hd3]
  simp only [Bool.cond_decide, if_pos (show ((k : Int) < x.n) by omega), Zan, he, hf, hg, Option.bind_some, hw]
  rw [Zbp (n := (k : Int) + 1) (by omega), show ((k : Int) + 1) = ((k + 1 : Nat) : Int) by omega, ih (k + 1) n b (by omega) (by omega) (by omega)]
  by_cases c1 : e < 1
  ·rw [if_pos c1, Yc]; rintro ⟨h, _⟩; have := (InB_cons.1 h).1; omega
  rw [if_neg c1]
  by_cases c2 : x.tuple.last + 1 < e
  ·rw [if_pos c2, Yc]; rintro ⟨h, _⟩; have := (InB_cons.1 h).1; omega
  rw [if_neg c2]
  by_cases c3 : f < 0
  ·rw [if_pos c3, Yc]; rintro ⟨_, h, _⟩; have := (InB_cons.1 h).1; omega
  rw [if_neg c3]
  by_cases c4 : x.tuple.last < f
  ·rw [if_pos c4, Yc]; rintro ⟨_, h, _⟩; have := (InB_cons.1 h).1; omega
  rw [if_neg c4]
  by_cases c5 : g < 0
  ·rw [if_pos c5, Yc]; rintro ⟨_, _, h, _⟩; have := (InB_cons.1 h).1; omega
  rw [if_neg c5]
  by_cases c6 : 2 < g
  ·rw [if_pos c6, Yc]; rintro ⟨_, _, h, _⟩; have := (InB_cons.1 h).1; omega
  rw [if_neg c6]
  congr 1
  exact Vj ⟨fun h => ⟨InB_cons.2 ⟨by omega, h.1⟩, InB_cons.2 ⟨by omega, h.2.1⟩, InB_cons.2 ⟨by omega, h.2.2.1⟩, h.2.2.2⟩, fun h => ⟨(InB_cons.1 h.1).2, (InB_cons.1 h.2.1).2, (InB_cons.1 h.2.2.1).2, h.2.2.2⟩⟩
theorem p_Right20 (x : Co) (h : BdC x) : J7 x = some (Zbt x) := by
 simp only [J7, p_Right12, p_State12' x.tuple x.commit h.tup, Zft x.tuple h.tup, Option.bind_some, snap_eq, Bool.cond_decide]
 unfold Zbt
 by_cases c1 : x.n < 1
 ·rw [if_pos c1, Yc (p := RightC x) fun h => by have := h.n; omega]
 rw [if_neg c1]
 by_cases c2 : 5 < x.n
 ·rw [if_pos c2, Yc (p := RightC x) fun h => by have := h.n; omega]
 rw [if_neg c2]
 by_cases c3 : x.id < 1
 ·rw [if_pos c3, Yc (p := RightC x) fun h => by have := h.id; omega]
 rw [if_neg c3]
 by_cases c4 : x.n < x.id
 ·rw [if_pos c4, Yc (p := RightC x) fun h => by have := h.id; omega]
 rw [if_neg c4]
 by_cases c5 : 2 < x.role
 ·rw [if_pos c5, Yc (p := RightC x) fun h => by have := h.role; omega]
 rw [if_neg c5]
 by_cases c6 : x.binary < 1
 ·rw [if_pos c6, Yc (p := RightC x) fun h => by have := h.bin; omega]
 rw [if_neg c6]
 by_cases c7 : 2 < x.binary
 ·rw [if_pos c7, Yc (p := RightC x) fun h => by have := h.bin; omega]
 rw [if_neg c7]
 cases c8 : Jo x.tuple with
 | false => rw [Yc (p := RightC x) fun h => by have h2 := h.tup; rw [c8] at h2; cases h2]; rfl
 | true =>
  simp only [Bool.not_true, cond_false]
  cases c9 : stOf x.tuple x.commit with
  | none => rw [Yc (p := RightC x) fun h => by rw [h.st] at c9; cases c9]; rfl
  | some s =>
   simp only [Option.isSome_some, Option.getD_some, Bool.not_true, cond_false]
   by_cases d1 : s = x.applied
   case neg => rw [decide_eq_false d1, Yc (p := RightC x) fun h => d1 (by have := h.st; rw [c9] at this; exact Option.some.inj this)]; rfl
   rw [decide_eq_true d1]
   simp only [Bool.not_true, cond_false]
   by_cases d2 : (x.votes.length : Int) = x.n
   case neg => rw [if_pos d2, Yc (p := RightC x) fun h => d2 h.lv]
   rw [if_neg (fun h => h d2)]
   by_cases d3 : (x.next.length : Int) = x.n
   case neg => rw [if_pos d3, Yc (p := RightC x) fun h => d3 h.ln]
   rw [if_neg (fun h => h d3)]
   by_cases d4 : (x.mtch.length : Int) = x.n
   case neg => rw [if_pos d4, Yc (p := RightC x) fun h => d4 h.lm]
   rw [if_neg (fun h => h d4)]
   by_cases d5 : (x.caps.length : Int) = x.n
   case neg => rw [if_pos d5, Yc (p := RightC x) fun h => d5 h.lc]
   rw [if_neg (fun h => h d5)]
   have := p_Right20_l1 x (by omega) (by omega) d3 d4 d5 h.tup x.caps.length 0 X6 false (by omega) (by omega) (by have := h.lc; unfold X6; omega)
   rw [show ((0 : Nat) : Int) = 0 from rfl] at this
   rw [this]
   simp only [List.drop_zero]
   congr 1
   subst d1
   exact Vj ⟨fun h => ⟨by omega, by omega, by omega, by omega, c8, c9, d2, d3, d4, d5, h.1, h.2.1, h.2.2.1, h.2.2.2.1, h.2.2.2.2⟩, fun h => ⟨h.next, h.mtch, h.caps, h.own, h.lead⟩⟩
end Go.Proofs.Ytenagnncpaabdaa
namespace Go.Proofs.Ytenagnncpaabdaa
open Go Go.RowKit
set_option maxRecDepth 100000
theorem p_eNumber (x : Int) : X2 x = some (numB x) := by
 unfold X2 numB
 by_cases h : 0 ≤ x <;> simp [h]
theorem p_eFine (x : St) : Jl x = some (Zaf x) := by
 obtain ⟨i, t, s, l, f⟩ := x
 simp only [Jl, Zd7, p_eNumber, Option.bind_some, Zaf, firstS, numB, St.mk.injEq, Bool.cond_not, Bool.cond_decide]
 cases f <;> (repeat' split) <;> simp_all <;> omega
def entB (last term : Int) : List En → Prop
 | [] => True
 | e :: l => V9 e = true ∧ (last ≤ e.term ∧ e.term ≤ term) ∧ entB e.term term l
structure FineM (m : Ms) (n : Int) : Prop where
 many : 1 ≤ n ∧ n ≤ 5
 frm : 1 ≤ m.frm ∧ m.frm ≤ n
 dst : 1 ≤ m.dst ∧ m.dst ≤ n
 ne : m.frm ≠ m.dst
 kind : 1 ≤ m.kind ∧ m.kind ≤ 5
 term : 1 ≤ m.term ∧ m.term ≤ 1073741824
 cap : 1 ≤ m.cap ∧ m.cap ≤ 2
 last : 0 ≤ m.last ∧ m.last ≤ 1073741824
 lastTerm : 0 ≤ m.lastTerm ∧ m.lastTerm ≤ 1073741824
 commit : 0 ≤ m.commit ∧ m.commit ≤ 1073741824
 ents : entB m.lastTerm m.term m.entries
 few : m.entries.length ≤ 4
 app : m.kind ≠ 3 → m.entries.length = 0 ∧ m.commit = 0
 okk : m.okk = true → m.kind = 2 ∨ m.kind = 4
 snap : m.kind = 5 → 0 < m.snap.index ∧ Zaf m.snap = true
 nosnap : m.kind ≠ 5 → m.snap = ⟨0, 0, 0, 0, false⟩
noncomputable def fineM (m : Ms) (n : Int) : Bool := Zfn (FineM m n)
structure BdM (m : Ms) : Prop where
 kind : 0 ≤ m.kind ∧ m.kind ≤ 255
 ents : m.entries.length ≤ 1000000
theorem p_entries_l1 (x : Ms) (h : x.entries.length ≤ 1000000) : ∀ (m k n : Nat) (v : Bool) (last : Int), m = x.entries.length - k → k ≤ x.entries.length → m < n → Je x n v last k = some (Zfn (entB last x.term (x.entries.drop k) ∧ x.entries.length ≤ 4)) := by
 intro m
 induction m with
 | zero =>
  intro k n v last hm hk hn
  obtain ⟨n, rfl⟩ : ∃ n', n = n' + 1 := ⟨n - 1, by omega⟩
  rw [Je, List.drop_eq_nil_of_le (by omega)]
  simp only [Bool.cond_decide, if_neg (show ¬ ((k : Int) < (x.entries.length : Int)) by omega)]
  rw [Zdq]; congr 1
  exact Vj ⟨fun h => ⟨trivial, by omega⟩, fun h => by have := h.2; omega⟩
 | succ m ih =>
  intro k n v last hm hk hn
  obtain ⟨n, rfl⟩ : ∃ n', n = n' + 1 := ⟨n - 1, by omega⟩
  obtain ⟨e, he, hd⟩ := Xw (show k < x.entries.length by omega)
  rw [Je, hd]
  simp only [Bool.cond_decide, if_pos (show ((k : Int) < (x.entries.length : Int)) by omega), Zan, he, Option.bind_some, p_eRight, p_within]
  rw [Zbp (by omega), show ((k : Int) + 1) = ((k + 1 : Nat) : Int) by omega, ih (k + 1) n v e.term (by omega) (by omega) (by omega)]
  cases c1 : V9 e with
  | false => rw [Yc (p := entB last x.term (e :: x.entries.drop (k + 1)) ∧ x.entries.length ≤ 4) fun h => by have h2 := h.1.1; rw [c1] at h2; cases h2]; rfl
  | true =>
   by_cases c2 : last ≤ e.term ∧ e.term ≤ x.term
   ·rw [Xn c2]; show some _ = some _; congr 1
    exact Vj ⟨fun h => ⟨⟨c1, c2, h.1⟩, h.2⟩, fun h => ⟨h.1.2.2, h.2⟩⟩
   ·rw [Yc c2, Yc (p := entB last x.term (e :: x.entries.drop (k + 1)) ∧ x.entries.length ≤ 4) fun h => c2 h.1.2.1]; rfl
theorem p_entries (x : Ms) (h : x.entries.length ≤ 1000000) : Zcd x = some (Zfn (entB x.lastTerm x.term x.entries ∧ x.entries.length ≤ 4)) := by
 have := p_entries_l1 x h x.entries.length 0 X6 false x.lastTerm (by omega) (by omega) (by unfold X6; omega)
 unfold Zcd
 simpa using this
theorem st_zero (s : St) : (decide (s.index = 0) && (decide (s.term = 0) && (decide (s.sum = 0) && (decide (s.level = 0) && decide (s.final = false))))) = decide (s = ⟨0, 0, 0, 0, false⟩) := by
 obtain ⟨a1, a2, a3, a4, a5⟩ := s
 rw [Bool.eq_iff_iff]; simp
theorem p_mFine (m : Ms) (n : Int) (h : BdM m) : Zdx m n = some (fineM m n) := by
 have hw : IntKind.wrap .i64 m.kind = m.kind := Zbp (by have := h.kind; omega)
 simp only [Zdx, p_within, p_each [m.frm, m.dst] _ _ _ (by simp), p_each [m.last, m.lastTerm, m.commit] _ _ _ (by simp), p_entries m h.ents, p_eFine, Option.bind_some, hw, st_zero]
 unfold fineM
 by_cases c1 : 1 ≤ n ∧ n ≤ 5
 case neg => rw [Yc c1, Yc (p := FineM m n) fun h => c1 h.many]; rfl
 rw [Xn c1]
 by_cases c2 : (([m.frm, m.dst].length : Nat) : Int) = 2 ∧ InB [m.frm, m.dst] 1 n
 case neg => rw [Yc c2, Yc (p := FineM m n) fun h => c2 ⟨rfl, InB_cons.2 ⟨h.frm, InB_cons.2 ⟨h.dst, Zeh⟩⟩⟩]; rfl
 rw [Xn c2]
 have c21 := (InB_cons.1 c2.2).1
 have c22 := (InB_cons.1 (InB_cons.1 c2.2).2).1
 by_cases c3 : m.frm = m.dst
 case pos => rw [decide_eq_true c3, Yc (p := FineM m n) fun h => h.ne c3]; rfl
 rw [decide_eq_false c3]
 by_cases c4 : 1 ≤ m.kind ∧ m.kind ≤ 5
 case neg => rw [Yc c4, Yc (p := FineM m n) fun h => c4 h.kind]; rfl
 rw [Xn c4]
 by_cases c5 : 1 ≤ m.term ∧ m.term ≤ 1073741824
 case neg => rw [Yc c5, Yc (p := FineM m n) fun h => c5 h.term]; rfl
 rw [Xn c5]
 by_cases c6 : 1 ≤ m.cap ∧ m.cap ≤ 2
 case neg => rw [Yc c6, Yc (p := FineM m n) fun h => c6 h.cap]; rfl
 rw [Xn c6]
 by_cases c7 : (([m.last, m.lastTerm, m.commit].length : Nat) : Int) = 3 ∧ InB [m.last, m.lastTerm, m.commit] 0 1073741824
 case neg => rw [Yc c7, Yc (p := FineM m n) fun h => c7 ⟨rfl, InB_cons.2 ⟨h.last, InB_cons.2 ⟨h.lastTerm, InB_cons.2 ⟨h.commit, Zeh⟩⟩⟩⟩]; rfl
 rw [Xn c7]
 have c71 := (InB_cons.1 c7.2).1
 have c72 := (InB_cons.1 (InB_cons.1 c7.2).2).1
 have c73 := (InB_cons.1 (InB_cons.1 (InB_cons.1 c7.2).2).2).1
 by_cases c8 : entB m.lastTerm m.term m.entries ∧ m.entries.length ≤ 4
 case neg => rw [Yc c8, Yc (p := FineM m n) fun h => c8 ⟨h.ents, h.few⟩]; rfl
 rw [Xn c8]
 have yes : ∀ (d1 : m.kind ≠ 3 → m.entries.length = 0 ∧ m.commit = 0) (d2 : m.okk = true → m.kind = 2 ∨ m.kind = 4), (if m.kind = 5 then (if 0 < m.snap.index then some (Zaf m.snap) else some false) else some (decide (m.snap = ⟨0, 0, 0, 0, false⟩))) = some (Zfn (FineM m n)) := by
  intro d1 d2
  by_cases e1 : m.kind = 5
  ·rw [if_pos e1]
   by_cases e2 : 0 < m.snap.index
   ·rw [if_pos e2]
    cases e3 : Zaf m.snap with
    | true => rw [Xn (p := FineM m n) ⟨c1, c21, c22, c3, c4, c5, c6, c71, c72, c73, c8.1, c8.2, d1, d2, fun _ => ⟨e2, e3⟩, fun h => (h e1).elim⟩]
    | false => rw [Yc (p := FineM m n) fun h => by have h2 := (h.snap e1).2; rw [e3] at h2; cases h2]
   ·rw [if_neg e2, Yc (p := FineM m n) fun h => e2 (h.snap e1).1]
  ·rw [if_neg e1, Zdq]
   congr 1
   exact Vj ⟨fun e2 => ⟨c1, c21, c22, c3, c4, c5, c6, c71, c72, c73, c8.1, c8.2, d1, d2, fun h => (e1 h).elim, fun _ => e2⟩, fun h => h.nosnap e1⟩
 simp only [Bool.not_true, cond_false, Bool.cond_decide]
 by_cases d1 : m.kind = 3
 ·rw [if_neg (fun h => h d1)]
  cases d2 : m.okk with
  | false => exact yes (fun h => (h d1).elim) (fun h => by rw [d2] at h; cases h)
  | true =>
   rw [if_pos (by omega), if_pos (by omega), Yc (p := FineM m n) fun h => by have := h.okk d2; omega]; rfl
 ·rw [if_pos d1]
  by_cases d3 : (0 : Int) < (m.entries.length : Int)
  ·rw [if_pos d3, Yc (p := FineM m n) fun h => by have := (h.app d1).1; omega]
  rw [if_neg d3]
  by_cases d4 : 0 < m.commit
  ·rw [if_pos d4, Yc (p := FineM m n) fun h => by have := (h.app d1).2; omega]
  rw [if_neg d4]
  have d5 : m.kind ≠ 3 → m.entries.length = 0 ∧ m.commit = 0 := fun _ => ⟨by omega, by omega⟩
  cases d2 : m.okk with
  | false => exact yes d5 (fun h => by rw [d2] at h; cases h)
  | true =>
   show (if m.kind ≠ 2 then _ else _) = _
   by_cases d6 : m.kind = 2
   ·rw [if_neg (fun h => h d6)]; exact yes d5 (fun _ => .inl d6)
   ·rw [if_pos d6]
    by_cases d7 : m.kind = 4
    ·rw [if_neg (fun h => h d7)]; exact yes d5 (fun _ => .inr d7)
    ·rw [if_pos d7, Yc (p := FineM m n) fun h => by have := h.okk d2; omega]
end Go.Proofs.Ytenagnncpaabdaa
namespace Go.Proofs.Ytenagnncpaabdaa
open Go Go.RowKit
set_option maxRecDepth 100000
def ToC (x : Co) (m : Ms) : Prop := m.dst = x.id ∧ RightC x ∧ FineM m x.n
theorem p_To (x : Co) (m : Ms) (hx : BdC x) (hm : BdM m) : Zc5 x m = some (Zfn (ToC x m)) := by
 simp only [Zc5, Zdf x hx, p_mFine m x.n hm, Option.bind_some, Bool.cond_decide]
 by_cases c1 : m.dst = x.id
 case neg => rw [if_pos c1, Yc fun h => c1 h.1]
 rw [if_neg (fun h => h c1)]
 unfold Zbt fineM
 by_cases c2 : RightC x
 case neg => rw [Yc c2, Yc (p := ToC x m) fun h => c2 h.2.1]; rfl
 rw [Xn c2]
 show some _ = some _
 congr 1
 exact Vj ⟨fun h => ⟨c1, c2, h⟩, fun h => h.2.2⟩
open Classical in
noncomputable def hearC (x : Co) (m : Ms) : Co := if ToC x m then { x with caps := x.caps.set (m.frm - 1).toNat m.cap } else x
theorem idx_in {α : Type} (l : List α) (i : Int) (h : 1 ≤ i ∧ i ≤ (l.length : Int)) (hl : l.length ≤ 1000000) : ∃ e, idx l (i - 1) = some e ∧ l[(i - 1).toNat]? = some e ∧ IntKind.wrap .i64 (i - 1) = i - 1 := by
 have hw : i - 1 = (((i - 1).toNat : Nat) : Int) := by omega
 obtain ⟨e, he, _⟩ := Xw (show (i - 1).toNat < l.length by omega)
 exact ⟨e, by rw [hw, Zan]; exact he, he, Zbp (by omega)⟩
theorem p_Hear (x : Co) (m : Ms) (hx : BdC x) (hm : BdM m) : Zci x m = some (hearC x m) := by
 simp only [Zci, p_To x m hx hm, p_mOwn x hx, Zdf x hx, Option.bind_some]
 unfold hearC
 by_cases c1 : ToC x m
 ·rw [Xn c1, if_pos c1]
  unfold Zbt
  rw [Xn c1.2.1]
  obtain ⟨e, he, _, hw⟩ := idx_in x.caps m.frm (by have := c1.2.2.frm; have := c1.2.1.lc; omega) hx.lc
  simp only [cond_true, he, Option.bind_some, hw]
  rfl
 ·rw [Yc c1, if_neg c1]; rfl
theorem hear_right (x : Co) (m : Ms) (h : RightC x) : RightC (hearC x m) := by
 unfold hearC
 split
 ·rename_i c
  have hf := c.2.2
  refine ⟨h.n, h.id, h.role, h.bin, h.tup, h.st, h.lv, h.ln, h.lm, ?_, h.next, h.mtch, InB.set h.caps (by have := hf.cap; omega), ?_, h.lead⟩
  ·dsimp only; rw [List.length_set]; exact h.lc
  ·dsimp only
   rw [List.getElem?_set_ne]
   ·exact h.own
   ·have h1 := hf.ne; have h2 := c.1; have h3 := hf.frm; have h4 := h.id; omega
 ·exact h
end Go.Proofs.Ytenagnncpaabdaa
namespace Go.Proofs.Ytenagnncpaabdaa
open Go Go.RowKit
set_option maxRecDepth 100000
theorem p_tTermAt (x : Tu) (i : Int) (h : bdT x) : Zbv x i = some ((Zaw x i).getD 0, (Zaw x i).isSome) := by
 obtain ⟨h1, h2, h3⟩ := h
 unfold Zbv m_tuple_At Zaw
 rw [p_tLast x ⟨h1, h2, h3⟩]
 unfold Tu.last
 simp only [Option.bind_some, Bool.cond_decide]
 by_cases hi : i = x.snap.index
 ·rw [if_pos hi, if_pos hi]; rfl
 ·rw [if_neg hi, if_neg hi]
  by_cases h4 : i ≤ x.snap.index
  ·rw [if_pos h4, if_neg (by omega)]; rfl
  ·rw [if_neg h4]
   by_cases h5 : x.snap.index + (x.log.length : Int) < i
   ·rw [if_pos h5, if_neg (by omega)]; rfl
   ·rw [if_neg h5, if_pos (by omega)]
    obtain ⟨k, hk⟩ : ∃ k : Nat, i = x.snap.index + 1 + k := ⟨(i - x.snap.index - 1).toNat, by omega⟩
    have e1 : IntKind.wrap .i64 (i - x.snap.index) = i - x.snap.index := Zbp (by omega)
    have e2 : IntKind.wrap .i64 (i - x.snap.index - 1) = (k : Int) := by rw [Zbp (by omega)]; omega
    have e3 : (i - x.snap.index - 1).toNat = k := by omega
    rw [e1, e2, e3, Zan]
    obtain ⟨e, he, _⟩ := Xw (show k < x.log.length by omega)
    rw [he]; rfl
theorem commit_bd {x : Co} (h : RightC x) : x.tuple.snap.index ≤ x.commit ∧ x.commit ≤ x.tuple.last := by
 have := h.st
 unfold stOf at this
 split at this
 ·assumption
 ·cases this
theorem InB.mono {l : List Int} {a b c d : Int} (h : InB l a b) (h1 : c ≤ a) (h2 : b ≤ d) : InB l c d := fun x hx => by have := h x hx; omega
end Go.Proofs.Ytenagnncpaabdaa
namespace Go.Proofs.Ytenagnncpaabdaa
open Go Go.RowKit
set_option maxRecDepth 100000
theorem q_Save (x : Tu) (s : St) (h : x.log.length ≤ 1000000) : Zdc x s = some (Zbj x (Zay x s), Ze0 x (Zay x s)) := by unfold Zdc; rw [decide_eq_true h]; rfl
theorem q_Install (x : Tu) (s : St) (h : x.log.length ≤ 1000000) : Zbb x s = some (Zbj x (Zc7 x s), Ze0 x (Zc7 x s)) := by unfold Zbb; rw [decide_eq_true h]; rfl
theorem q_Hard (x : Tu) (t v : Int) (h : x.log.length ≤ 1000000) : Zby x t v = some (Zbj x (hardR x t v), Ze0 x (hardR x t v)) := by unfold Zby; rw [decide_eq_true h]; rfl
theorem p_fits (x : Co) (m : Ms) (hx : BdC x) (hm : BdM m) : Zdo x m = some (Zfn (ToC x m)) := by
 simp only [Zdo, Zdf x hx, p_mFine m x.n hm, Option.bind_some, Bool.cond_decide]
 by_cases c1 : m.dst = x.id
 case neg => rw [if_neg c1, Yc fun h => c1 h.1]
 rw [if_pos c1]
 unfold Zbt fineM
 by_cases c2 : FineM m x.n
 case neg => rw [Yc c2, Yc (p := ToC x m) fun h => c2 h.2.2]; rfl
 rw [Xn c2]
 show some _ = some _
 congr 1
 exact Vj ⟨fun h => ⟨c1, h, c2⟩, fun h => h.2.1⟩
theorem hard_yes (x : Tu) (t v : Int) (hx : Jo x = true) (h : x.term < t ∨ t = x.term ∧ (x.vote = 0 ∨ x.vote = v)) (ht : t ≤ 1073741824) (hv : 0 ≤ v ∧ v ≤ 5) : Jo { x with term := t, vote := v } = true ∧ Zby x t v = some ({ x with term := t, vote := v }, 0) := by
 obtain ⟨g1, g2, g3, g4⟩ := (Zex x).1 hx
 have hT : Jo { x with term := t, vote := v } = true := (Zex _).2 ⟨g1, ⟨g2.1, g2.2.1, hv.1, hv.2, ht⟩, g3, by dsimp only; omega⟩
 refine ⟨hT, ?_⟩
 rw [q_Hard x t v (by omega)]
 have hr : hardR x t v = some { x with term := t, vote := v } := by unfold hardR; rw [if_pos h]
 have := chg_yes x _ _ hx hr hT
 rw [this.1, this.2]
theorem hear_no (x : Co) (m : Ms) (h : ¬ ToC x m) : hearC x m = x := by unfold hearC; rw [if_neg h]
theorem hear_eq (x : Co) (m : Ms) (h : ToC x m) : hearC x m = { x with caps := x.caps.set (m.frm - 1).toNat m.cap } := by unfold hearC; rw [if_pos h]
open Classical in
noncomputable def Xl (x : Co) (m : Ms) : Co := if ToC x m ∧ x.tuple.term < m.term then { x with caps := x.caps.set (m.frm - 1).toNat m.cap, tuple := { x.tuple with term := m.term, vote := 0 }, role := 0, votes := List.replicate x.n.toNat false } else hearC x m
theorem p_Meet (x : Co) (m : Ms) (hx : BdC x) (hm : BdM m) : Zdi x m = some (Xl x m) := by
 simp only [Zdi, p_mOwn x hx, p_fits x m hx hm, p_Hear x m hx hm, Option.bind_some, Bool.cond_decide]
 unfold Xl
 by_cases c1 : ToC x m
 case neg => rw [Yc c1, if_neg (show ¬ (ToC x m ∧ x.tuple.term < m.term) from fun h => c1 h.1), hear_no x m c1]; rfl
 rw [Xn c1]
 simp only [Bool.not_true, cond_false]
 rw [hear_eq x m c1]
 by_cases c2 : x.tuple.term < m.term
 ·rw [if_pos (show ToC x m ∧ x.tuple.term < m.term from ⟨c1, c2⟩), if_pos (show x.tuple.term < m.term from c2)]
  have hH := (hard_yes x.tuple m.term 0 c1.2.1.tup (.inl c2) c1.2.2.term.2 (by omega)).2
  have hn := c1.2.1.n
  obtain ⟨N, hN⟩ : ∃ N : Nat, x.n = (N : Int) := ⟨x.n.toNat, by omega⟩
  have hk : makeI false x.n = some (List.replicate x.n.toNat false) := by rw [hN, makeI_nat _ N (by omega), Int.toNat_natCast]
  simp only [hH, hk, Option.bind_some]
 ·rw [if_neg (show ¬ (ToC x m ∧ x.tuple.term < m.term) from fun h => c2 h.2), if_neg (show ¬ x.tuple.term < m.term from c2)]
theorem meet_right (x : Co) (m : Ms) (h : RightC x) : RightC (Xl x m) := by
 unfold Xl
 split
 ·rename_i c
  have hh := hear_right x m h
  rw [hear_eq x m c.1] at hh
  have hn := h.n
  refine ⟨h.n, h.id, by show (0 : Int) ≤ 2; decide, h.bin, (hard_yes x.tuple m.term 0 h.tup (.inl c.2) c.1.2.2.term.2 (by omega)).1, h.st, ?_, h.ln, h.lm, hh.lc, h.next, h.mtch, hh.caps, hh.own, .inl rfl⟩
  dsimp only; rw [List.length_replicate]; omega
 ·exact hear_right x m h
structure MeetF (x y : Co) : Prop where
 id : y.id = x.id
 n : y.n = x.n
 binary : y.binary = x.binary
 commit : y.commit = x.commit
 applied : y.applied = x.applied
 next : y.next = x.next
 mtch : y.mtch = x.mtch
 snap : y.tuple.snap = x.tuple.snap
 log : y.tuple.log = x.tuple.log
 term : x.tuple.term ≤ y.tuple.term
theorem meet_f (x : Co) (m : Ms) : MeetF x (Xl x m) := by
 unfold Xl
 split
 ·rename_i c
  exact ⟨rfl, rfl, rfl, rfl, rfl, rfl, rfl, rfl, rfl, by dsimp only; omega⟩
 ·by_cases c : ToC x m
  ·rw [hear_eq x m c]; exact ⟨rfl, rfl, rfl, rfl, rfl, rfl, rfl, rfl, rfl, Int.le_refl _⟩
  ·rw [hear_no x m c]; exact ⟨rfl, rfl, rfl, rfl, rfl, rfl, rfl, rfl, rfl, Int.le_refl _⟩
theorem MeetF.last {x y : Co} (h : MeetF x y) : y.tuple.last = x.tuple.last := by unfold Tu.last; rw [h.snap, h.log]
theorem meet_term (x : Co) (m : Ms) (h : ToC x m) : (x.tuple.term < m.term ∧ (Xl x m).tuple.term = m.term ∧ (Xl x m).tuple.vote = 0 ∧ (Xl x m).role = 0) ∨ (m.term ≤ x.tuple.term ∧ Xl x m = { x with caps := x.caps.set (m.frm - 1).toNat m.cap }) := by
 by_cases c : x.tuple.term < m.term
 ·left
  unfold Xl
  rw [if_pos ⟨h, c⟩]
  exact ⟨c, rfl, rfl, rfl⟩
 ·right
  unfold Xl
  rw [if_neg (fun h => c h.2), hear_eq x m h]
  exact ⟨by omega, rfl⟩
theorem meet_ge (x : Co) (m : Ms) (h : ToC x m) : m.term ≤ (Xl x m).tuple.term := by
 rcases meet_term x m h with ⟨_, h2, _⟩ | ⟨h1, h2⟩
 ·rw [h2]; exact Int.le_refl _
 ·rw [h2]; exact h1
def mapTo (f : Int → Int) (k : Nat) (l : List Int) : List Int := (l.take k).map f ++ l.drop k
theorem mapTo_get (f : Int → Int) (l : List Int) (k : Nat) (e : Int) (h : l[k]? = some e) : (mapTo f k l)[k]? = some e := by
 have hk := (List.getElem?_eq_some_iff.1 h).1
 unfold mapTo
 rw [List.getElem?_append_right (by rw [List.length_map, List.length_take]; omega), List.length_map, List.length_take, List.getElem?_drop, ← h]
 congr 1; omega
theorem mapTo_set (f : Int → Int) (l : List Int) (k : Nat) (e : Int) (h : l[k]? = some e) : (mapTo f k l).set k (f e) = mapTo f (k + 1) l := by
 have hk := (List.getElem?_eq_some_iff.1 h).1
 obtain ⟨e', he', hd⟩ := Xw hk
 rw [h] at he'
 obtain rfl := Option.some.inj he'
 unfold mapTo
 rw [List.set_append, if_neg (by rw [List.length_map, List.length_take]; omega), hd, List.take_add_one, h]
 have : k - ((l.take k).map f).length = 0 := by rw [List.length_map, List.length_take]; omega
 rw [this]
 simp
theorem mapTo_all (f : Int → Int) (l : List Int) (k : Nat) (h : l.length ≤ k) : mapTo f k l = l.map f := by
 unfold mapTo
 rw [List.take_of_length_le h, List.drop_eq_nil_of_le h, List.append_nil]
theorem mapTo_zero (f : Int → Int) (l : List Int) : mapTo f 0 l = l := by simp [mapTo]
theorem setI_nat {α : Type} (l : List α) (k : Nat) (v : α) : setI l (k : Int) v = l.set k v := by unfold setI; simp
def fitC (x : Co) : Co := { x with next := x.next.map (fun e => min e (x.tuple.last + 1)), mtch := x.mtch.map (fun e => min e x.tuple.last) }
theorem p_Fit_l2 (x : Co) (r : Int) (v : List Int) (hl : x.mtch.length ≤ 1000000) : ∀ (q k n : Nat), q = x.mtch.length - k → k ≤ x.mtch.length → q < n → Zau x r v n k (mapTo (fun e => min e r) k x.mtch) = some { x with next := v, mtch := x.mtch.map (fun e => min e r) } := by
 intro q
 induction q with
 | zero =>
  intro k n hq hk hn
  obtain ⟨n, rfl⟩ : ∃ n', n = n' + 1 := ⟨n - 1, by omega⟩
  rw [Zau, mapTo_all _ _ _ (by omega)]
  simp only [Bool.cond_decide, if_neg (show ¬ (k : Int) < (x.mtch.length : Int) by omega)]
 | succ q ih =>
  intro k n hq hk hn
  obtain ⟨n, rfl⟩ : ∃ n', n = n' + 1 := ⟨n - 1, by omega⟩
  obtain ⟨e, he, _⟩ := Xw (show k < x.mtch.length by omega)
  rw [Zau]
  simp only [Bool.cond_decide, if_pos (show (k : Int) < (x.mtch.length : Int) by omega), Zan, mapTo_get _ _ _ _ he, Option.bind_some, setI_nat]
  have := mapTo_set (fun e => min e r) x.mtch k e he
  rw [this, Zbp (by omega), show ((k : Int) + 1) = ((k + 1 : Nat) : Int) by omega, ih (k + 1) n (by omega) (by omega) (by omega)]
theorem p_Fit_l1 (x : Co) (r : Int) (hl : x.next.length ≤ 1000000) (hl2 : x.mtch.length ≤ 1000000) (hr : -3000000000000 ≤ r ∧ r ≤ 3000000000000) : ∀ (q k n : Nat), q = x.next.length - k → k ≤ x.next.length → q < n → Zat x r n k (mapTo (fun e => min e (r + 1)) k x.next) = some { x with next := x.next.map (fun e => min e (r + 1)), mtch := x.mtch.map (fun e => min e r) } := by
 intro q
 induction q with
 | zero =>
  intro k n hq hk hn
  obtain ⟨n, rfl⟩ : ∃ n', n = n' + 1 := ⟨n - 1, by omega⟩
  rw [Zat, mapTo_all _ _ _ (by omega)]
  simp only [Bool.cond_decide, if_neg (show ¬ (k : Int) < (x.next.length : Int) by omega)]
  have := p_Fit_l2 x r (x.next.map fun e => min e (r + 1)) hl2 x.mtch.length 0 X6 (by omega) (by omega) (by unfold X6; omega)
  rw [mapTo_zero] at this
  exact this
 | succ q ih =>
  intro k n hq hk hn
  obtain ⟨n, rfl⟩ : ∃ n', n = n' + 1 := ⟨n - 1, by omega⟩
  obtain ⟨e, he, _⟩ := Xw (show k < x.next.length by omega)
  rw [Zat]
  simp only [Bool.cond_decide, if_pos (show (k : Int) < (x.next.length : Int) by omega), Zan, mapTo_get _ _ _ _ he, Option.bind_some, setI_nat, Zbp (n := r + 1) (by omega)]
  have := mapTo_set (fun e => min e (r + 1)) x.next k e he
  rw [this, Zbp (by omega), show ((k : Int) + 1) = ((k + 1 : Nat) : Int) by omega, ih (k + 1) n (by omega) (by omega) (by omega)]
theorem p_Fit (x : Co) (h : BdC x) : Zew x = some (fitC x) := by
 have hb := last_bd h.tup
 have := p_Fit_l1 x x.tuple.last h.ln h.lm hb x.next.length 0 X6 (by omega) (by omega) (by have := h.ln; unfold X6; omega)
 rw [mapTo_zero] at this
 simp only [Zew, p_mOwn x h, Option.bind_some, p_tLast x.tuple h.tup]
 exact this
theorem map_min_in {l : List Int} {lo hi hi' : Int} (h : InB l lo hi') (hl : lo ≤ hi) : InB (l.map (fun e => min e hi)) lo hi := fun x hx => by
 obtain ⟨a, ha, rfl⟩ := List.mem_map.1 hx
 have := h a ha
 omega
def backM (y : Co) (m : Ms) (k : Int) (ok : Bool) (last : Int) : Ms := ⟨k, y.id, m.frm, y.tuple.term, y.binary, last, 0, 0, ok, [], ⟨0, 0, 0, 0, false⟩⟩
end Go.Proofs.Ytenagnncpaabdaa
namespace Go.Proofs.Ytenagnncpaabdaa
open Go Go.RowKit
set_option maxRecDepth 100000
inductive SnapR (x : Co) (m : Ms) : Co → List Ms → Prop
 | old (h : m.term < (Xl x m).tuple.term) : SnapR x m (Xl x m) [backM (Xl x m) m 4 false x.tuple.last]
 | lead (h : m.term = (Xl x m).tuple.term) (hr : (Xl x m).role = 2) : SnapR x m (Xl x m) []
 | had (h : m.term = (Xl x m).tuple.term) (hr : (Xl x m).role ≠ 2) (hi : m.snap.index ≤ x.commit) : SnapR x m { Xl x m with role := 0 } [backM (Xl x m) m 4 true x.commit]
 | no (h : m.term = (Xl x m).tuple.term) (hr : (Xl x m).role ≠ 2) (hi : x.commit < m.snap.index) (he : Ze0 (Xl x m).tuple (Zc7 (Xl x m).tuple m.snap) ≠ 0) : SnapR x m { Xl x m with role := 0 } [backM (Xl x m) m 4 false x.tuple.last]
 | yes (t : Tu) (h : m.term = (Xl x m).tuple.term) (hr : (Xl x m).role ≠ 2) (hi : x.commit < m.snap.index) (hs : Zc7 (Xl x m).tuple m.snap = some t) (ht : Jo t = true) : SnapR x m (fitC { Xl x m with role := 0, tuple := t, commit := m.snap.index, applied := m.snap }) [backM { Xl x m with tuple := t } m 4 true m.snap.index]
theorem p_Snap_no (x : Co) (m : Ms) (hx : BdC x) (hm : BdM m) (h : ¬ (ToC x m ∧ m.kind = 5)) : X3 x m = some (x, []) := by
 simp only [X3, p_To x m hx hm, p_mOwn x hx, Option.bind_some, Bool.cond_decide]
 by_cases c1 : ToC x m
 case neg => rw [Yc c1]; rfl
 rw [Xn c1]
 simp only [Bool.not_true, cond_false]
 rw [if_pos (fun h2 => h ⟨c1, h2⟩)]
theorem chg_cases (x : Tu) (res : Option Tu) (hx : Jo x = true) : (Ze0 x res = 2 ∧ Zbj x res = x) ∨ (∃ t, res = some t ∧ Jo t = true ∧ Ze0 x res = 0 ∧ Zbj x res = t) := by
 cases res with
 | none => left; have := chg_no x none (fun y h => by cases h); exact ⟨this.2, this.1⟩
 | some y =>
  cases hy : Jo y with
  | false => left; have := chg_no x (some y) (fun z h => by cases h; exact hy); exact ⟨this.2, this.1⟩
  | true => right; have := chg_yes x y (some y) hx rfl hy; exact ⟨y, rfl, hy, this.2, this.1⟩
theorem inst_parts (x : Tu) (s : St) (y : Tu) (h : Zc7 x s = some y) : y.term = x.term ∧ y.vote = x.vote ∧ y.snap = s ∧ x.snap.index < s.index := by
 unfold Zc7 at h
 split at h
 ·rename_i h0
  split at h
  ·unfold Zay at h
   split at h
   ·injection h with h; subst h; exact ⟨rfl, rfl, rfl, h0.1⟩
   ·cases h
  ·injection h with h; subst h; exact ⟨rfl, rfl, rfl, h0.1⟩
 ·cases h
theorem inst_right (y : Co) (s : St) (t : Tu) (h : RightC y) (ht : Jo t = true) (hs : t.snap = s) : RightC (fitC { y with role := 0, tuple := t, commit := s.index, applied := s }) := by
 have hb := Zdg _ ht
 have hl : t.last = t.snap.index + t.log.length := rfl
 refine ⟨h.n, h.id, by show (0 : Int) ≤ 2; decide, h.bin, ht, ?_, h.lv, ?_, ?_, h.lc, ?_, ?_, h.caps, h.own, .inl rfl⟩
 ·show stOf t s.index = some s
  unfold stOf
  rw [hs, if_pos (by rw [hs] at hl; omega), Int.sub_self]
  subst hs
  rfl
 ·show (((y.next.map _).length : Nat) : Int) = _; rw [List.length_map]; exact h.ln
 ·show (((y.mtch.map _).length : Nat) : Int) = _; rw [List.length_map]; exact h.lm
 ·exact map_min_in h.next (by show (1 : Int) ≤ t.last + 1; omega)
 ·exact map_min_in h.mtch (by show (0 : Int) ≤ t.last; omega)
theorem p_Snap (x : Co) (m : Ms) (hm : BdM m) (h : ToC x m) (hk : m.kind = 5) : ∃ d l, X3 x m = some (d, l) ∧ SnapR x m d l := by
 have hx := h.2.1.bd
 have hy := meet_right x m h.2.1
 have hf := meet_f x m
 have hbd := hy.bd
 have hge := meet_ge x m h
 simp only [X3, p_To x m hx hm, p_mOwn x hx, p_Meet x m hx hm, p_tLast _ hbd.tup, hf.last, Zcr, Option.bind_some, Bool.cond_decide, Xn h, Bool.not_true, cond_false, if_neg (show ¬ m.kind ≠ 5 from fun h => h hk), q_Install _ m.snap hbd.tup.1]
 by_cases c1 : m.term < (Xl x m).tuple.term
 ·rw [if_pos c1]; exact ⟨_, _, rfl, .old c1⟩
 rw [if_neg c1]
 have c1' : m.term = (Xl x m).tuple.term := by omega
 by_cases c2 : (Xl x m).role = 2
 ·rw [if_pos c2]; exact ⟨_, _, rfl, .lead c1' c2⟩
 rw [if_neg c2]
 by_cases c3 : m.snap.index ≤ (Xl x m).commit
 ·rw [if_pos c3, hf.commit]
  have := SnapR.had c1' c2 (by rw [← hf.commit]; exact c3)
  refine ⟨_, _, rfl, ?_⟩
  have e : ({ Xl x m with role := 0 } : Co) = ⟨(Xl x m).id, (Xl x m).n, 0, (Xl x m).binary, (Xl x m).tuple, x.commit, (Xl x m).applied, (Xl x m).votes, (Xl x m).next, (Xl x m).mtch, (Xl x m).caps⟩ := by rw [← hf.commit]
  rw [← e]
  exact this
 rw [if_neg c3]
 have c3' : x.commit < m.snap.index := by rw [← hf.commit]; omega
 rcases chg_cases (Xl x m).tuple (Zc7 (Xl x m).tuple m.snap) hy.tup with ⟨he, hs⟩ | ⟨t, hs, ht, he, hc⟩
 ·rw [if_pos (show Ze0 (Xl x m).tuple (Zc7 (Xl x m).tuple m.snap) ≠ 0 by rw [he]; decide)]
  exact ⟨_, _, rfl, .no c1' c2 c3' (by rw [he]; decide)⟩
 ·rw [if_neg (show ¬ Ze0 (Xl x m).tuple (Zc7 (Xl x m).tuple m.snap) ≠ 0 from fun h => h he), hc]
  have hR := inst_right (Xl x m) m.snap t hy ht (inst_parts _ _ _ hs).2.2.1
  have hb : BdC ⟨(Xl x m).id, (Xl x m).n, 0, (Xl x m).binary, t, m.snap.index, m.snap, (Xl x m).votes, (Xl x m).next, (Xl x m).mtch, (Xl x m).caps⟩ := ⟨hR.bd.tup, hbd.lv, hbd.ln, hbd.lm, hbd.lc⟩
  rw [p_Fit _ hb]
  exact ⟨_, _, rfl, .yes t c1' c2 c3' hs ht⟩
end Go.Proofs.Ytenagnncpaabdaa
namespace Go.Proofs.Ytenagnncpaabdaa
open Go Go.RowKit
set_option maxRecDepth 100000
theorem p_number20 (x : Int) : Zae x = some (numB x) := by
 unfold Zae numB
 by_cases h : 0 ≤ x <;> simp [h]
theorem p_entries20_l1 (x : Ms) (h : x.entries.length ≤ 1000000) : ∀ (m k n : Nat) (v : Bool) (last : Int), m = x.entries.length - k → k ≤ x.entries.length → m < n → Vz x n v last k = some (Zfn (entB last x.term (x.entries.drop k) ∧ x.entries.length ≤ 4)) := by
 intro m
 induction m with
 | zero =>
  intro k n v last hm hk hn
  obtain ⟨n, rfl⟩ : ∃ n', n = n' + 1 := ⟨n - 1, by omega⟩
  rw [Vz, List.drop_eq_nil_of_le (by omega)]
  simp only [Bool.cond_decide, if_neg (show ¬ ((k : Int) < (x.entries.length : Int)) by omega)]
  rw [Zdq]; congr 1
  exact Vj ⟨fun h => ⟨trivial, by omega⟩, fun h => by have := h.2; omega⟩
 | succ m ih =>
  intro k n v last hm hk hn
  obtain ⟨n, rfl⟩ : ∃ n', n = n' + 1 := ⟨n - 1, by omega⟩
  obtain ⟨e, he, hd⟩ := Xw (show k < x.entries.length by omega)
  rw [Vz, hd]
  simp only [Bool.cond_decide, if_pos (show ((k : Int) < (x.entries.length : Int)) by omega), Zan, he, Option.bind_some, p_Right]
  rw [Zbp (by omega), show ((k : Int) + 1) = ((k + 1 : Nat) : Int) by omega, ih (k + 1) n v e.term (by omega) (by omega) (by omega)]
  cases c1 : V9 e with
  | false => rw [Yc (p := entB last x.term (e :: x.entries.drop (k + 1)) ∧ x.entries.length ≤ 4) fun h => by have h2 := h.1.1; rw [c1] at h2; cases h2]; rfl
  | true =>
   simp only [Bool.not_true, cond_false]
   by_cases c2 : e.term < last
   ·rw [if_pos c2, Yc (p := entB last x.term (e :: x.entries.drop (k + 1)) ∧ x.entries.length ≤ 4) fun h => by have h2 := h.1.2.1; omega]
   rw [if_neg c2]
   by_cases c3 : x.term < e.term
   ·rw [if_pos c3, Yc (p := entB last x.term (e :: x.entries.drop (k + 1)) ∧ x.entries.length ≤ 4) fun h => by have h2 := h.1.2.1; omega]
   rw [if_neg c3]
   congr 1
   exact Vj ⟨fun h => ⟨⟨c1, ⟨by omega, by omega⟩, h.1⟩, h.2⟩, fun h => ⟨h.1.2.2, h.2⟩⟩
theorem p_entries20 (x : Ms) (h : x.entries.length ≤ 1000000) : Zbc x = some (Zfn (entB x.lastTerm x.term x.entries ∧ x.entries.length ≤ 4)) := by
 have := p_entries20_l1 x h x.entries.length 0 X6 false x.lastTerm (by omega) (by omega) (by unfold X6; omega)
 unfold Zbc
 simpa using this
theorem numB_no {x : Int} (h : numB x = false) : ¬ (0 ≤ x ∧ x ≤ 1073741824) := fun h2 => by rw [numB, decide_eq_true h2] at h; cases h
theorem numB_yes {x : Int} (h : numB x = true) : 0 ≤ x ∧ x ≤ 1073741824 := of_decide_eq_true h
theorem p_Fine20 (m : Ms) (n : Int) (h : BdM m) : Zb4 m n = some (fineM m n) := by
 simp only [Zb4, p_number20, p_entries20 m h.ents, p_Fine, Option.bind_some, st_zero, Bool.cond_decide]
 unfold fineM
 by_cases c0 : n < 1
 ·rw [if_pos c0, Yc (p := FineM m n) fun h => by have := h.many; omega]
 rw [if_neg c0]
 by_cases c1 : 5 < n
 ·rw [if_pos c1, Yc (p := FineM m n) fun h => by have := h.many; omega]
 rw [if_neg c1]
 by_cases c2 : m.frm < 1
 ·rw [if_pos c2, Yc (p := FineM m n) fun h => by have := h.frm; omega]
 rw [if_neg c2]
 by_cases c3 : n < m.frm
 ·rw [if_pos c3, Yc (p := FineM m n) fun h => by have := h.frm; omega]
 rw [if_neg c3]
 by_cases c4 : m.dst < 1
 ·rw [if_pos c4, Yc (p := FineM m n) fun h => by have := h.dst; omega]
 rw [if_neg c4]
 by_cases c5 : n < m.dst
 ·rw [if_pos c5, Yc (p := FineM m n) fun h => by have := h.dst; omega]
 rw [if_neg c5]
 by_cases c6 : m.frm = m.dst
 ·rw [if_pos c6, Yc (p := FineM m n) fun h => h.ne c6]
 rw [if_neg c6]
 by_cases c7 : m.kind < 1
 ·rw [if_pos c7, Yc (p := FineM m n) fun h => by have := h.kind; omega]
 rw [if_neg c7]
 by_cases c8 : 6 ≤ m.kind
 ·rw [if_pos c8, Yc (p := FineM m n) fun h => by have := h.kind; omega]
 rw [if_neg c8]
 by_cases c9 : m.term < 1
 ·rw [if_pos c9, Yc (p := FineM m n) fun h => by have := h.term; omega]
 rw [if_neg c9]
 by_cases c10 : 1073741824 < m.term
 ·rw [if_pos c10, Yc (p := FineM m n) fun h => by have := h.term; omega]
 rw [if_neg c10]
 by_cases c11 : m.cap < 1
 ·rw [if_pos c11, Yc (p := FineM m n) fun h => by have := h.cap; omega]
 rw [if_neg c11]
 by_cases c12 : 2 < m.cap
 ·rw [if_pos c12, Yc (p := FineM m n) fun h => by have := h.cap; omega]
 rw [if_neg c12]
 cases d0 : numB m.last with
 | false => rw [Yc (p := FineM m n) fun h => numB_no d0 h.last]; rfl
 | true =>
 have d0' := numB_yes d0
 cases d1 : numB m.lastTerm with
 | false => rw [Yc (p := FineM m n) fun h => numB_no d1 h.lastTerm]; rfl
 | true =>
 have d1' := numB_yes d1
 cases d2 : numB m.commit with
 | false => rw [Yc (p := FineM m n) fun h => numB_no d2 h.commit]; rfl
 | true =>
 have d2' := numB_yes d2
 by_cases c20 : entB m.lastTerm m.term m.entries ∧ m.entries.length ≤ 4
 case neg => rw [Yc c20, Yc (p := FineM m n) fun h => c20 ⟨h.ents, h.few⟩]; rfl
 rw [Xn c20]
 simp only [Bool.not_true, cond_false]
 have yes : ∀ (d1 : m.kind ≠ 3 → m.entries.length = 0 ∧ m.commit = 0) (d2 : m.okk = true → m.kind = 2 ∨ m.kind = 4), (if m.kind = 5 then (cond (Zaf m.snap) (some (decide (0 < m.snap.index))) (some false)) else some (decide (m.snap = ⟨0, 0, 0, 0, false⟩))) = some (Zfn (FineM m n)) := by
  intro d1 d2
  have mk : (m.kind = 5 → 0 < m.snap.index ∧ Zaf m.snap = true) → (m.kind ≠ 5 → m.snap = ⟨0, 0, 0, 0, false⟩) → FineM m n := fun s1 s2 =>
   ⟨⟨by omega, by omega⟩, ⟨by omega, by omega⟩, ⟨by omega, by omega⟩, c6, ⟨by omega, by omega⟩, ⟨by omega, by omega⟩, ⟨by omega, by omega⟩, d0', d1', d2', c20.1, c20.2, d1, d2, s1, s2⟩
  by_cases e1 : m.kind = 5
  ·rw [if_pos e1]
   cases e3 : Zaf m.snap with
   | true =>
    simp only [cond_true]
    rw [Zdq]
    congr 1
    exact Vj ⟨fun e2 => mk (fun _ => ⟨e2, e3⟩) (fun h => (h e1).elim), fun h => (h.snap e1).1⟩
   | false => rw [Yc (p := FineM m n) fun h => by have h2 := (h.snap e1).2; rw [e3] at h2; cases h2]; rfl
  ·rw [if_neg e1, Zdq]
   congr 1
   exact Vj ⟨fun e2 => mk (fun h => (e1 h).elim) (fun _ => e2), fun h => h.nosnap e1⟩
 by_cases e1 : m.kind = 3
 ·rw [if_neg (fun h => h e1)]
  cases e2 : m.okk with
  | false => exact yes (fun h => (h e1).elim) (fun h => by rw [e2] at h; cases h)
  | true =>
   simp only [cond_true]
   rw [if_pos (by omega), if_pos (by omega), Yc (p := FineM m n) fun h => by have := h.okk e2; omega]
 ·rw [if_pos e1]
  by_cases e3 : (0 : Int) < (m.entries.length : Int)
  ·rw [if_pos e3, Yc (p := FineM m n) fun h => by have := (h.app e1).1; omega]
  rw [if_neg e3]
  by_cases e4 : 0 < m.commit
  ·rw [if_pos e4, Yc (p := FineM m n) fun h => by have := (h.app e1).2; omega]
  rw [if_neg e4]
  have e5 : m.kind ≠ 3 → m.entries.length = 0 ∧ m.commit = 0 := fun _ => ⟨by omega, by omega⟩
  cases e2 : m.okk with
  | false => exact yes e5 (fun h => by rw [e2] at h; cases h)
  | true =>
   simp only [cond_true]
   by_cases e6 : m.kind = 2
   ·rw [if_neg (fun h => h e6)]; exact yes e5 (fun _ => .inl e6)
   ·rw [if_pos e6]
    by_cases e7 : m.kind = 4
    ·rw [if_neg (fun h => h e7)]; exact yes e5 (fun _ => .inr e7)
    ·rw [if_pos e7, Yc (p := FineM m n) fun h => by have := h.okk e2; omega]
end Go.Proofs.Ytenagnncpaabdaa
namespace Go.Proofs.Ytenagnncpaabdaa
open Go Go.RowKit
set_option maxRecDepth 100000
theorem Zfv : Xb = some true := by decide +kernel
theorem p_great25 (x : Co) (m : Ms) : ∃ b, Zcc x m = some b ∧ (b = false → BdC x ∧ m.entries.length ≤ 20) := by
 obtain ⟨g, hg⟩ := p_Great_some x
 unfold Zcc
 rw [hg]
 cases g with
 | true => exact ⟨true, rfl, fun h => by cases h⟩
 | false =>
  refine ⟨decide ((20 : Int) < (m.entries.length : Int)), rfl, fun h => ⟨(p_Great_no x hg).1, ?_⟩⟩
  have := of_decide_eq_false h
  omega
theorem p_To21 (x : Co) (m : Ms) (hx : BdC x) (hm : BdM m) : Zcs x m = some (Zfn (ToC x m)) := by
 simp only [Zcs, p_Right20 x hx, p_Fine20 m x.n hm, Option.bind_some]
 unfold Zbt fineM
 by_cases c1 : RightC x
 case neg => rw [Yc c1, Yc (p := ToC x m) fun h => c1 h.2.1]; rfl
 by_cases c2 : FineM m x.n
 case neg => rw [Xn c1, Yc c2, Yc (p := ToC x m) fun h => c2 h.2.2]; rfl
 rw [Xn c1, Xn c2]
 show some (decide _) = some _
 rw [Zdq]
 congr 1
 exact Vj ⟨fun h => ⟨h, c1, c2⟩, fun h => h.1⟩
theorem idx_one (a : Ms) : idx [a] 0 = some a := rfl
theorem p_InstallNot (x : Co) (m : Ms) (t : Int) (hk : 0 ≤ m.kind ∧ m.kind ≤ 255) (hid : I64 x.id) : Za4 x m t = some true := by
 obtain ⟨g, hg, hgb⟩ := p_great25 x m
 simp only [Za4, hg, Zfv, Option.bind_some]
 cases g with
 | true => rfl
 | false =>
 obtain ⟨hbd, hme⟩ := hgb rfl
 have hm : BdM m := ⟨hk, by omega⟩
 have same := p_Same20 x x hbd
 rw [decide_eq_true rfl] at same
 have hno : ∀ t', t' ≠ x.id → X3 x ⟨m.kind, m.frm, t', m.term, m.cap, m.last, m.lastTerm, m.commit, m.okk, m.entries, m.snap⟩ = some (x, []) := fun t' ht => p_Snap_no x _ hbd ⟨hk, hm.ents⟩ (fun h => ht h.1.1)
 simp only [cond_false, Bool.cond_decide]
 have h1 : x.id ≠ IntKind.wrap .i64 (x.id + 1) := by
  unfold I64 at hid
  by_cases c4 : x.id = 9223372036854775807
  ·rw [c4]; decide
  ·rw [Zbp (by omega)]; omega
 have key : ((X3 x m).bind fun r59 =>
     if m.kind ≠ 5 then (Vm r59.1 x).bind fun r94 => cond r94 (if (r59.2.length : Int) = 0 then some true else some false) (some false)
     else (Zcs x m).bind fun r98 => cond (!r98)
      ((Vm r59.1 x).bind fun r101 => cond r101 (if (r59.2.length : Int) = 0 then some true else some false) (some false))
      (if x.tuple.term ≤ m.term then (if r59.1.tuple.term = m.term then some true else some false)
       else if (r59.2.length : Int) = 1 then (idx r59.2 0).bind fun e111 => cond (!e111.okk) ((idx r59.2 0).bind fun e116 => if e116.term = x.tuple.term then (if r59.1.commit = x.commit then (if r59.1.role = x.role then some true else some false) else some false) else some false) (some false) else some false)) = some true := by
  by_cases c1 : ToC x m ∧ m.kind = 5
  ·obtain ⟨c1, c2⟩ := c1
   obtain ⟨d, l, h1, s⟩ := p_Snap x m hm c1 c2
   rw [h1, Option.bind_some, if_neg (fun h => h c2), p_To21 x m hbd hm, Xn c1]
   simp only [Option.bind_some, Bool.not_true, cond_false]
   have hmt := meet_term x m c1
   by_cases c3 : x.tuple.term ≤ m.term
   ·rw [if_pos c3]
    have hT : (Xl x m).tuple.term = m.term := by
     rcases hmt with ⟨_, h, _⟩ | ⟨h, h2⟩
     ·exact h
     ·rw [h2]; dsimp only; omega
    have : d.tuple.term = m.term := by
     cases s with
     | old h => omega
     | lead h => exact hT
     | had h => exact hT
     | no h => exact hT
     | yes t h hr hi hs ht => show t.term = m.term; rw [(inst_parts _ _ _ hs).1]; exact hT
    rw [if_pos this]
   ·rw [if_neg c3]
    have hM : Xl x m = { x with caps := x.caps.set (m.frm - 1).toNat m.cap } := by
     rcases hmt with ⟨h, _⟩ | ⟨_, h2⟩
     ·omega
     ·exact h2
    have hT : (Xl x m).tuple.term = x.tuple.term := by rw [hM]
    cases s with
    | old h =>
     have hr : (Xl x m).role = x.role := by rw [hM]
     have hc : (Xl x m).commit = x.commit := by rw [hM]
     have e1 : (backM (Xl x m) m 4 false x.tuple.last).okk = false := rfl
     have e2 : (backM (Xl x m) m 4 false x.tuple.last).term = x.tuple.term := hT
     rw [if_pos (by simp)]
     simp only [idx_one, Option.bind_some, e1, e2, Bool.not_false, cond_true, if_true, hr, hc]
    | lead h => omega
    | had h => omega
    | no h => omega
    | yes t h => omega
  ·rw [p_Snap_no x m hbd hm c1, Option.bind_some]
   dsimp only
   rw [same]
   simp only [Option.bind_some, cond_true, List.length_nil]
   by_cases c2 : m.kind = 5
   ·rw [if_neg (fun h => h c2), p_To21 x m hbd hm, Yc (fun h => c1 ⟨h, c2⟩)]; rfl
   ·rw [if_pos c2]; rfl
 by_cases c : t = x.id
 ·rw [if_pos c, hno _ (fun h => h1 h.symm)]
  simp only [Option.bind_some, same, Bool.not_true, cond_false, List.length_nil]
  exact key
 ·rw [if_neg c, hno _ c]
  simp only [Option.bind_some, same, Bool.not_true, cond_false, List.length_nil]
  exact key
theorem p_At12 (t : Tu) (h : bdT t) (k : Nat) (e : En) (he : t.log[k]? = some e) : Jc t (t.snap.index + 1 + k) = some (e, true) := by
 obtain ⟨h1, h2, h3⟩ := h
 have hk := (List.getElem?_eq_some_iff.1 he).1
 simp only [Jc, Zft t ⟨h1, h2, h3⟩, Option.bind_some, Bool.cond_decide, if_neg (show ¬ t.snap.index + 1 + (k : Int) ≤ t.snap.index by omega), Tu.last, if_neg (show ¬ t.snap.index + (t.log.length : Int) < t.snap.index + 1 + (k : Int) by omega), Zbp (n := t.snap.index + 1 + (k : Int) - t.snap.index) (by omega), Zbp (n := t.snap.index + 1 + (k : Int) - t.snap.index - 1) (by omega), show t.snap.index + 1 + (k : Int) - t.snap.index - 1 = (k : Int) by omega, Zbp (n := (k : Int)) (by omega), Zan, he]
theorem p_At12_no (t : Tu) (i : Int) (h : bdT t) (hi : i ≤ t.snap.index ∨ t.last < i) : Jc t i = some (⟨0, 0, 0⟩, false) := by
 simp only [Jc, Zft t h, Option.bind_some, Bool.cond_decide]
 by_cases c : i ≤ t.snap.index
 ·rw [if_pos c]
 ·rw [if_neg c, if_pos (by omega)]
structure Tail (x y : Tu) (i : Int) : Prop where
 bx : bdT x
 bY : bdT y
 lo : x.snap.index ≤ i
 eq : y.snap.index = i
 log : y.log = x.log.drop (i - x.snap.index).toNat
 le : i ≤ x.last
theorem Tail.last {x y : Tu} {i : Int} (h : Tail x y i) : y.last = x.last := by
 have := h.le
 have h1 := h.lo
 unfold Tu.last at *
 rw [h.log, List.length_drop, h.eq]
 omega
theorem Tail.at_ {x y : Tu} {i : Int} (h : Tail x y i) (k : Nat) (hk : i + 1 + k ≤ x.last) : ∃ e, Jc x (i + 1 + k) = some (e, true) ∧ Jc y (i + 1 + k) = some (e, true) := by
 have h1 := h.lo
 have hb := h.bx.2
 have hl : x.last = x.snap.index + x.log.length := rfl
 obtain ⟨q, hq⟩ : ∃ q : Nat, i = x.snap.index + (q : Int) := ⟨(i - x.snap.index).toNat, by omega⟩
 obtain ⟨e, he, _⟩ := Xw (show q + k < x.log.length by omega)
 refine ⟨e, ?_, ?_⟩
 ·have := p_At12 x h.bx (q + k) e he
  rw [show i + 1 + (k : Int) = x.snap.index + 1 + ((q + k : Nat) : Int) by omega]
  exact this
 ·have hy : y.log[k]? = some e := by
   rw [h.log, List.getElem?_drop, show (i - x.snap.index).toNat = q by omega]; exact he
  have := p_At12 y h.bY k e hy
  rw [h.eq] at this
  exact this
theorem tail_loop (L : Nat → Bool → Int → Option Bool) (x y : Tu) (i : Int) (h : Tail x y i)
  (h0 : ∀ n v j, ¬ j ≤ x.last → L (n + 1) v j = some true)
  (h1 : ∀ n v j e, j ≤ x.last → Jc x j = some (e, true) → Jc y j = some (e, true) → L (n + 1) v j = L n v (IntKind.wrap .i64 (j + 1))) :
  ∀ (q k n : Nat) (v : Bool), (q : Int) = x.last - (i + k) → q < n → L n v (i + 1 + k) = some true := by
 have hlb := last_bd h.bx
 have hlo := h.lo
 have hbx := h.bx.2
 intro q
 induction q with
 | zero =>
  intro k n v hq hn
  obtain ⟨n, rfl⟩ : ∃ n', n = n' + 1 := ⟨n - 1, by omega⟩
  exact h0 n v _ (by omega)
 | succ q ih =>
  intro k n v hq hn
  obtain ⟨n, rfl⟩ : ∃ n', n = n' + 1 := ⟨n - 1, by omega⟩
  obtain ⟨e, g1, g2⟩ := h.at_ k (by omega)
  rw [h1 n v _ e (by omega) g1 g2, Zbp (n := i + 1 + (k : Int) + 1) (by omega), show i + 1 + (k : Int) + 1 = i + 1 + ((k + 1 : Nat) : Int) by omega]
  exact ih (k + 1) n v (by omega) (by omega)
end Go.Proofs.Ytenagnncpaabdaa
