/- Texts of one claim put together. -/
import Derived.Test.YtamjlcaoieliaaaGreatMr2
import Derived.Test.YtamjlcaoieliaaaGreatMr5
namespace Go.Proofs.YtamjlcaoieliaaaGreat

section
open Go Go.RowKit
set_option maxRecDepth 100000
theorem p_number (x : Int) : Jh x = some (numB x) := by
 unfold Jh numB
 by_cases h : 0 ≤ x <;> simp [h]
theorem p_Fine (x : St) : V4 x = some (Za7 x) := by
 obtain ⟨i, t, s, l, f⟩ := x
 simp only [V4, Zaj, p_number, Option.bind_some, Za7, firstS, numB, St.mk.injEq, Bool.cond_not, Bool.cond_decide]
 cases f <;> (repeat' split) <;> simp_all <;> omega
theorem p_Right (x : En) : Za4 x = some (J1 x) := by
 obtain ⟨t, k, v⟩ := x
 simp only [Za4, p_number, Option.bind_some, J1, numB, Bool.cond_not, Bool.cond_decide]
 (repeat' split) <;> (refine congrArg some ?_; rw [Bool.eq_iff_iff]; simp only [decide_eq_true_eq, true_iff, Bool.false_eq_true, false_iff]; omega)
theorem p_Right12_l1 (x : Tu) (hl : x.log.length ≤ 1000000) : ∀ (m k n : Nat) (b : Bool) (t : Int), m = x.log.length - k → k ≤ x.log.length → m < n →
  Js x n b t k = some (Zdd t (x.log.drop k) && decide (Zbx t (x.log.drop k) ≤ x.term ∧ 0 ≤ x.term ∧ x.term ≤ 1073741824)) := by
 intro m
 induction m with
 | zero =>
  intro k n b t hm hk hn
  obtain ⟨n, rfl⟩ : ∃ n', n = n' + 1 := ⟨n - 1, by omega⟩
  have hkl : k = x.log.length := by omega
  have hd : x.log.drop k = [] := List.drop_eq_nil_of_le (by omega)
  rw [Js, hd]
  simp only [Zdd, Bool.cond_decide, if_neg (show ¬ ((k : Int) < (x.log.length : Int)) by omega), Bool.true_and]
  (repeat' split) <;> (refine congrArg some ?_; rw [Bool.eq_iff_iff]; simp only [decide_eq_true_eq, true_iff, Bool.false_eq_true, false_iff]; simp only [Zbx]; omega)
 | succ m ih =>
  intro k n b t hm hk hn
  obtain ⟨n, rfl⟩ : ∃ n', n = n' + 1 := ⟨n - 1, by omega⟩
  obtain ⟨e, he, hd⟩ := Xi (show k < x.log.length by omega)
  have hi := ih (k + 1) n b e.term (by omega) (by omega) (by omega)
  rw [Js, hd]
  simp only [Bool.cond_decide, if_pos (show ((k : Int) < (x.log.length : Int)) by omega), J5, he, Option.bind_some, p_Right, Bool.cond_not, Zdd, Zbx]
  rw [Zah (by omega), show ((k : Int) + 1) = ((k + 1 : Nat) : Int) by omega, hi]
  cases hr : J1 e with
  | false => rfl
  | true =>
   simp only [cond_true, Bool.true_and]
   by_cases h : e.term < t
   ·rw [if_pos h, decide_eq_false (show ¬ (t ≤ e.term) by omega)]; rfl
   ·rw [if_neg h, decide_eq_true (show t ≤ e.term by omega)]; rfl
theorem p_Right12 (x : Tu) : Zc5 x = some (Jm x) := by
 have key : Jm x = (Za7 x.snap && decide (x.snap.index ≤ 1073740824 ∧ x.log.length ≤ 200 ∧ 0 ≤ x.vote ∧ x.vote ≤ 5) && (Zdd x.snap.term x.log && decide (Zbx x.snap.term x.log ≤ x.term ∧ 0 ≤ x.term ∧ x.term ≤ 1073741824))) := by
  rw [Bool.eq_iff_iff]
  unfold Jm
  simp only [Bool.and_eq_true, decide_eq_true_eq]
  constructor
  ·rintro ⟨⟨⟨h1, h2⟩, h3⟩, h4⟩
   have h5 := lastT_mono _ _ h3
   have h6 : 0 ≤ x.snap.term := by
    rcases (Zcg _).1 h1 with h | h
    ·rw [h]; decide
    ·omega
   exact ⟨⟨h1, by omega⟩, h3, by omega⟩
  ·rintro ⟨⟨h1, h2⟩, h3, h4⟩
   exact ⟨⟨⟨h1, by omega⟩, h3⟩, by omega⟩
 rw [key]
 simp only [Zc5, p_Fine, Option.bind_some, Bool.cond_not, Bool.cond_decide]
 cases hf : Za7 x.snap with
 | false => rfl
 | true =>
  simp only [cond_true, Bool.true_and]
  by_cases h1 : x.snap.index ≤ 1073740824 ∧ x.log.length ≤ 200 ∧ 0 ≤ x.vote ∧ x.vote ≤ 5
  ·rw [if_neg (by omega), if_neg (by omega), if_neg (by omega), if_neg (by omega), decide_eq_true h1, Bool.true_and]
   have := p_Right12_l1 x (by omega) x.log.length 0 Xo false x.snap.term (by omega) (by omega) (by unfold Xo; omega)
   exact this
  ·rw [decide_eq_false h1, Bool.false_and]
   (repeat' split) <;> first | rfl | (exfalso; omega)
theorem p_Same_l1 (a b : List En) (hl : a.length ≤ 1000000) (hab : a.length = b.length) : ∀ (m k n : Nat) (v : Bool), m = a.length - k → k ≤ a.length → m < n → J8 a b n v k = some (decide (a.drop k = b.drop k)) := by
 intro m
 induction m with
 | zero =>
  intro k n v hm hk hn
  obtain ⟨n, rfl⟩ : ∃ n', n = n' + 1 := ⟨n - 1, by omega⟩
  rw [J8, List.drop_eq_nil_of_le (by omega), List.drop_eq_nil_of_le (by omega)]
  simp only [Bool.cond_decide, if_neg (show ¬ ((k : Int) < (a.length : Int)) by omega)]
  rfl
 | succ m ih =>
  intro k n v hm hk hn
  obtain ⟨n, rfl⟩ : ∃ n', n = n' + 1 := ⟨n - 1, by omega⟩
  obtain ⟨e, he, hd⟩ := Xi (show k < a.length by omega)
  obtain ⟨f, hf, hd2⟩ := Xi (show k < b.length by omega)
  rw [J8, hd, hd2]
  simp only [Bool.cond_decide, if_pos (show ((k : Int) < (a.length : Int)) by omega), J5, he, hf, Option.bind_some, en_eq, Bool.cond_not]
  rw [Zah (by omega), show ((k : Int) + 1) = ((k + 1 : Nat) : Int) by omega, ih (k + 1) n v (by omega) (by omega) (by omega)]
  by_cases h : e = f
  ·subst h; rw [if_pos rfl]; congr 1; rw [Bool.eq_iff_iff]; simp
  ·rw [if_neg h]; congr 1; rw [Bool.eq_iff_iff]; simp [h]
theorem p_Same (a b : List En) (hl : a.length ≤ 1000000) : Zbm a b = some (decide (a = b)) := by
 unfold Zbm
 by_cases h : a.length = b.length
 ·simp only [Bool.cond_decide, if_neg (show ¬ ((a.length : Int) ≠ (b.length : Int)) by omega)]
  have := p_Same_l1 a b hl h a.length 0 Xo false (by omega) (by omega) (by unfold Xo; omega)
  simpa using this
 ·simp only [Bool.cond_decide, if_pos (show ((a.length : Int) ≠ (b.length : Int)) by omega)]
  rw [decide_eq_false (fun h' => h (by rw [h']))]
theorem p_Same12 (x y : Tu) (hl : x.log.length ≤ 1000000) : Zds x y = some (decide (x = y)) := by
 obtain ⟨s, l, t, v⟩ := x; obtain ⟨s2, l2, t2, v2⟩ := y
 simp only [Zds, snap_eq, p_Same l l2 hl, Option.bind_some, Bool.cond_decide, Tu.mk.injEq]
 by_cases h1 : s = s2 <;> by_cases h2 : t = t2 <;> by_cases h3 : v = v2 <;> simp [h1, h2, h3]
def bdT (x : Tu) : Prop := x.log.length ≤ 1000000 ∧ -2000000000000 ≤ x.snap.index ∧ x.snap.index ≤ 2000000000000
theorem q_Right (x : Tu) (h : bdT x) : Zc0 x = some (Jm x) := by unfold Zc0; rw [okT_iff.2 h]; rfl
theorem q_State_yes (x : Tu) (k : Nat) (h : bdT x) (hk : k ≤ x.log.length) : Xs x (x.snap.index + k) = some (allS x.snap (x.log.take k), true) := by
 unfold Xs
 rw [okT_iff.2 h, decide_eq_true (by omega)]
 have : (x.snap.index + (k : Int) - x.snap.index).toNat = k := by omega
 rw [this]; rfl
theorem q_State_no (x : Tu) (i : Int) (h : bdT x) (hi : i < x.snap.index ∨ x.snap.index + x.log.length < i) : Xs x i = some (⟨0, 0, 0, 0, false⟩, false) := by
 unfold Xs
 rw [okT_iff.2 h, decide_eq_false (by omega)]; rfl
theorem p_tLast (x : Tu) (h : bdT x) : Zae x = some x.last := by unfold Zae Tu.last; obtain ⟨h1, h2, h3⟩ := h; rw [Zah (by omega)]
theorem p_Own12 (x : Tu) (h : x.log.length ≤ 1000000) : Zdl x = some x := by
 unfold Zdl
 rw [List.nil_append, Zdq _ (by omega)]; rfl
theorem Zgr (x : Tu) (h : bdT x) : Jw x = some x.last := p_tLast x h
theorem p_Next (s : St) (e : En) : Zco s e = some (Zbc s e) := by
 simp only [Zco, p_Right, p_Fine, Option.bind_some]
 by_cases hc : J1 e = true ∧ Za7 s = true ∧ s.index < 1073741824
 ·obtain ⟨hr, hf, hi⟩ := hc
  have hn : Zbc s e = Zdr e.kind e.value { s with index := s.index + 1, term := e.term } := by unfold Zbc; rw [if_pos ⟨hr, hf, hi⟩]
  have hb : 0 ≤ s.index ∧ 0 ≤ s.sum ∧ s.sum ≤ 1073741824 := by
   rcases (Zcg s).1 hf with h | h
   ·rw [h]; decide
   ·omega
  have hv : 0 ≤ e.value ∧ e.value ≤ 1073741824 := by
   unfold J1 at hr; simp only [decide_eq_true_eq] at hr; omega
  have w0 : IntKind.wrap .i64 (s.index + 1) = s.index + 1 := Zah (by omega)
  have w1 : IntKind.wrap .i64 (31 * s.sum) = 31 * s.sum := Zah (by omega)
  have w2 : IntKind.wrap .i64 (31 * s.sum + e.value) = 31 * s.sum + e.value := Zah (by omega)
  have w3 : IntKind.wrap .i64 (31 * s.sum + e.value + 1) = 31 * s.sum + e.value + 1 := Zah (by omega)
  rw [hn, hr, hf, w0, w1, w2, w3, Int.tmod_eq_emod_of_nonneg (by omega), decide_eq_false (show ¬ (1073741824 ≤ s.index) by omega)]
  simp only [Bool.not_true, cond_false, Bool.cond_decide]
  unfold Zdr
  by_cases k1 : e.kind = 1
  ·rw [if_pos k1, if_pos k1]
  ·rw [if_neg k1, if_neg k1]
   by_cases k2 : e.kind = 2
   ·rw [if_pos k2, if_pos k2]
   ·rw [if_neg k2, if_neg k2]
    by_cases k3 : e.kind = 3
    ·rw [if_pos k3, if_pos k3]
     cases hF : s.final <;> rfl
    ·rw [if_neg k3, if_neg k3]
     by_cases k4 : e.kind = 4
     ·rw [if_pos k4, if_pos k4]
     ·rw [if_neg k4, if_neg k4]
 ·have hn : Zbc s e = s := by unfold Zbc; rw [if_neg hc]
  rw [hn]
  cases hr : J1 e with
  | false => rfl
  | true =>
   cases hf : Za7 s with
   | false => rfl
   | true =>
    rw [decide_eq_true (show 1073741824 ≤ s.index by
     have : ¬ (s.index < 1073741824) := fun h => hc ⟨hr, hf, h⟩
     omega)]
    rfl
theorem p_All_l1 (l : List En) (hl : l.length ≤ 1000000) : ∀ (m k n : Nat) (s : St), m = l.length - k → k ≤ l.length → m < n → Zao l n k s.index s.term s.sum s.level s.final = some (allS s (l.drop k)) := by
 intro m
 induction m with
 | zero =>
  intro k n s hm hk hn
  obtain ⟨n, rfl⟩ : ∃ n', n = n' + 1 := ⟨n - 1, by omega⟩
  rw [Zao, List.drop_eq_nil_of_le (by omega)]
  simp only [Bool.cond_decide, if_neg (show ¬ ((k : Int) < (l.length : Int)) by omega)]
  rfl
 | succ m ih =>
  intro k n s hm hk hn
  obtain ⟨n, rfl⟩ : ∃ n', n = n' + 1 := ⟨n - 1, by omega⟩
  obtain ⟨e, he, hd⟩ := Xi (show k < l.length by omega)
  rw [Zao, hd]
  simp only [Bool.cond_decide, if_pos (show ((k : Int) < (l.length : Int)) by omega), J5, he, Option.bind_some]
  have : Zco ⟨s.index, s.term, s.sum, s.level, s.final⟩ e = some (Zbc s e) := p_Next s e
  rw [this, Option.bind_some, Zah (by omega), show ((k : Int) + 1) = ((k + 1 : Nat) : Int) by omega, ih (k + 1) n (Zbc s e) (by omega) (by omega) (by omega)]
  rfl
theorem p_All (s : St) (l : List En) (hl : l.length ≤ 1000000) : Zf9 s l = some (allS s l) := p_All_l1 l hl l.length 0 Xo s (by omega) (by omega) (by unfold Xo; omega)
theorem p_State12 (x : Tu) (i : Int) (h : bdT x) : Zbt x i = Xs x i := by
 have h1 := h.1
 have h2 := h.2
 unfold Zbt
 rw [Zgr x h]
 simp only [Option.bind_some, Bool.cond_decide, Tu.last]
 by_cases h3 : i < x.snap.index
 ·rw [if_pos h3, q_State_no x i h (.inl h3)]
 ·rw [if_neg h3]
  by_cases h4 : x.snap.index + (x.log.length : Int) < i
  ·rw [if_pos h4, q_State_no x i h (.inr h4)]
  ·rw [if_neg h4]
   obtain ⟨k, hk⟩ : ∃ k : Nat, i = x.snap.index + (k : Int) := ⟨(i - x.snap.index).toNat, by omega⟩
   have w1 : IntKind.wrap .i64 (i - x.snap.index) = (k : Int) := by rw [Zah (by omega)]; omega
   rw [w1, takeI_nat _ _ (by omega), Option.bind_some, p_All _ _ (by rw [List.length_take]; omega), hk, q_State_yes x k h (by omega)]
   rfl
end
section
open Go Go.RowKit
set_option maxRecDepth 100000
noncomputable def Zgs (p : Prop) : Bool := @decide p (Classical.propDecidable p)
theorem Xu {p : Prop} (h : p) : Zgs p = true := @decide_eq_true p (Classical.propDecidable p) h
theorem Yg {p : Prop} (h : ¬ p) : Zgs p = false := @decide_eq_false p (Classical.propDecidable p) h
theorem Vw {p q : Prop} (h : p ↔ q) : Zgs p = Zgs q := by rw [propext h]
theorem Zd1 {p : Prop} [Decidable p] : decide p = Zgs p := by
 by_cases h : p
 ·rw [Xu h, decide_eq_true h]
 ·rw [Yg h, decide_eq_false h]
def InB (l : List Int) (lo hi : Int) : Prop := ∀ x ∈ l, lo ≤ x ∧ x ≤ hi
theorem Ze7 {lo hi : Int} : InB [] lo hi := fun _ h => by cases h
theorem InB_cons {x : Int} {l : List Int} {lo hi : Int} : InB (x :: l) lo hi ↔ (lo ≤ x ∧ x ≤ hi) ∧ InB l lo hi := by
 unfold InB
 constructor
 ·intro h; exact ⟨h x (by simp), fun y hy => h y (by simp [hy])⟩
 ·rintro ⟨h1, h2⟩ y hy
  rcases List.mem_cons.1 hy with rfl | hy
  ·exact h1
  ·exact h2 y hy
theorem InB.get {l : List Int} {lo hi : Int} (h : InB l lo hi) {i : Nat} {x : Int} (hx : l[i]? = some x) : lo ≤ x ∧ x ≤ hi := h x (List.mem_of_getElem? hx)
theorem InB.set {l : List Int} {lo hi : Int} (h : InB l lo hi) {i : Nat} {x : Int} (hx : lo ≤ x ∧ x ≤ hi) : InB (l.set i x) lo hi := fun y hy => by
 rcases List.mem_or_eq_of_mem_set hy with h1 | rfl
 ·exact h y h1
 ·exact hx
theorem p_within (x lo hi : Int) : Vx x lo hi = some (Zgs (lo ≤ x ∧ x ≤ hi)) := by
 unfold Vx
 rw [Bool.cond_decide]
 by_cases h : lo ≤ x
 ·rw [if_pos h, Zd1]; congr 1; exact Vw ⟨fun h2 => ⟨h, h2⟩, fun h2 => h2.2⟩
 ·rw [if_neg h, Yg (fun h2 => h h2.1)]
theorem p_each_l1 (l : List Int) (lo hi : Int) (hl : l.length ≤ 1000000) : ∀ (m k n : Nat) (v : Int), m = l.length - k → k ≤ l.length → m < n → Za5 l lo hi n v k = some (Zgs (InB (l.drop k) lo hi)) := by
 intro m
 induction m with
 | zero =>
  intro k n v hm hk hn
  obtain ⟨n, rfl⟩ : ∃ n', n = n' + 1 := ⟨n - 1, by omega⟩
  rw [Za5, List.drop_eq_nil_of_le (by omega), Xu Ze7]
  simp only [Bool.cond_decide, if_neg (show ¬ ((k : Int) < (l.length : Int)) by omega)]
  rfl
 | succ m ih =>
  intro k n v hm hk hn
  obtain ⟨n, rfl⟩ : ∃ n', n = n' + 1 := ⟨n - 1, by omega⟩
  obtain ⟨e, he, hd⟩ := Xi (show k < l.length by omega)
  rw [Za5, hd]
  simp only [Bool.cond_decide, if_pos (show ((k : Int) < (l.length : Int)) by omega), J5, he, Option.bind_some, p_within]
  rw [Zah (by omega), show ((k : Int) + 1) = ((k + 1 : Nat) : Int) by omega, ih (k + 1) n v (by omega) (by omega) (by omega)]
  by_cases h : lo ≤ e ∧ e ≤ hi
  ·rw [Xu h]; show some _ = _; congr 1; exact Vw ⟨fun h2 => InB_cons.2 ⟨h, h2⟩, fun h2 => (InB_cons.1 h2).2⟩
  ·rw [Yg h, Yg (fun h2 => h (InB_cons.1 h2).1), decide_eq_true (show (0 : Int) ≤ (k : Int) by omega)]; rfl
theorem p_each (l : List Int) (n lo hi : Int) (hl : l.length ≤ 1000000) : Zbk l n lo hi = some (Zgs ((l.length : Int) = n ∧ InB l lo hi)) := by
 unfold Zbk
 rw [Bool.cond_decide]
 by_cases h : (l.length : Int) = n
 ·rw [if_pos h]
  have := p_each_l1 l lo hi hl l.length 0 Xo 0 (by omega) (by omega) (by unfold Xo; omega)
  rw [show ((0 : Nat) : Int) = 0 from rfl] at this
  rw [this, List.drop_zero]
  congr 1; exact Vw ⟨fun h2 => ⟨h, h2⟩, fun h2 => h2.2⟩
 ·rw [if_neg h, Yg (fun h2 => h h2.1)]
theorem p_eRight (e : En) : Zge e = some (J1 e) := rfl
def stOf (t : Tu) (i : Int) : Option St := if t.snap.index ≤ i ∧ i ≤ t.last then some (allS t.snap (t.log.take (i - t.snap.index).toNat)) else none
theorem q_State (x : Tu) (i : Int) (h : bdT x) : Xs x i = some ((stOf x i).getD ⟨0, 0, 0, 0, false⟩, (stOf x i).isSome) := by
 unfold stOf Tu.last
 by_cases hi : x.snap.index ≤ i ∧ i ≤ x.snap.index + x.log.length
 ·rw [if_pos hi]
  obtain ⟨k, hk⟩ : ∃ k : Nat, i = x.snap.index + (k : Int) := ⟨(i - x.snap.index).toNat, by omega⟩
  rw [hk, q_State_yes x k h (by omega), show (x.snap.index + (k : Int) - x.snap.index).toNat = k by omega]
  rfl
 ·rw [if_neg hi, q_State_no x i h (by omega)]; rfl
structure RightC (x : Co) : Prop where
 n : 1 ≤ x.n ∧ x.n ≤ 5
 id : 1 ≤ x.id ∧ x.id ≤ x.n
 role : x.role ≤ 2
 bin : 1 ≤ x.binary ∧ x.binary ≤ 2
 tup : Jm x.tuple = true
 st : stOf x.tuple x.commit = some x.applied
 lv : (x.votes.length : Int) = x.n
 ln : (x.next.length : Int) = x.n
 lm : (x.mtch.length : Int) = x.n
 lc : (x.caps.length : Int) = x.n
 next : InB x.next 1 (x.tuple.last + 1)
 mtch : InB x.mtch 0 x.tuple.last
 caps : InB x.caps 0 2
 own : x.caps[(x.id - 1).toNat]? = some x.binary
 lead : x.role = 0 ∨ (0 < x.tuple.term ∧ x.tuple.vote = x.id)
noncomputable def Zee (x : Co) : Bool := Zgs (RightC x)
structure BdC (x : Co) : Prop where
 tup : bdT x.tuple
 lv : x.votes.length ≤ 1000000
 ln : x.next.length ≤ 1000000
 lm : x.mtch.length ≤ 1000000
 lc : x.caps.length ≤ 1000000
theorem own_get (x : Co) (h1 : 1 ≤ x.n ∧ x.n ≤ 5) (h2 : 1 ≤ x.id ∧ x.id ≤ x.n) (h3 : (x.caps.length : Int) = x.n) : ∃ e, idx x.caps (IntKind.wrap .i64 (x.id - 1)) = some e ∧ x.caps[(x.id - 1).toNat]? = some e := by
 have hw : IntKind.wrap .i64 (x.id - 1) = (((x.id - 1).toNat : Nat) : Int) := by rw [Zah (by omega)]; omega
 obtain ⟨e, he, _⟩ := Xi (show (x.id - 1).toNat < x.caps.length by omega)
 exact ⟨e, by rw [hw, J5, he], he⟩
theorem last_bd {t : Tu} (h : bdT t) : -3000000000000 ≤ t.last ∧ t.last ≤ 3000000000000 := by
 obtain ⟨h1, h2, h3⟩ := h
 unfold Tu.last; omega
theorem p_mRight (x : Co) (h : BdC x) : Zbh x = some (Zee x) := by
 have hlb := last_bd h.tup
 have hw : IntKind.wrap .i64 (x.tuple.last + 1) = x.tuple.last + 1 := Zah (by omega)
 simp only [Zbh, p_tLast x.tuple h.tup, p_within, q_Right x.tuple h.tup, q_State x.tuple x.commit h.tup, p_each x.next _ _ _ h.ln, p_each x.mtch _ _ _ h.lm, p_each x.caps _ _ _ h.lc, Option.bind_some, hw, snap_eq]
 unfold Zee
 by_cases c1 : 1 ≤ x.n ∧ x.n ≤ 5
 case neg => rw [Yg c1, Yg (p := RightC x) fun h => c1 h.n]; rfl
 by_cases c2 : 1 ≤ x.id ∧ x.id ≤ x.n
 case neg => rw [Xu c1, Yg c2, Yg (p := RightC x) fun h => c2 h.id]; rfl
 by_cases c3 : x.role ≤ 2
 case neg => rw [Xu c1, Xu c2, decide_eq_false c3, Yg (p := RightC x) fun h => c3 h.role]; rfl
 by_cases c4 : 1 ≤ x.binary ∧ x.binary ≤ 2
 case neg => rw [Xu c1, Xu c2, decide_eq_true c3, Yg c4, Yg (p := RightC x) fun h => c4 h.bin]; rfl
 rw [Xu c1, Xu c2, decide_eq_true c3, Xu c4]
 simp only [cond_true, Bool.not_true, cond_false]
 cases c5 : Jm x.tuple
 case false => rw [Yg (p := RightC x) fun h => by have h2 := h.tup; rw [c5] at h2; cases h2]; rfl
 simp only [cond_true, Bool.not_true, cond_false]
 cases c6 : stOf x.tuple x.commit with
 | none => rw [Yg (p := RightC x) fun h => by rw [h.st] at c6; cases c6]; rfl
 | some s =>
  simp only [Option.isSome_some, Option.getD_some, cond_true]
  by_cases c7 : s = x.applied
  case neg => rw [decide_eq_false c7, Yg (p := RightC x) fun h => c7 (by have := h.st; rw [c6] at this; exact QJ this)]; rfl
  rw [decide_eq_true c7]
  simp only [cond_true, Bool.not_true, cond_false]
  by_cases c8 : (x.votes.length : Int) = x.n
  case neg => rw [decide_eq_false c8, Yg (p := RightC x) fun h => c8 h.lv]; rfl
  by_cases c9 : (x.next.length : Int) = x.n ∧ InB x.next 1 (x.tuple.last + 1)
  case neg => rw [decide_eq_true c8, Yg c9, Yg (p := RightC x) fun h => c9 ⟨h.ln, h.next⟩]; rfl
  by_cases c10 : (x.mtch.length : Int) = x.n ∧ InB x.mtch 0 x.tuple.last
  case neg => rw [decide_eq_true c8, Xu c9, Yg c10, Yg (p := RightC x) fun h => c10 ⟨h.lm, h.mtch⟩]; rfl
  by_cases c11 : (x.caps.length : Int) = x.n ∧ InB x.caps 0 2
  case neg => rw [decide_eq_true c8, Xu c9, Xu c10, Yg c11, Yg (p := RightC x) fun h => c11 ⟨h.lc, h.caps⟩]; rfl
  rw [decide_eq_true c8, Xu c9, Xu c10, Xu c11]
  obtain ⟨e, he, he2⟩ := own_get x c1 c2 c11.1
  simp only [cond_true, Bool.not_true, cond_false, Option.bind_some, he]
  by_cases c12 : e = x.binary
  case neg => rw [decide_eq_false c12, Yg (p := RightC x) fun h => c12 (by have := h.own; rw [he2] at this; exact QJ this)]; rfl
  rw [decide_eq_true c12]
  simp only [cond_true, Bool.not_true, cond_false, Bool.cond_decide]
  subst c12
  subst c7
  by_cases c13 : x.role = 0
  ·rw [if_pos c13, Xu (p := RightC x) ⟨c1, c2, c3, c4, c5, c6, c8, c9.1, c10.1, c11.1, c9.2, c10.2, c11.2, he2, .inl c13⟩]
  ·rw [if_neg c13]
   by_cases c14 : 0 < x.tuple.term
   ·rw [if_pos c14]
    by_cases c15 : x.tuple.vote = x.id
    ·rw [decide_eq_true c15, Xu (p := RightC x) ⟨c1, c2, c3, c4, c5, c6, c8, c9.1, c10.1, c11.1, c9.2, c10.2, c11.2, he2, .inr ⟨c14, c15⟩⟩]; rfl
    ·rw [decide_eq_false c15, Yg (p := RightC x) fun h => by rcases h.lead with h | h; exact c13 h; exact c15 h.2]; rfl
   ·rw [if_neg c14, Yg (p := RightC x) fun h => by rcases h.lead with h | h; exact c13 h; exact c14 h.1]
theorem p_Own20 (x : Co) (h : BdC x) : Zeu x = some x := by
 have h1 := h.tup.1
 have h2 := h.lv
 have h3 := h.ln
 have h4 := h.lm
 have h5 := h.lc
 simp only [Zeu, p_Own12 _ h1, List.nil_append, Option.bind_some, Zdq _ (show x.votes.length ≤ 1000000000 by omega), Zdq _ (show x.next.length ≤ 1000000000 by omega), Zdq _ (show x.mtch.length ≤ 1000000000 by omega), Zdq _ (show x.caps.length ≤ 1000000000 by omega)]
theorem p_mOwn (x : Co) (h : BdC x) : Zbe x = some x := by
 have h1 := h.tup.1
 have h2 := h.lv
 have h3 := h.ln
 have h4 := h.lm
 have h5 := h.lc
 simp only [Zbe, Zgd, Ve, V9, Vn, Option.bind_some, Zdq _ (show x.tuple.log.length ≤ 1000000000 by omega), Zdq _ (show x.votes.length ≤ 1000000000 by omega), Zdq _ (show x.next.length ≤ 1000000000 by omega), Zdq _ (show x.mtch.length ≤ 1000000000 by omega), Zdq _ (show x.caps.length ≤ 1000000000 by omega)]
theorem p_ints_l1 (a b : List Int) (hl : a.length ≤ 1000000) (hab : a.length = b.length) : ∀ (m k n : Nat) (v : Bool), m = a.length - k → k ≤ a.length → m < n → Zab a b n v k = some (decide (a.drop k = b.drop k)) := by
 intro m
 induction m with
 | zero =>
  intro k n v hm hk hn
  obtain ⟨n, rfl⟩ : ∃ n', n = n' + 1 := ⟨n - 1, by omega⟩
  rw [Zab, List.drop_eq_nil_of_le (by omega), List.drop_eq_nil_of_le (by omega)]
  simp only [Bool.cond_decide, if_neg (show ¬ ((k : Int) < (a.length : Int)) by omega)]
  rfl
 | succ m ih =>
  intro k n v hm hk hn
  obtain ⟨n, rfl⟩ : ∃ n', n = n' + 1 := ⟨n - 1, by omega⟩
  obtain ⟨e, he, hd⟩ := Xi (show k < a.length by omega)
  obtain ⟨f, hf, hd2⟩ := Xi (show k < b.length by omega)
  rw [Zab, hd, hd2]
  simp only [Bool.cond_decide, if_pos (show ((k : Int) < (a.length : Int)) by omega), J5, he, hf, Option.bind_some]
  rw [Zah (by omega), show ((k : Int) + 1) = ((k + 1 : Nat) : Int) by omega, ih (k + 1) n v (by omega) (by omega) (by omega)]
  by_cases h : e = f
  ·subst h; rw [if_neg (fun h => h rfl)]; congr 1; rw [Bool.eq_iff_iff]; simp
  ·rw [if_pos h]; congr 1; rw [Bool.eq_iff_iff]; simp [h]
theorem p_ints (a b : List Int) (hl : a.length ≤ 1000000) : Zbl a b = some (decide (a = b)) := by
 unfold Zbl
 by_cases h : a.length = b.length
 ·simp only [Bool.cond_decide, if_neg (show ¬ ((a.length : Int) ≠ (b.length : Int)) by omega)]
  have := p_ints_l1 a b hl h a.length 0 Xo false (by omega) (by omega) (by unfold Xo; omega)
  simpa using this
 ·simp only [Bool.cond_decide, if_pos (show ((a.length : Int) ≠ (b.length : Int)) by omega)]
  rw [decide_eq_false (fun h' => h (by rw [h']))]
theorem p_Same20_l1 (x y : Co) (h : BdC x) (hab : x.votes.length = y.votes.length) : ∀ (m k n : Nat) (v : Bool), m = x.votes.length - k → k ≤ x.votes.length → m < n → J9 x y n v k = some (decide (x.votes.drop k = y.votes.drop k ∧ x.next = y.next ∧ x.mtch = y.mtch ∧ x.caps = y.caps)) := by
 have hv := h.lv
 intro m
 induction m with
 | zero =>
  intro k n v hm hk hn
  obtain ⟨n, rfl⟩ : ∃ n', n = n' + 1 := ⟨n - 1, by omega⟩
  rw [J9, List.drop_eq_nil_of_le (by omega), List.drop_eq_nil_of_le (by omega)]
  simp only [Bool.cond_decide, if_neg (show ¬ ((k : Int) < (x.votes.length : Int)) by omega), p_ints _ _ h.ln, p_ints _ _ h.lm, p_ints _ _ h.lc, Option.bind_some]
  (repeat' split) <;> (congr 1; rw [Bool.eq_iff_iff]; simp_all)
 | succ m ih =>
  intro k n v hm hk hn
  obtain ⟨n, rfl⟩ : ∃ n', n = n' + 1 := ⟨n - 1, by omega⟩
  obtain ⟨e, he, hd⟩ := Xi (show k < x.votes.length by omega)
  obtain ⟨f, hf, hd2⟩ := Xi (show k < y.votes.length by omega)
  rw [J9, hd, hd2]
  simp only [Bool.cond_decide, if_pos (show ((k : Int) < (x.votes.length : Int)) by omega), J5, he, hf, Option.bind_some]
  rw [Zah (by omega), show ((k : Int) + 1) = ((k + 1 : Nat) : Int) by omega, ih (k + 1) n v (by omega) (by omega) (by omega)]
  by_cases h : e = f
  ·subst h; rw [if_neg (fun h => h rfl)]; congr 1; rw [Bool.eq_iff_iff]; simp
  ·rw [if_pos h]; congr 1; rw [Bool.eq_iff_iff]; simp [h]
theorem p_Same20 (x y : Co) (h : BdC x) : Zaz x y = some (decide (x = y)) := by
 have hv := h.lv
 obtain ⟨a1, a2, a3, a4, a5, a6, a7, a8, a9, a10, a11⟩ := x
 obtain ⟨b1, b2, b3, b4, b5, b6, b7, b8, b9, b10, b11⟩ := y
 simp only [Zaz, p_Same12 a5 b5 h.tup.1, snap_eq, Option.bind_some, Bool.cond_decide, Co.mk.injEq, Bool.cond_not]
 by_cases c1 : a1 = b1
 case neg => simp [c1]
 by_cases c2 : a2 = b2
 case neg => simp [c2]
 by_cases c3 : a3 = b3
 case neg => simp [c3]
 by_cases c4 : a4 = b4
 case neg => simp [c4]
 by_cases c5 : a5 = b5
 case neg => simp [c5]
 by_cases c6 : a6 = b6
 case neg => simp [c6]
 by_cases c7 : a7 = b7
 case neg => simp [c7]
 by_cases c8 : a8.length = b8.length
 case neg =>
  have : a8 ≠ b8 := fun h => c8 (by rw [h])
  simp [c8, this]
  intros; omega
 have := p_Same20_l1 ⟨a1, a2, a3, a4, a5, a6, a7, a8, a9, a10, a11⟩ ⟨b1, b2, b3, b4, b5, b6, b7, b8, b9, b10, b11⟩ h c8 a8.length 0 Xo false (by simp) (by omega) (by dsimp only at hv; unfold Xo; omega)
 dsimp only at this
 rw [show ((0 : Nat) : Int) = 0 from rfl] at this
 rw [this]
 subst c1; subst c2; subst c3; subst c4; subst c5; subst c6; subst c7
 simp [c8]
theorem p_Great_no (x : Co) (h : Za3 x = some false) : BdC x ∧ x.votes.length ≤ 9 ∧ x.next.length ≤ 9 ∧ x.mtch.length ≤ 9 ∧ x.caps.length ≤ 9 ∧ x.tuple.log.length ≤ 250 := by
 unfold Za3 Zc1 at h
 simp only [Option.bind_some, Bool.cond_decide] at h
 repeat' split at h
 all_goals first | (cases h; done) | skip
 simp only [Option.some.injEq, decide_eq_false_iff_not] at h
 refine ⟨⟨⟨by omega, by omega, by omega⟩, by omega, by omega, by omega, by omega⟩, by omega, by omega, by omega, by omega, by omega⟩
theorem p_Great_some (x : Co) : ∃ b, Za3 x = some b := by
 unfold Za3 Zc1
 simp only [Option.bind_some, Bool.cond_decide]
 repeat' split
 all_goals exact ⟨_, rfl⟩
theorem RightC.bd {x : Co} (h : RightC x) : BdC x := by
 have h1 := Zeh _ h.tup
 have := h.n
 have := h.lv
 have := h.ln
 have := h.lm
 have := h.lc
 exact ⟨⟨by omega, h1.1, by omega⟩, by omega, by omega, by omega, by omega⟩
theorem p_State12' (x : Tu) (i : Int) (h : bdT x) : Zbt x i = some ((stOf x i).getD ⟨0, 0, 0, 0, false⟩, (stOf x i).isSome) := by rw [p_State12 x i h, q_State x i h]
theorem p_Right20_l1 (x : Co) (hn : 1 ≤ x.n ∧ x.n ≤ 5) (hi : 1 ≤ x.id ∧ x.id ≤ x.n) (h2 : (x.next.length : Int) = x.n) (h3 : (x.mtch.length : Int) = x.n) (h4 : (x.caps.length : Int) = x.n) (hb : bdT x.tuple) : ∀ (m k n : Nat) (b : Bool), m = x.caps.length - k → k ≤ x.caps.length → m < n →
  Jo x x.tuple.last n b k = some (Zgs (InB (x.next.drop k) 1 (x.tuple.last + 1) ∧ InB (x.mtch.drop k) 0 x.tuple.last ∧ InB (x.caps.drop k) 0 2 ∧ x.caps[(x.id - 1).toNat]? = some x.binary ∧ (x.role = 0 ∨ (0 < x.tuple.term ∧ x.tuple.vote = x.id)))) := by
 have hlb := last_bd hb
 have hw : IntKind.wrap .i64 (x.tuple.last + 1) = x.tuple.last + 1 := Zah (by omega)
 obtain ⟨e0, he0, he1⟩ := own_get x hn hi h4
 intro m
 induction m with
 | zero =>
  intro k n b hm hk hn'
  obtain ⟨n, rfl⟩ : ∃ n', n = n' + 1 := ⟨n - 1, by omega⟩
  rw [Jo, List.drop_eq_nil_of_le (by omega), List.drop_eq_nil_of_le (by omega), List.drop_eq_nil_of_le (by omega)]
  simp only [Bool.cond_decide, if_neg (show ¬ ((k : Int) < x.n) by omega), he0, he1, Option.bind_some, Option.some.injEq]
  by_cases c1 : x.role = 0
  ·rw [if_neg (fun h => h c1), Zd1]; congr 1; exact Vw ⟨fun h => ⟨Ze7, Ze7, Ze7, h, .inl c1⟩, fun h => h.2.2.2.1⟩
  ·rw [if_pos c1]
   by_cases c2 : x.tuple.term < 1
   ·rw [if_pos c2, Yg]; rintro ⟨_, _, _, _, h | h⟩; exact c1 h; omega
   ·rw [if_neg c2]
    by_cases c3 : x.tuple.vote = x.id
    ·rw [if_neg (fun h => h c3), Zd1]; congr 1; exact Vw ⟨fun h => ⟨Ze7, Ze7, Ze7, h, .inr ⟨by omega, c3⟩⟩, fun h => h.2.2.2.1⟩
    ·rw [if_pos c3, Yg]; rintro ⟨_, _, _, _, h | h⟩; exact c1 h; exact c3 h.2
 | succ m ih =>
  intro k n b hm hk hn'
  obtain ⟨n, rfl⟩ : ∃ n', n = n' + 1 := ⟨n - 1, by omega⟩
  obtain ⟨e, he, hd⟩ := Xi (show k < x.next.length by omega)
  obtain ⟨f, hf, hd2⟩ := Xi (show k < x.mtch.length by omega)
  obtain ⟨g, hg, hd3⟩ := Xi (show k < x.caps.length by omega)
  rw [Jo, hd, hd2, hd3]
  simp only [Bool.cond_decide, if_pos (show ((k : Int) < x.n) by omega), J5, he, hf, hg, Option.bind_some, hw]
  rw [Zah (n := (k : Int) + 1) (by omega), show ((k : Int) + 1) = ((k + 1 : Nat) : Int) by omega, ih (k + 1) n b (by omega) (by omega) (by omega)]
  by_cases c1 : e < 1
  ·rw [if_pos c1, Yg]; rintro ⟨h, _⟩; have := (InB_cons.1 h).1; omega
  rw [if_neg c1]
  by_cases c2 : x.tuple.last + 1 < e
  ·rw [if_pos c2, Yg]; rintro ⟨h, _⟩; have := (InB_cons.1 h).1; omega
  rw [if_neg c2]
  by_cases c3 : f < 0
  ·rw [if_pos c3, Yg]; rintro ⟨_, h, _⟩; have := (InB_cons.1 h).1; omega
  rw [if_neg c3]
  by_cases c4 : x.tuple.last < f
  ·rw [if_pos c4, Yg]; rintro ⟨_, h, _⟩; have := (InB_cons.1 h).1; omega
  rw [if_neg c4]
  by_cases c5 : g < 0
  ·rw [if_pos c5, Yg]; rintro ⟨_, _, h, _⟩; have := (InB_cons.1 h).1; omega
  rw [if_neg c5]
  by_cases c6 : 2 < g
  ·rw [if_pos c6, Yg]; rintro ⟨_, _, h, _⟩; have := (InB_cons.1 h).1; omega
  rw [if_neg c6]
  congr 1
  exact Vw ⟨fun h => ⟨InB_cons.2 ⟨by omega, h.1⟩, InB_cons.2 ⟨by omega, h.2.1⟩, InB_cons.2 ⟨by omega, h.2.2.1⟩, h.2.2.2⟩, fun h => ⟨(InB_cons.1 h.1).2, (InB_cons.1 h.2.1).2, (InB_cons.1 h.2.2.1).2, h.2.2.2⟩⟩
theorem Zff (x : Co) (h : BdC x) : Jv x = some (Zee x) := by
 simp only [Jv, p_Right12, p_State12' x.tuple x.commit h.tup, Zgr x.tuple h.tup, Option.bind_some, snap_eq, Bool.cond_decide]
 unfold Zee
 by_cases c1 : x.n < 1
 ·rw [if_pos c1, Yg (p := RightC x) fun h => by have := h.n; omega]
 rw [if_neg c1]
 by_cases c2 : 5 < x.n
 ·rw [if_pos c2, Yg (p := RightC x) fun h => by have := h.n; omega]
 rw [if_neg c2]
 by_cases c3 : x.id < 1
 ·rw [if_pos c3, Yg (p := RightC x) fun h => by have := h.id; omega]
 rw [if_neg c3]
 by_cases c4 : x.n < x.id
 ·rw [if_pos c4, Yg (p := RightC x) fun h => by have := h.id; omega]
 rw [if_neg c4]
 by_cases c5 : 2 < x.role
 ·rw [if_pos c5, Yg (p := RightC x) fun h => by have := h.role; omega]
 rw [if_neg c5]
 by_cases c6 : x.binary < 1
 ·rw [if_pos c6, Yg (p := RightC x) fun h => by have := h.bin; omega]
 rw [if_neg c6]
 by_cases c7 : 2 < x.binary
 ·rw [if_pos c7, Yg (p := RightC x) fun h => by have := h.bin; omega]
 rw [if_neg c7]
 cases c8 : Jm x.tuple with
 | false => rw [Yg (p := RightC x) fun h => by have h2 := h.tup; rw [c8] at h2; cases h2]; rfl
 | true =>
  simp only [Bool.not_true, cond_false]
  cases c9 : stOf x.tuple x.commit with
  | none => rw [Yg (p := RightC x) fun h => by rw [h.st] at c9; cases c9]; rfl
  | some s =>
   simp only [Option.isSome_some, Option.getD_some, Bool.not_true, cond_false]
   by_cases d1 : s = x.applied
   case neg => rw [decide_eq_false d1, Yg (p := RightC x) fun h => d1 (by have := h.st; rw [c9] at this; exact QJ this)]; rfl
   rw [decide_eq_true d1]
   simp only [Bool.not_true, cond_false]
   by_cases d2 : (x.votes.length : Int) = x.n
   case neg => rw [if_pos d2, Yg (p := RightC x) fun h => d2 h.lv]
   rw [if_neg (fun h => h d2)]
   by_cases d3 : (x.next.length : Int) = x.n
   case neg => rw [if_pos d3, Yg (p := RightC x) fun h => d3 h.ln]
   rw [if_neg (fun h => h d3)]
   by_cases d4 : (x.mtch.length : Int) = x.n
   case neg => rw [if_pos d4, Yg (p := RightC x) fun h => d4 h.lm]
   rw [if_neg (fun h => h d4)]
   by_cases d5 : (x.caps.length : Int) = x.n
   case neg => rw [if_pos d5, Yg (p := RightC x) fun h => d5 h.lc]
   rw [if_neg (fun h => h d5)]
   have := p_Right20_l1 x (by omega) (by omega) d3 d4 d5 h.tup x.caps.length 0 Xo false (by omega) (by omega) (by have := h.lc; unfold Xo; omega)
   rw [show ((0 : Nat) : Int) = 0 from rfl] at this
   rw [this]
   simp only [List.drop_zero]
   congr 1
   subst d1
   exact Vw ⟨fun h => ⟨by omega, by omega, by omega, by omega, c8, c9, d2, d3, d4, d5, h.1, h.2.1, h.2.2.1, h.2.2.2.1, h.2.2.2.2⟩, fun h => ⟨h.next, h.mtch, h.caps, h.own, h.lead⟩⟩
end
section
open Go Go.RowKit
set_option maxRecDepth 100000
theorem p_eNumber (x : Int) : Vh x = some (numB x) := by
 unfold Vh numB
 by_cases h : 0 ≤ x <;> simp [h]
theorem p_eFine (x : St) : Jy x = some (Za7 x) := by
 obtain ⟨i, t, s, l, f⟩ := x
 simp only [Jy, Zen, p_eNumber, Option.bind_some, Za7, firstS, numB, St.mk.injEq, Bool.cond_not, Bool.cond_decide]
 cases f <;> (repeat' split) <;> simp_all <;> omega
def entB (last term : Int) : List En → Prop
 | [] => True
 | e :: l => J1 e = true ∧ (last ≤ e.term ∧ e.term ≤ term) ∧ entB e.term term l
structure FineM (m : Ms) (n : Int) : Prop where
 many : 1 ≤ n ∧ n ≤ 5
 frm : 1 ≤ m.frm ∧ m.frm ≤ n
 dst : 1 ≤ m.dst ∧ m.dst ≤ n
 ne : m.frm ≠ m.dst
 kind : 1 ≤ m.kind ∧ m.kind ≤ 5
 term : 1 ≤ m.term ∧ m.term ≤ 1073741824
 cap : 1 ≤ m.cap ∧ m.cap ≤ 2
 last : 0 ≤ m.last ∧ m.last ≤ 1073741824
 lastTerm : 0 ≤ m.lastTerm ∧ m.lastTerm ≤ 1073741824
 commit : 0 ≤ m.commit ∧ m.commit ≤ 1073741824
 ents : entB m.lastTerm m.term m.entries
 few : m.entries.length ≤ 4
 app : m.kind ≠ 3 → m.entries.length = 0 ∧ m.commit = 0
 okk : m.okk = true → m.kind = 2 ∨ m.kind = 4
 snap : m.kind = 5 → 0 < m.snap.index ∧ Za7 m.snap = true
 nosnap : m.kind ≠ 5 → m.snap = ⟨0, 0, 0, 0, false⟩
noncomputable def fineM (m : Ms) (n : Int) : Bool := Zgs (FineM m n)
structure BdM (m : Ms) : Prop where
 kind : 0 ≤ m.kind ∧ m.kind ≤ 255
 ents : m.entries.length ≤ 1000000
theorem p_entries_l1 (x : Ms) (h : x.entries.length ≤ 1000000) : ∀ (m k n : Nat) (v : Bool) (last : Int), m = x.entries.length - k → k ≤ x.entries.length → m < n → Ju x n v last k = some (Zgs (entB last x.term (x.entries.drop k) ∧ x.entries.length ≤ 4)) := by
 intro m
 induction m with
 | zero =>
  intro k n v last hm hk hn
  obtain ⟨n, rfl⟩ : ∃ n', n = n' + 1 := ⟨n - 1, by omega⟩
  rw [Ju, List.drop_eq_nil_of_le (by omega)]
  simp only [Bool.cond_decide, if_neg (show ¬ ((k : Int) < (x.entries.length : Int)) by omega)]
  rw [Zd1]; congr 1
  exact Vw ⟨fun h => ⟨trivial, by omega⟩, fun h => by have := h.2; omega⟩
 | succ m ih =>
  intro k n v last hm hk hn
  obtain ⟨n, rfl⟩ : ∃ n', n = n' + 1 := ⟨n - 1, by omega⟩
  obtain ⟨e, he, hd⟩ := Xi (show k < x.entries.length by omega)
  rw [Ju, hd]
  simp only [Bool.cond_decide, if_pos (show ((k : Int) < (x.entries.length : Int)) by omega), J5, he, Option.bind_some, p_eRight, p_within]
  rw [Zah (by omega), show ((k : Int) + 1) = ((k + 1 : Nat) : Int) by omega, ih (k + 1) n v e.term (by omega) (by omega) (by omega)]
  cases c1 : J1 e with
  | false => rw [Yg (p := entB last x.term (e :: x.entries.drop (k + 1)) ∧ x.entries.length ≤ 4) fun h => by have h2 := h.1.1; rw [c1] at h2; cases h2]; rfl
  | true =>
   by_cases c2 : last ≤ e.term ∧ e.term ≤ x.term
   ·rw [Xu c2]; show some _ = some _; congr 1
    exact Vw ⟨fun h => ⟨⟨c1, c2, h.1⟩, h.2⟩, fun h => ⟨h.1.2.2, h.2⟩⟩
   ·rw [Yg c2, Yg (p := entB last x.term (e :: x.entries.drop (k + 1)) ∧ x.entries.length ≤ 4) fun h => c2 h.1.2.1]; rfl
theorem p_entries (x : Ms) (h : x.entries.length ≤ 1000000) : Zc2 x = some (Zgs (entB x.lastTerm x.term x.entries ∧ x.entries.length ≤ 4)) := by
 have := p_entries_l1 x h x.entries.length 0 Xo false x.lastTerm (by omega) (by omega) (by unfold Xo; omega)
 unfold Zc2
 simpa using this
theorem st_zero (s : St) : (decide (s.index = 0) && (decide (s.term = 0) && (decide (s.sum = 0) && (decide (s.level = 0) && decide (s.final = false))))) = decide (s = ⟨0, 0, 0, 0, false⟩) := by
 obtain ⟨a1, a2, a3, a4, a5⟩ := s
 rw [Bool.eq_iff_iff]; simp
theorem p_mFine (m : Ms) (n : Int) (h : BdM m) : Zeg m n = some (fineM m n) := by
 have hw : IntKind.wrap .i64 m.kind = m.kind := Zah (by have := h.kind; omega)
 simp only [Zeg, p_within, p_each [m.frm, m.dst] _ _ _ (by simp), p_each [m.last, m.lastTerm, m.commit] _ _ _ (by simp), p_entries m h.ents, p_eFine, Option.bind_some, hw, st_zero]
 unfold fineM
 by_cases c1 : 1 ≤ n ∧ n ≤ 5
 case neg => rw [Yg c1, Yg (p := FineM m n) fun h => c1 h.many]; rfl
 rw [Xu c1]
 by_cases c2 : (([m.frm, m.dst].length : Nat) : Int) = 2 ∧ InB [m.frm, m.dst] 1 n
 case neg => rw [Yg c2, Yg (p := FineM m n) fun h => c2 ⟨rfl, InB_cons.2 ⟨h.frm, InB_cons.2 ⟨h.dst, Ze7⟩⟩⟩]; rfl
 rw [Xu c2]
 have c21 := (InB_cons.1 c2.2).1
 have c22 := (InB_cons.1 (InB_cons.1 c2.2).2).1
 by_cases c3 : m.frm = m.dst
 case pos => rw [decide_eq_true c3, Yg (p := FineM m n) fun h => h.ne c3]; rfl
 rw [decide_eq_false c3]
 by_cases c4 : 1 ≤ m.kind ∧ m.kind ≤ 5
 case neg => rw [Yg c4, Yg (p := FineM m n) fun h => c4 h.kind]; rfl
 rw [Xu c4]
 by_cases c5 : 1 ≤ m.term ∧ m.term ≤ 1073741824
 case neg => rw [Yg c5, Yg (p := FineM m n) fun h => c5 h.term]; rfl
 rw [Xu c5]
 by_cases c6 : 1 ≤ m.cap ∧ m.cap ≤ 2
 case neg => rw [Yg c6, Yg (p := FineM m n) fun h => c6 h.cap]; rfl
 rw [Xu c6]
 by_cases c7 : (([m.last, m.lastTerm, m.commit].length : Nat) : Int) = 3 ∧ InB [m.last, m.lastTerm, m.commit] 0 1073741824
 case neg => rw [Yg c7, Yg (p := FineM m n) fun h => c7 ⟨rfl, InB_cons.2 ⟨h.last, InB_cons.2 ⟨h.lastTerm, InB_cons.2 ⟨h.commit, Ze7⟩⟩⟩⟩]; rfl
 rw [Xu c7]
 have c71 := (InB_cons.1 c7.2).1
 have c72 := (InB_cons.1 (InB_cons.1 c7.2).2).1
 have c73 := (InB_cons.1 (InB_cons.1 (InB_cons.1 c7.2).2).2).1
 by_cases c8 : entB m.lastTerm m.term m.entries ∧ m.entries.length ≤ 4
 case neg => rw [Yg c8, Yg (p := FineM m n) fun h => c8 ⟨h.ents, h.few⟩]; rfl
 rw [Xu c8]
 have yes : ∀ (d1 : m.kind ≠ 3 → m.entries.length = 0 ∧ m.commit = 0) (d2 : m.okk = true → m.kind = 2 ∨ m.kind = 4), (if m.kind = 5 then (if 0 < m.snap.index then some (Za7 m.snap) else some false) else some (decide (m.snap = ⟨0, 0, 0, 0, false⟩))) = some (Zgs (FineM m n)) := by
  intro d1 d2
  by_cases e1 : m.kind = 5
  ·rw [if_pos e1]
   by_cases e2 : 0 < m.snap.index
   ·rw [if_pos e2]
    cases e3 : Za7 m.snap with
    | true => rw [Xu (p := FineM m n) ⟨c1, c21, c22, c3, c4, c5, c6, c71, c72, c73, c8.1, c8.2, d1, d2, fun _ => ⟨e2, e3⟩, fun h => (h e1).elim⟩]
    | false => rw [Yg (p := FineM m n) fun h => by have h2 := (h.snap e1).2; rw [e3] at h2; cases h2]
   ·rw [if_neg e2, Yg (p := FineM m n) fun h => e2 (h.snap e1).1]
  ·rw [if_neg e1, Zd1]
   congr 1
   exact Vw ⟨fun e2 => ⟨c1, c21, c22, c3, c4, c5, c6, c71, c72, c73, c8.1, c8.2, d1, d2, fun h => (e1 h).elim, fun _ => e2⟩, fun h => h.nosnap e1⟩
 simp only [Bool.not_true, cond_false, Bool.cond_decide]
 by_cases d1 : m.kind = 3
 ·rw [if_neg (fun h => h d1)]
  cases d2 : m.okk with
  | false => exact yes (fun h => (h d1).elim) (fun h => by rw [d2] at h; cases h)
  | true =>
   rw [if_pos (by omega), if_pos (by omega), Yg (p := FineM m n) fun h => by have := h.okk d2; omega]; rfl
 ·rw [if_pos d1]
  by_cases d3 : (0 : Int) < (m.entries.length : Int)
  ·rw [if_pos d3, Yg (p := FineM m n) fun h => by have := (h.app d1).1; omega]
  rw [if_neg d3]
  by_cases d4 : 0 < m.commit
  ·rw [if_pos d4, Yg (p := FineM m n) fun h => by have := (h.app d1).2; omega]
  rw [if_neg d4]
  have d5 : m.kind ≠ 3 → m.entries.length = 0 ∧ m.commit = 0 := fun _ => ⟨by omega, by omega⟩
  cases d2 : m.okk with
  | false => exact yes d5 (fun h => by rw [d2] at h; cases h)
  | true =>
   show (if m.kind ≠ 2 then _ else _) = _
   by_cases d6 : m.kind = 2
   ·rw [if_neg (fun h => h d6)]; exact yes d5 (fun _ => .inl d6)
   ·rw [if_pos d6]
    by_cases d7 : m.kind = 4
    ·rw [if_neg (fun h => h d7)]; exact yes d5 (fun _ => .inr d7)
    ·rw [if_pos d7, Yg (p := FineM m n) fun h => by have := h.okk d2; omega]
end
section
open Go Go.RowKit
set_option maxRecDepth 100000
def ToC (x : Co) (m : Ms) : Prop := m.dst = x.id ∧ RightC x ∧ FineM m x.n
theorem p_To (x : Co) (m : Ms) (hx : BdC x) (hm : BdM m) : Zb2 x m = some (Zgs (ToC x m)) := by
 simp only [Zb2, p_mRight x hx, p_mFine m x.n hm, Option.bind_some, Bool.cond_decide]
 by_cases c1 : m.dst = x.id
 case neg => rw [if_pos c1, Yg fun h => c1 h.1]
 rw [if_neg (fun h => h c1)]
 unfold Zee fineM
 by_cases c2 : RightC x
 case neg => rw [Yg c2, Yg (p := ToC x m) fun h => c2 h.2.1]; rfl
 rw [Xu c2]
 show some _ = some _
 congr 1
 exact Vw ⟨fun h => ⟨c1, c2, h⟩, fun h => h.2.2⟩
open Classical in
noncomputable def hearC (x : Co) (m : Ms) : Co := if ToC x m then { x with caps := x.caps.set (m.frm - 1).toNat m.cap } else x
theorem idx_in {α : Type} (l : List α) (i : Int) (h : 1 ≤ i ∧ i ≤ (l.length : Int)) (hl : l.length ≤ 1000000) : ∃ e, idx l (i - 1) = some e ∧ l[(i - 1).toNat]? = some e ∧ IntKind.wrap .i64 (i - 1) = i - 1 := by
 have hw : i - 1 = (((i - 1).toNat : Nat) : Int) := by omega
 obtain ⟨e, he, _⟩ := Xi (show (i - 1).toNat < l.length by omega)
 exact ⟨e, by rw [hw, J5]; exact he, he, Zah (by omega)⟩
theorem p_Hear (x : Co) (m : Ms) (hx : BdC x) (hm : BdM m) : Zcy x m = some (hearC x m) := by
 simp only [Zcy, p_To x m hx hm, p_mOwn x hx, p_mRight x hx, Option.bind_some]
 unfold hearC
 by_cases c1 : ToC x m
 ·rw [Xu c1, if_pos c1]
  unfold Zee
  rw [Xu c1.2.1]
  obtain ⟨e, he, _, hw⟩ := idx_in x.caps m.frm (by have := c1.2.2.frm; have := c1.2.1.lc; omega) hx.lc
  simp only [cond_true, he, Option.bind_some, hw]
  rfl
 ·rw [Yg c1, if_neg c1]; rfl
theorem hear_right (x : Co) (m : Ms) (h : RightC x) : RightC (hearC x m) := by
 unfold hearC
 split
 ·rename_i c
  have hf := c.2.2
  refine ⟨h.n, h.id, h.role, h.bin, h.tup, h.st, h.lv, h.ln, h.lm, ?_, h.next, h.mtch, InB.set h.caps (by have := hf.cap; omega), ?_, h.lead⟩
  ·dsimp only; rw [List.length_set]; exact h.lc
  ·dsimp only
   rw [List.getElem?_set_ne]
   ·exact h.own
   ·have h1 := hf.ne; have h2 := c.1; have h3 := hf.frm; have h4 := h.id; omega
 ·exact h
end
section
open Go Go.RowKit
set_option maxRecDepth 100000
theorem q_Append (x : Tu) (l : List En) (h : x.log.length ≤ 1000000 ∧ l.length ≤ 300) : V2 x l = some (Zcn x (some { x with log := x.log ++ l }), chgE x (some { x with log := x.log ++ l })) := by unfold V2; rw [decide_eq_true h]; rfl
theorem p_tTermAt (x : Tu) (i : Int) (h : bdT x) : Zal x i = some ((Zaa x i).getD 0, (Zaa x i).isSome) := by
 obtain ⟨h1, h2, h3⟩ := h
 unfold Zal m_tuple_At Zaa
 rw [p_tLast x ⟨h1, h2, h3⟩]
 unfold Tu.last
 simp only [Option.bind_some, Bool.cond_decide]
 by_cases hi : i = x.snap.index
 ·rw [if_pos hi, if_pos hi]; rfl
 ·rw [if_neg hi, if_neg hi]
  by_cases h4 : i ≤ x.snap.index
  ·rw [if_pos h4, if_neg (by omega)]; rfl
  ·rw [if_neg h4]
   by_cases h5 : x.snap.index + (x.log.length : Int) < i
   ·rw [if_pos h5, if_neg (by omega)]; rfl
   ·rw [if_neg h5, if_pos (by omega)]
    obtain ⟨k, hk⟩ : ∃ k : Nat, i = x.snap.index + 1 + k := ⟨(i - x.snap.index - 1).toNat, by omega⟩
    have e1 : IntKind.wrap .i64 (i - x.snap.index) = i - x.snap.index := Zah (by omega)
    have e2 : IntKind.wrap .i64 (i - x.snap.index - 1) = (k : Int) := by rw [Zah (by omega)]; omega
    have e3 : (i - x.snap.index - 1).toNat = k := by omega
    rw [e1, e2, e3, J5]
    obtain ⟨e, he, _⟩ := Xi (show k < x.log.length by omega)
    rw [he]; rfl
theorem chg_eq (x : Tu) (res : Option Tu) : (Zcn x res, chgE x res) = if Jm x = true then (match res with | some y => if Jm y = true then (y, (0 : Int)) else (x, 2) | none => (x, 2)) else (x, 2) := by
 unfold Zcn chgE
 by_cases hT : Jm x = true
 ·rw [if_pos hT]
  cases res with
  | none =>
   have : Zce x none = none := by unfold Zce; rw [if_pos hT]
   rw [this]
  | some y =>
   by_cases hy : Jm y = true
   ·have : Zce x (some y) = some y := by unfold Zce; rw [if_pos hT]; exact if_pos hy
    rw [this]; dsimp only; rw [if_pos hy]
   ·have : Zce x (some y) = none := by unfold Zce; rw [if_pos hT]; exact if_neg hy
    rw [this]; dsimp only; rw [if_neg hy]
 ·have : Zce x res = none := if_neg hT
  rw [this, if_neg hT]
theorem chg_some (x y : Tu) : (Zcn x (some y), chgE x (some y)) = if Jm x = true then (if Jm y = true then (y, (0 : Int)) else (x, 2)) else (x, 2) := by rw [chg_eq]
theorem Zfj {x : Co} (h : RightC x) : x.tuple.snap.index ≤ x.commit ∧ x.commit ≤ x.tuple.last := by
 have := h.st
 unfold stOf at this
 split at this
 ·assumption
 ·cases this
theorem InB.mono {l : List Int} {a b c d : Int} (h : InB l a b) (h1 : c ≤ a) (h2 : b ≤ d) : InB l c d := fun x hx => by have := h x hx; omega
end
section
open Go Go.RowKit
set_option maxRecDepth 100000
theorem q_Cut (x : Tu) (i : Int) (h : x.log.length ≤ 1000000) : Zb6 x i = some (Zcn x (cutR x i), chgE x (cutR x i)) := by unfold Zb6; rw [decide_eq_true h]; rfl
theorem q_Hard (x : Tu) (t v : Int) (h : x.log.length ≤ 1000000) : Zcp x t v = some (Zcn x (hardR x t v), chgE x (hardR x t v)) := by unfold Zcp; rw [decide_eq_true h]; rfl
theorem p_fits (x : Co) (m : Ms) (hx : BdC x) (hm : BdM m) : Zd2 x m = some (Zgs (ToC x m)) := by
 simp only [Zd2, p_mRight x hx, p_mFine m x.n hm, Option.bind_some, Bool.cond_decide]
 by_cases c1 : m.dst = x.id
 case neg => rw [if_neg c1, Yg fun h => c1 h.1]
 rw [if_pos c1]
 unfold Zee fineM
 by_cases c2 : FineM m x.n
 case neg => rw [Yg c2, Yg (p := ToC x m) fun h => c2 h.2.2]; rfl
 rw [Xu c2]
 show some _ = some _
 congr 1
 exact Vw ⟨fun h => ⟨c1, h, c2⟩, fun h => h.2.1⟩
theorem hard_yes (x : Tu) (t v : Int) (hx : Jm x = true) (h : x.term < t ∨ t = x.term ∧ (x.vote = 0 ∨ x.vote = v)) (ht : t ≤ 1073741824) (hv : 0 ≤ v ∧ v ≤ 5) : Jm { x with term := t, vote := v } = true ∧ Zcp x t v = some ({ x with term := t, vote := v }, 0) := by
 obtain ⟨g1, g2, g3, g4⟩ := (Zfm x).1 hx
 have hT : Jm { x with term := t, vote := v } = true := (Zfm _).2 ⟨g1, ⟨g2.1, g2.2.1, hv.1, hv.2, ht⟩, g3, by dsimp only; omega⟩
 refine ⟨hT, ?_⟩
 rw [q_Hard x t v (by omega)]
 have hr : hardR x t v = some { x with term := t, vote := v } := by unfold hardR; rw [if_pos h]
 have := chg_yes x _ _ hx hr hT
 rw [this.1, this.2]
theorem hear_no (x : Co) (m : Ms) (h : ¬ ToC x m) : hearC x m = x := by unfold hearC; rw [if_neg h]
theorem hear_eq (x : Co) (m : Ms) (h : ToC x m) : hearC x m = { x with caps := x.caps.set (m.frm - 1).toNat m.cap } := by unfold hearC; rw [if_pos h]
open Classical in
noncomputable def Yx (x : Co) (m : Ms) : Co := if ToC x m ∧ x.tuple.term < m.term then { x with caps := x.caps.set (m.frm - 1).toNat m.cap, tuple := { x.tuple with term := m.term, vote := 0 }, role := 0, votes := List.replicate x.n.toNat false } else hearC x m
theorem p_Meet (x : Co) (m : Ms) (hx : BdC x) (hm : BdM m) : Zcq x m = some (Yx x m) := by
 simp only [Zcq, p_mOwn x hx, p_fits x m hx hm, p_Hear x m hx hm, Option.bind_some, Bool.cond_decide]
 unfold Yx
 by_cases c1 : ToC x m
 case neg => rw [Yg c1, if_neg (show ¬ (ToC x m ∧ x.tuple.term < m.term) from fun h => c1 h.1), hear_no x m c1]; rfl
 rw [Xu c1]
 simp only [Bool.not_true, cond_false]
 rw [hear_eq x m c1]
 by_cases c2 : x.tuple.term < m.term
 ·rw [if_pos (show ToC x m ∧ x.tuple.term < m.term from ⟨c1, c2⟩), if_pos (show x.tuple.term < m.term from c2)]
  have hH := (hard_yes x.tuple m.term 0 c1.2.1.tup (.inl c2) c1.2.2.term.2 (by omega)).2
  have hn := c1.2.1.n
  obtain ⟨N, hN⟩ : ∃ N : Nat, x.n = (N : Int) := ⟨x.n.toNat, by omega⟩
  have hk : makeI false x.n = some (List.replicate x.n.toNat false) := by rw [hN, makeI_nat _ N (by omega), Int.toNat_natCast]
  simp only [hH, hk, Option.bind_some]
 ·rw [if_neg (show ¬ (ToC x m ∧ x.tuple.term < m.term) from fun h => c2 h.2), if_neg (show ¬ x.tuple.term < m.term from c2)]
theorem Zef (x : Co) (m : Ms) (h : RightC x) : RightC (Yx x m) := by
 unfold Yx
 split
 ·rename_i c
  have hh := hear_right x m h
  rw [hear_eq x m c.1] at hh
  have hn := h.n
  refine ⟨h.n, h.id, by show (0 : Int) ≤ 2; decide, h.bin, (hard_yes x.tuple m.term 0 h.tup (.inl c.2) c.1.2.2.term.2 (by omega)).1, h.st, ?_, h.ln, h.lm, hh.lc, h.next, h.mtch, hh.caps, hh.own, .inl rfl⟩
  dsimp only; rw [List.length_replicate]; omega
 ·exact hear_right x m h
structure MeetF (x y : Co) : Prop where
 id : y.id = x.id
 n : y.n = x.n
 binary : y.binary = x.binary
 commit : y.commit = x.commit
 applied : y.applied = x.applied
 next : y.next = x.next
 mtch : y.mtch = x.mtch
 snap : y.tuple.snap = x.tuple.snap
 log : y.tuple.log = x.tuple.log
 term : x.tuple.term ≤ y.tuple.term
theorem meet_f (x : Co) (m : Ms) : MeetF x (Yx x m) := by
 unfold Yx
 split
 ·rename_i c
  exact ⟨rfl, rfl, rfl, rfl, rfl, rfl, rfl, rfl, rfl, by dsimp only; omega⟩
 ·by_cases c : ToC x m
  ·rw [hear_eq x m c]; exact ⟨rfl, rfl, rfl, rfl, rfl, rfl, rfl, rfl, rfl, Int.le_refl _⟩
  ·rw [hear_no x m c]; exact ⟨rfl, rfl, rfl, rfl, rfl, rfl, rfl, rfl, rfl, Int.le_refl _⟩
theorem MeetF.last {x y : Co} (h : MeetF x y) : y.tuple.last = x.tuple.last := by unfold Tu.last; rw [h.snap, h.log]
theorem meet_term (x : Co) (m : Ms) (h : ToC x m) : (x.tuple.term < m.term ∧ (Yx x m).tuple.term = m.term ∧ (Yx x m).tuple.vote = 0 ∧ (Yx x m).role = 0) ∨ (m.term ≤ x.tuple.term ∧ Yx x m = { x with caps := x.caps.set (m.frm - 1).toNat m.cap }) := by
 by_cases c : x.tuple.term < m.term
 ·left
  unfold Yx
  rw [if_pos ⟨h, c⟩]
  exact ⟨c, rfl, rfl, rfl⟩
 ·right
  unfold Yx
  rw [if_neg (fun h => c h.2), hear_eq x m h]
  exact ⟨by omega, rfl⟩
theorem meet_ge (x : Co) (m : Ms) (h : ToC x m) : m.term ≤ (Yx x m).tuple.term := by
 rcases meet_term x m h with ⟨_, h2, _⟩ | ⟨h1, h2⟩
 ·rw [h2]; exact Int.le_refl _
 ·rw [h2]; exact h1
theorem meet_caps (x : Co) (m : Ms) (h : ToC x m) : (Yx x m).caps = x.caps.set (m.frm - 1).toNat m.cap := by
 unfold Yx
 split
 ·rfl
 ·rw [hear_eq x m h]
theorem meet_again (d : Co) (m : Ms) (h : m.term ≤ d.tuple.term) (hc : ToC d m → d.caps[(m.frm - 1).toNat]? = some m.cap) : Yx d m = d := by
 unfold Yx
 rw [if_neg (fun h2 => by have := h2.2; omega)]
 by_cases c : ToC d m
 ·rw [hear_eq d m c]
  have h2 := hc c
  obtain ⟨h3, h4⟩ := List.getElem?_eq_some_iff.1 h2
  have : d.caps.set (m.frm - 1).toNat m.cap = d.caps := by rw [← h4]; exact List.set_getElem_self h3
  rw [this]
 ·exact hear_no d m c
theorem to_again (x d : Co) (m : Ms) (h : ToC x m) (hR : RightC d) (h1 : d.id = x.id) (h2 : d.n = x.n) : ToC d m := ⟨by rw [h1]; exact h.1, hR, by rw [h2]; exact h.2.2⟩
theorem caps_met (x : Co) (m : Ms) (h : ToC x m) : (x.caps.set (m.frm - 1).toNat m.cap)[(m.frm - 1).toNat]? = some m.cap := by
 have h1 := h.2.1.lc
 have h2 := h.2.2.frm
 exact List.getElem?_set_self (by omega)
def mapTo (f : Int → Int) (k : Nat) (l : List Int) : List Int := (l.take k).map f ++ l.drop k
theorem mapTo_get (f : Int → Int) (l : List Int) (k : Nat) (e : Int) (h : l[k]? = some e) : (mapTo f k l)[k]? = some e := by
 have hk := (List.getElem?_eq_some_iff.1 h).1
 unfold mapTo
 rw [List.getElem?_append_right (by rw [List.length_map, List.length_take]; omega), List.length_map, List.length_take, List.getElem?_drop, ← h]
 congr 1; omega
theorem mapTo_set (f : Int → Int) (l : List Int) (k : Nat) (e : Int) (h : l[k]? = some e) : (mapTo f k l).set k (f e) = mapTo f (k + 1) l := by
 have hk := (List.getElem?_eq_some_iff.1 h).1
 obtain ⟨e', he', hd⟩ := Xi hk
 rw [h] at he'
 obtain rfl := QJ he'
 unfold mapTo
 rw [List.set_append, if_neg (by rw [List.length_map, List.length_take]; omega), hd, List.take_add_one, h]
 have : k - ((l.take k).map f).length = 0 := by rw [List.length_map, List.length_take]; omega
 rw [this]
 simp
theorem mapTo_all (f : Int → Int) (l : List Int) (k : Nat) (h : l.length ≤ k) : mapTo f k l = l.map f := by
 unfold mapTo
 rw [List.take_of_length_le h, List.drop_eq_nil_of_le h, List.append_nil]
theorem mapTo_zero (f : Int → Int) (l : List Int) : mapTo f 0 l = l := by simp [mapTo]
theorem setI_nat {α : Type} (l : List α) (k : Nat) (v : α) : Zeb l (k : Int) v = l.set k v := by unfold Zeb; simp
def fitC (x : Co) : Co := { x with next := x.next.map (fun e => min e (x.tuple.last + 1)), mtch := x.mtch.map (fun e => min e x.tuple.last) }
theorem p_Fit_l2 (x : Co) (r : Int) (v : List Int) (hl : x.mtch.length ≤ 1000000) : ∀ (q k n : Nat), q = x.mtch.length - k → k ≤ x.mtch.length → q < n → Za1 x r v n k (mapTo (fun e => min e r) k x.mtch) = some { x with next := v, mtch := x.mtch.map (fun e => min e r) } := by
 intro q
 induction q with
 | zero =>
  intro k n hq hk hn
  obtain ⟨n, rfl⟩ : ∃ n', n = n' + 1 := ⟨n - 1, by omega⟩
  rw [Za1, mapTo_all _ _ _ (by omega)]
  simp only [Bool.cond_decide, if_neg (show ¬ (k : Int) < (x.mtch.length : Int) by omega)]
 | succ q ih =>
  intro k n hq hk hn
  obtain ⟨n, rfl⟩ : ∃ n', n = n' + 1 := ⟨n - 1, by omega⟩
  obtain ⟨e, he, _⟩ := Xi (show k < x.mtch.length by omega)
  rw [Za1]
  simp only [Bool.cond_decide, if_pos (show (k : Int) < (x.mtch.length : Int) by omega), J5, mapTo_get _ _ _ _ he, Option.bind_some, setI_nat]
  have := mapTo_set (fun e => min e r) x.mtch k e he
  rw [this, Zah (by omega), show ((k : Int) + 1) = ((k + 1 : Nat) : Int) by omega, ih (k + 1) n (by omega) (by omega) (by omega)]
theorem p_Fit_l1 (x : Co) (r : Int) (hl : x.next.length ≤ 1000000) (hl2 : x.mtch.length ≤ 1000000) (hr : -3000000000000 ≤ r ∧ r ≤ 3000000000000) : ∀ (q k n : Nat), q = x.next.length - k → k ≤ x.next.length → q < n → Za2 x r n k (mapTo (fun e => min e (r + 1)) k x.next) = some { x with next := x.next.map (fun e => min e (r + 1)), mtch := x.mtch.map (fun e => min e r) } := by
 intro q
 induction q with
 | zero =>
  intro k n hq hk hn
  obtain ⟨n, rfl⟩ : ∃ n', n = n' + 1 := ⟨n - 1, by omega⟩
  rw [Za2, mapTo_all _ _ _ (by omega)]
  simp only [Bool.cond_decide, if_neg (show ¬ (k : Int) < (x.next.length : Int) by omega)]
  have := p_Fit_l2 x r (x.next.map fun e => min e (r + 1)) hl2 x.mtch.length 0 Xo (by omega) (by omega) (by unfold Xo; omega)
  rw [mapTo_zero] at this
  exact this
 | succ q ih =>
  intro k n hq hk hn
  obtain ⟨n, rfl⟩ : ∃ n', n = n' + 1 := ⟨n - 1, by omega⟩
  obtain ⟨e, he, _⟩ := Xi (show k < x.next.length by omega)
  rw [Za2]
  simp only [Bool.cond_decide, if_pos (show (k : Int) < (x.next.length : Int) by omega), J5, mapTo_get _ _ _ _ he, Option.bind_some, setI_nat, Zah (n := r + 1) (by omega)]
  have := mapTo_set (fun e => min e (r + 1)) x.next k e he
  rw [this, Zah (by omega), show ((k : Int) + 1) = ((k + 1 : Nat) : Int) by omega, ih (k + 1) n (by omega) (by omega) (by omega)]
theorem p_Fit (x : Co) (h : BdC x) : Jd x = some (fitC x) := by
 have hb := last_bd h.tup
 have := p_Fit_l1 x x.tuple.last h.ln h.lm hb x.next.length 0 Xo (by omega) (by omega) (by have := h.ln; unfold Xo; omega)
 rw [mapTo_zero] at this
 simp only [Jd, p_mOwn x h, Option.bind_some, p_tLast x.tuple h.tup]
 exact this
theorem map_min_id {l : List Int} {lo hi : Int} (h : InB l lo hi) : l.map (fun e => min e hi) = l := by
 have : l.map (fun e => min e hi) = l.map id := List.map_congr_left (fun a ha => by have := h a ha; show min a hi = a; omega)
 rw [this, List.map_id]
theorem map_min_in {l : List Int} {lo hi hi' : Int} (h : InB l lo hi') (hl : lo ≤ hi) : InB (l.map (fun e => min e hi)) lo hi := fun x hx => by
 obtain ⟨a, ha, rfl⟩ := List.mem_map.1 hx
 have := h a ha
 omega
theorem fit_id (x : Co) (h : RightC x) : fitC x = x := by
 unfold fitC
 rw [map_min_id h.next, map_min_id h.mtch]
def Zac (y : Co) (m : Ms) (k : Int) (ok : Bool) (last : Int) : Ms := ⟨k, y.id, m.frm, y.tuple.term, y.binary, last, 0, 0, ok, [], ⟨0, 0, 0, 0, false⟩⟩
theorem back_fine (x y : Co) (m : Ms) (ok : Bool) (k last : Int) (h : ToC x m) (h1 : y.id = x.id) (h2 : y.binary = x.binary) (ht : 1 ≤ y.tuple.term ∧ y.tuple.term ≤ 1073741824) (hk : k = 2 ∨ k = 4) (hl : 0 ≤ last ∧ last ≤ 1073741824) : FineM (Zac y m k ok last) x.n := by
 have hf := h.2.2
 have hid := h.2.1.id
 have hb := h.2.1.bin
 have he := h.1
 have hne := hf.ne
 unfold Zac
 refine ⟨hf.many, by dsimp only; omega, hf.frm, by dsimp only; omega, by dsimp only; omega, ht, by dsimp only; omega, hl, ⟨Int.le_refl 0, (by decide : (0 : Int) ≤ 1073741824)⟩, ⟨Int.le_refl 0, (by decide : (0 : Int) ≤ 1073741824)⟩, trivial, by simp, fun _ => ⟨rfl, rfl⟩, fun _ => hk, fun h5 => by dsimp only at h5; omega, fun _ => rfl⟩
end
section
open Go Go.RowKit
set_option maxRecDepth 100000
theorem p_Alike_self (a : Ms) (h : a.entries.length ≤ 1000000) : Zc3 a a = some true := by
 unfold Zc3
 simp only [decide_true, cond_true, Bool.and_true, p_Same a.entries a.entries h, Option.bind_some]
theorem p_number20 (x : Int) : Zam x = some (numB x) := by
 unfold Zam numB
 by_cases h : 0 ≤ x <;> simp [h]
theorem p_entries20_l1 (x : Ms) (h : x.entries.length ≤ 1000000) : ∀ (m k n : Nat) (v : Bool) (last : Int), m = x.entries.length - k → k ≤ x.entries.length → m < n → V6 x n v last k = some (Zgs (entB last x.term (x.entries.drop k) ∧ x.entries.length ≤ 4)) := by
 intro m
 induction m with
 | zero =>
  intro k n v last hm hk hn
  obtain ⟨n, rfl⟩ : ∃ n', n = n' + 1 := ⟨n - 1, by omega⟩
  rw [V6, List.drop_eq_nil_of_le (by omega)]
  simp only [Bool.cond_decide, if_neg (show ¬ ((k : Int) < (x.entries.length : Int)) by omega)]
  rw [Zd1]; congr 1
  exact Vw ⟨fun h => ⟨trivial, by omega⟩, fun h => by have := h.2; omega⟩
 | succ m ih =>
  intro k n v last hm hk hn
  obtain ⟨n, rfl⟩ : ∃ n', n = n' + 1 := ⟨n - 1, by omega⟩
  obtain ⟨e, he, hd⟩ := Xi (show k < x.entries.length by omega)
  rw [V6, hd]
  simp only [Bool.cond_decide, if_pos (show ((k : Int) < (x.entries.length : Int)) by omega), J5, he, Option.bind_some, p_Right]
  rw [Zah (by omega), show ((k : Int) + 1) = ((k + 1 : Nat) : Int) by omega, ih (k + 1) n v e.term (by omega) (by omega) (by omega)]
  cases c1 : J1 e with
  | false => rw [Yg (p := entB last x.term (e :: x.entries.drop (k + 1)) ∧ x.entries.length ≤ 4) fun h => by have h2 := h.1.1; rw [c1] at h2; cases h2]; rfl
  | true =>
   simp only [Bool.not_true, cond_false]
   by_cases c2 : e.term < last
   ·rw [if_pos c2, Yg (p := entB last x.term (e :: x.entries.drop (k + 1)) ∧ x.entries.length ≤ 4) fun h => by have h2 := h.1.2.1; omega]
   rw [if_neg c2]
   by_cases c3 : x.term < e.term
   ·rw [if_pos c3, Yg (p := entB last x.term (e :: x.entries.drop (k + 1)) ∧ x.entries.length ≤ 4) fun h => by have h2 := h.1.2.1; omega]
   rw [if_neg c3]
   congr 1
   exact Vw ⟨fun h => ⟨⟨c1, ⟨by omega, by omega⟩, h.1⟩, h.2⟩, fun h => ⟨h.1.2.2, h.2⟩⟩
theorem p_entries20 (x : Ms) (h : x.entries.length ≤ 1000000) : Zbs x = some (Zgs (entB x.lastTerm x.term x.entries ∧ x.entries.length ≤ 4)) := by
 have := p_entries20_l1 x h x.entries.length 0 Xo false x.lastTerm (by omega) (by omega) (by unfold Xo; omega)
 unfold Zbs
 simpa using this
theorem numB_no {x : Int} (h : numB x = false) : ¬ (0 ≤ x ∧ x ≤ 1073741824) := fun h2 => by rw [numB, decide_eq_true h2] at h; cases h
theorem numB_yes {x : Int} (h : numB x = true) : 0 ≤ x ∧ x ≤ 1073741824 := of_decide_eq_true h
theorem p_Fine20 (m : Ms) (n : Int) (h : BdM m) : Zcf m n = some (fineM m n) := by
 simp only [Zcf, p_number20, p_entries20 m h.ents, p_Fine, Option.bind_some, st_zero, Bool.cond_decide]
 unfold fineM
 by_cases c0 : n < 1
 ·rw [if_pos c0, Yg (p := FineM m n) fun h => by have := h.many; omega]
 rw [if_neg c0]
 by_cases c1 : 5 < n
 ·rw [if_pos c1, Yg (p := FineM m n) fun h => by have := h.many; omega]
 rw [if_neg c1]
 by_cases c2 : m.frm < 1
 ·rw [if_pos c2, Yg (p := FineM m n) fun h => by have := h.frm; omega]
 rw [if_neg c2]
 by_cases c3 : n < m.frm
 ·rw [if_pos c3, Yg (p := FineM m n) fun h => by have := h.frm; omega]
 rw [if_neg c3]
 by_cases c4 : m.dst < 1
 ·rw [if_pos c4, Yg (p := FineM m n) fun h => by have := h.dst; omega]
 rw [if_neg c4]
 by_cases c5 : n < m.dst
 ·rw [if_pos c5, Yg (p := FineM m n) fun h => by have := h.dst; omega]
 rw [if_neg c5]
 by_cases c6 : m.frm = m.dst
 ·rw [if_pos c6, Yg (p := FineM m n) fun h => h.ne c6]
 rw [if_neg c6]
 by_cases c7 : m.kind < 1
 ·rw [if_pos c7, Yg (p := FineM m n) fun h => by have := h.kind; omega]
 rw [if_neg c7]
 by_cases c8 : 6 ≤ m.kind
 ·rw [if_pos c8, Yg (p := FineM m n) fun h => by have := h.kind; omega]
 rw [if_neg c8]
 by_cases c9 : m.term < 1
 ·rw [if_pos c9, Yg (p := FineM m n) fun h => by have := h.term; omega]
 rw [if_neg c9]
 by_cases c10 : 1073741824 < m.term
 ·rw [if_pos c10, Yg (p := FineM m n) fun h => by have := h.term; omega]
 rw [if_neg c10]
 by_cases c11 : m.cap < 1
 ·rw [if_pos c11, Yg (p := FineM m n) fun h => by have := h.cap; omega]
 rw [if_neg c11]
 by_cases c12 : 2 < m.cap
 ·rw [if_pos c12, Yg (p := FineM m n) fun h => by have := h.cap; omega]
 rw [if_neg c12]
 cases d0 : numB m.last with
 | false => rw [Yg (p := FineM m n) fun h => numB_no d0 h.last]; rfl
 | true =>
 have d0' := numB_yes d0
 cases d1 : numB m.lastTerm with
 | false => rw [Yg (p := FineM m n) fun h => numB_no d1 h.lastTerm]; rfl
 | true =>
 have d1' := numB_yes d1
 cases d2 : numB m.commit with
 | false => rw [Yg (p := FineM m n) fun h => numB_no d2 h.commit]; rfl
 | true =>
 have d2' := numB_yes d2
 by_cases c20 : entB m.lastTerm m.term m.entries ∧ m.entries.length ≤ 4
 case neg => rw [Yg c20, Yg (p := FineM m n) fun h => c20 ⟨h.ents, h.few⟩]; rfl
 rw [Xu c20]
 simp only [Bool.not_true, cond_false]
 have yes : ∀ (d1 : m.kind ≠ 3 → m.entries.length = 0 ∧ m.commit = 0) (d2 : m.okk = true → m.kind = 2 ∨ m.kind = 4), (if m.kind = 5 then (cond (Za7 m.snap) (some (decide (0 < m.snap.index))) (some false)) else some (decide (m.snap = ⟨0, 0, 0, 0, false⟩))) = some (Zgs (FineM m n)) := by
  intro d1 d2
  have mk : (m.kind = 5 → 0 < m.snap.index ∧ Za7 m.snap = true) → (m.kind ≠ 5 → m.snap = ⟨0, 0, 0, 0, false⟩) → FineM m n := fun s1 s2 =>
   ⟨⟨by omega, by omega⟩, ⟨by omega, by omega⟩, ⟨by omega, by omega⟩, c6, ⟨by omega, by omega⟩, ⟨by omega, by omega⟩, ⟨by omega, by omega⟩, d0', d1', d2', c20.1, c20.2, d1, d2, s1, s2⟩
  by_cases e1 : m.kind = 5
  ·rw [if_pos e1]
   cases e3 : Za7 m.snap with
   | true =>
    simp only [cond_true]
    rw [Zd1]
    congr 1
    exact Vw ⟨fun e2 => mk (fun _ => ⟨e2, e3⟩) (fun h => (h e1).elim), fun h => (h.snap e1).1⟩
   | false => rw [Yg (p := FineM m n) fun h => by have h2 := (h.snap e1).2; rw [e3] at h2; cases h2]; rfl
  ·rw [if_neg e1, Zd1]
   congr 1
   exact Vw ⟨fun e2 => mk (fun h => (e1 h).elim) (fun _ => e2), fun h => h.nosnap e1⟩
 by_cases e1 : m.kind = 3
 ·rw [if_neg (fun h => h e1)]
  cases e2 : m.okk with
  | false => exact yes (fun h => (h e1).elim) (fun h => by rw [e2] at h; cases h)
  | true =>
   simp only [cond_true]
   rw [if_pos (by omega), if_pos (by omega), Yg (p := FineM m n) fun h => by have := h.okk e2; omega]
 ·rw [if_pos e1]
  by_cases e3 : (0 : Int) < (m.entries.length : Int)
  ·rw [if_pos e3, Yg (p := FineM m n) fun h => by have := (h.app e1).1; omega]
  rw [if_neg e3]
  by_cases e4 : 0 < m.commit
  ·rw [if_pos e4, Yg (p := FineM m n) fun h => by have := (h.app e1).2; omega]
  rw [if_neg e4]
  have e5 : m.kind ≠ 3 → m.entries.length = 0 ∧ m.commit = 0 := fun _ => ⟨by omega, by omega⟩
  cases e2 : m.okk with
  | false => exact yes e5 (fun h => by rw [e2] at h; cases h)
  | true =>
   simp only [cond_true]
   by_cases e6 : m.kind = 2
   ·rw [if_neg (fun h => h e6)]; exact yes e5 (fun _ => .inl e6)
   ·rw [if_pos e6]
    by_cases e7 : m.kind = 4
    ·rw [if_neg (fun h => h e7)]; exact yes e5 (fun _ => .inr e7)
    ·rw [if_pos e7, Yg (p := FineM m n) fun h => by have := h.okk e2; omega]
theorem p_At12x (t : Tu) (h : bdT t) (k : Nat) (e : En) (he : t.log[k]? = some e) : Zcb t (t.snap.index + 1 + k) = some (e, true) := by
 obtain ⟨h1, h2, h3⟩ := h
 have hk := (List.getElem?_eq_some_iff.1 he).1
 simp only [Zcb, Zgr t ⟨h1, h2, h3⟩, Option.bind_some, Bool.cond_decide, if_neg (show ¬ t.snap.index + 1 + (k : Int) ≤ t.snap.index by omega), Tu.last, if_neg (show ¬ t.snap.index + (t.log.length : Int) < t.snap.index + 1 + (k : Int) by omega), Zah (n := t.snap.index + 1 + (k : Int) - t.snap.index) (by omega), Zah (n := t.snap.index + 1 + (k : Int) - t.snap.index - 1) (by omega), show t.snap.index + 1 + (k : Int) - t.snap.index - 1 = (k : Int) by omega, Zah (n := (k : Int)) (by omega), J5, he]
end
section
open Go Go.RowKit
set_option maxRecDepth 100000
theorem Zfg : Xv = some true := by decide +kernel
theorem p_great23 (x : Co) (m : Ms) : ∃ b, Zbu x m = some b ∧ (b = false → BdC x ∧ m.entries.length ≤ 20) := by
 obtain ⟨g, hg⟩ := p_Great_some x
 unfold Zbu
 rw [hg]
 cases g with
 | true => exact ⟨true, rfl, fun h => by cases h⟩
 | false =>
  refine ⟨decide ((20 : Int) < (m.entries.length : Int)), rfl, fun h => ⟨(p_Great_no x hg).1, ?_⟩⟩
  have := of_decide_eq_false h
  omega
theorem p_To23 (x : Co) (m : Ms) (hx : BdC x) (hm : BdM m) : Zfv x m = some (Zgs (ToC x m)) := by
 simp only [Zfv, Zff x hx, p_Fine20 m x.n hm, Option.bind_some]
 unfold Zee fineM
 by_cases c1 : RightC x
 case neg => rw [Yg c1, Yg (p := ToC x m) fun h => c1 h.2.1]; rfl
 by_cases c2 : FineM m x.n
 case neg => rw [Xu c1, Yg c2, Yg (p := ToC x m) fun h => c2 h.2.2]; rfl
 rw [Xu c1, Xu c2]
 show some (decide _) = some _
 rw [Zd1]
 congr 1
 exact Vw ⟨fun h => ⟨h, c1, c2⟩, fun h => h.1⟩
def tMatch (y : Co) (m : Ms) (ma : Int) : Int := if m.okk = true then max ma (min m.last y.tuple.last) else ma
def tNext (y : Co) (m : Ms) (nx ma : Int) : Int := if m.okk = true then max nx (tMatch y m ma + 1) else max (ma + 1) (min (nx - 1) (m.last + 1))
inductive ToldR (x : Co) (m : Ms) : Co → Prop
 | no (h : ¬ (ToC x m ∧ m.kind = 4)) : ToldR x m x
 | met (h : ToC x m) (hk : m.kind = 4) (hr : (Yx x m).role ≠ 2 ∨ m.term ≠ (Yx x m).tuple.term) : ToldR x m (Yx x m)
 | yes (h : ToC x m) (hk : m.kind = 4) (hr : (Yx x m).role = 2) (ht : m.term = (Yx x m).tuple.term) (nx ma : Int) (hn : x.next[(m.frm - 1).toNat]? = some nx) (hma : x.mtch[(m.frm - 1).toNat]? = some ma) :
   ToldR x m { Yx x m with next := x.next.set (m.frm - 1).toNat (tNext (Yx x m) m nx ma), mtch := x.mtch.set (m.frm - 1).toNat (tMatch (Yx x m) m ma) }
theorem p_Told (x : Co) (m : Ms) (hx : BdC x) (hm : BdM m) : ∃ d, J0 x m = some d ∧ ToldR x m d := by
 by_cases h : ToC x m
 case neg =>
  refine ⟨x, ?_, .no fun h2 => h h2.1⟩
  simp only [J0, p_To x m hx hm, p_mOwn x hx, Yg h, Option.bind_some, Bool.not_false, cond_true]
 by_cases hk : m.kind = 4
 case neg =>
  refine ⟨x, ?_, .no fun h2 => hk h2.2⟩
  simp only [J0, p_To x m hx hm, p_mOwn x hx, Xu h, Option.bind_some, Bool.not_true, cond_false, Bool.cond_decide, if_pos (show m.kind ≠ 4 from hk)]
 have hy := Zef x m h.2.1
 have hmf := meet_f x m
 have hbd := hy.bd
 have hlb := last_bd hbd.tup
 by_cases hr : (Yx x m).role = 2
 case neg =>
  refine ⟨_, ?_, .met h hk (.inl hr)⟩
  simp only [J0, p_To x m hx hm, p_Meet x m hx hm, Xu h, Option.bind_some, Bool.not_true, cond_false, Bool.cond_decide, if_neg (show ¬ m.kind ≠ 4 from fun h => h hk), if_pos (show (Yx x m).role ≠ 2 from hr)]
 by_cases ht : m.term = (Yx x m).tuple.term
 case neg =>
  refine ⟨_, ?_, .met h hk (.inr ht)⟩
  simp only [J0, p_To x m hx hm, p_Meet x m hx hm, Xu h, Option.bind_some, Bool.not_true, cond_false, Bool.cond_decide, if_neg (show ¬ m.kind ≠ 4 from fun h => h hk), if_neg (show ¬ (Yx x m).role ≠ 2 from fun h => h hr), if_pos (show m.term ≠ (Yx x m).tuple.term from ht)]
 have hfr := h.2.2.frm
 have hfl := h.2.2.last
 have hln := h.2.1.ln
 have hlm := h.2.1.lm
 have hnn := h.2.1.n
 obtain ⟨nx, hn, hn2, hw⟩ := idx_in x.next m.frm (by omega) hx.ln
 obtain ⟨ma, hma, hma2, _⟩ := idx_in x.mtch m.frm (by omega) hx.lm
 have hb1 := h.2.1.next.get hn2
 have hb2 := h.2.1.mtch.get hma2
 rw [← hmf.last] at hb1 hb2
 have hlst := hmf.last
 refine ⟨_, ?_, .yes h hk hr ht nx ma hn2 hma2⟩
 have hi : m.frm - 1 = (((m.frm - 1).toNat : Nat) : Int) := by omega
 have hset : ∀ (l : List Int) (v : Int), Zeb l (m.frm - 1) v = l.set (m.frm - 1).toNat v := fun l v => by unfold Zeb; rfl
 unfold tNext tMatch
 cases hok : m.okk with
 | true =>
  simp only [J0, p_To x m hx hm, p_Meet x m hx hm, Xu h, Option.bind_some, Bool.not_true, cond_false, cond_true, Bool.cond_decide, if_neg (show ¬ m.kind ≠ 4 from fun h => h hk), if_neg (show ¬ (Yx x m).role ≠ 2 from fun h => h hr), if_neg (show ¬ m.term ≠ (Yx x m).tuple.term from fun h => h ht), hw, hmf.next, hmf.mtch, hn, hma, hok, p_tLast _ hbd.tup, hset, Zah (n := max ma (min m.last (Yx x m).tuple.last) + 1) (by omega), if_true]
 | false =>
  simp only [J0, p_To x m hx hm, p_Meet x m hx hm, Xu h, Option.bind_some, Bool.not_true, cond_false, cond_true, Bool.cond_decide, if_neg (show ¬ m.kind ≠ 4 from fun h => h hk), if_neg (show ¬ (Yx x m).role ≠ 2 from fun h => h hr), if_neg (show ¬ m.term ≠ (Yx x m).tuple.term from fun h => h ht), hw, hmf.next, hmf.mtch, hn, hma, hok, hset, Zah (n := ma + 1) (by omega), Zah (n := nx - 1) (by omega), Zah (n := m.last + 1) (by omega), Bool.false_eq_true, if_false]
  have e : x.mtch.set (m.frm - 1).toNat ma = x.mtch := by
   obtain ⟨h3, h4⟩ := List.getElem?_eq_some_iff.1 hma2
   rw [← h4]; exact List.set_getElem_self h3
  rw [e, ← hmf.mtch]
theorem told_right (x : Co) (m : Ms) (d : Co) (h : RightC x) (s : ToldR x m d) : RightC d ∧ d.commit = x.commit ∧ d.tuple.log = x.tuple.log := by
 have hy := Zef x m h
 have hmf := meet_f x m
 cases s with
 | no _ => exact ⟨h, rfl, rfl⟩
 | met _ _ _ => exact ⟨hy, hmf.commit, hmf.log⟩
 | yes hc hk hr ht nx ma hn hma =>
  have hlst := hmf.last
  have hb1 := h.next.get hn
  have hb2 := h.mtch.get hma
  have hxb := Zeh _ h.tup
  have hlen : x.tuple.last = x.tuple.snap.index + x.tuple.log.length := rfl
  have hfl := hc.2.2.last
  refine ⟨⟨hy.n, hy.id, hy.role, hy.bin, hy.tup, hy.st, hy.lv, ?_, ?_, hy.lc, ?_, ?_, hy.caps, hy.own, hy.lead⟩, hmf.commit, hmf.log⟩
  ·dsimp only; rw [List.length_set, hmf.n]; exact h.ln
  ·dsimp only; rw [List.length_set, hmf.n]; exact h.lm
  ·dsimp only; rw [hlst]
   refine h.next.set ?_
   unfold tNext tMatch
   rw [hlst]
   split <;> omega
  ·dsimp only; rw [hlst]
   refine h.mtch.set ?_
   unfold tMatch
   rw [hlst]
   split <;> omega
theorem told_l1 (x d : Co) (m : Ms) (h : RightC x) (s : ToldR x m d) (hc : ToC x m) (hk : m.kind = 4) (hrd : d.role = 2) : ∀ (q k n : Nat) (v : Bool), q = x.next.length - k → k ≤ x.next.length → q < n → Vs x m d n v k = some true := by
 have hn := h.n
 have hln := h.ln
 have hlm := h.lm
 have hmf := meet_f x m
 have hfr := hc.2.2.frm
 have hfl := hc.2.2.last
 have hlst := hmf.last
 have hxb := Zeh _ h.tup
 have hlen : x.tuple.last = x.tuple.snap.index + x.tuple.log.length := rfl
 have hw : IntKind.wrap .i64 (m.frm - 1) = (((m.frm - 1).toNat : Nat) : Int) := by rw [Zah (by omega)]; omega
 obtain ⟨nx, hnx, _⟩ := Xi (show (m.frm - 1).toNat < x.next.length by omega)
 obtain ⟨ma, hma, _⟩ := Xi (show (m.frm - 1).toNat < x.mtch.length by omega)
 have hb1 := h.next.get hnx
 have hb2 := h.mtch.get hma
 have hla := Zgr x.tuple h.bd.tup
 have spec : ∃ nx' ma', d.next = x.next.set (m.frm - 1).toNat nx' ∧ d.mtch = x.mtch.set (m.frm - 1).toNat ma' ∧ ma ≤ ma' ∧
   ((m.term ≠ x.tuple.term ∧ nx' = nx ∧ ma' = ma) ∨ (m.term = x.tuple.term ∧ nx' = tNext (Yx x m) m nx ma ∧ ma' = tMatch (Yx x m) m ma)) := by
  have se : ∀ (l : List Int) (i : Nat) (a : Int), l[i]? = some a → l.set i a = l := fun l i a hl => by
   obtain ⟨h3, h4⟩ := List.getElem?_eq_some_iff.1 hl
   rw [← h4]; exact List.set_getElem_self h3
  have hmt := meet_term x m hc
  cases s with
  | no h2 => exact (h2 ⟨hc, hk⟩).elim
  | met _ _ hr =>
   refine ⟨nx, ma, by rw [se _ _ _ hnx, hmf.next], by rw [se _ _ _ hma, hmf.mtch], Int.le_refl _, .inl ⟨?_, rfl, rfl⟩⟩
   rcases hr with hr | hr
   ·exact (hr hrd).elim
   ·rcases hmt with ⟨h1, h2, _⟩ | ⟨h1, h2⟩
    ·exact (hr h2.symm).elim
    ·rw [h2] at hr; exact hr
  | yes _ _ hr ht nx0 ma0 hn0 hma0 =>
   rw [hnx] at hn0
   rw [hma] at hma0
   obtain rfl := QJ hn0
   obtain rfl := QJ hma0
   refine ⟨_, _, rfl, rfl, ?_, .inr ⟨?_, rfl, rfl⟩⟩
   ·unfold tMatch; split <;> omega
   ·rcases hmt with ⟨h1, _, _, h4⟩ | ⟨_, h2⟩
    ·rw [h4] at hr; cases hr
    ·rw [h2] at ht; exact ht
 obtain ⟨nx', ma', s1, s2, s3, s4⟩ := spec
 intro q
 induction q with
 | zero =>
  intro k n v hq hk' hn'
  obtain ⟨n, rfl⟩ : ∃ n', n = n' + 1 := ⟨n - 1, by omega⟩
  have g1 : d.next[(m.frm - 1).toNat]? = some nx' := by rw [s1]; exact List.getElem?_set_self (by omega)
  have g2 : d.mtch[(m.frm - 1).toNat]? = some ma' := by rw [s2]; exact List.getElem?_set_self (by omega)
  rw [Vs]
  simp only [Bool.cond_decide, if_neg (show ¬ (k : Int) < x.n by omega), hw, J5, g1, g2, hnx, hma, hla, Zfg, Option.bind_some]
  rcases s4 with ⟨c1, rfl, rfl⟩ | ⟨c1, rfl, rfl⟩
  ·simp [c1]
  ·rw [if_neg (fun h => h c1)]
   unfold tNext tMatch
   rw [hlst]
   cases hok : m.okk with
   | true =>
    simp only [cond_true, if_true]
    rw [if_pos (by omega), if_pos (by omega), if_pos (by omega)]
   | false =>
    simp only [cond_false, Bool.false_eq_true, if_false, if_true]
    rw [if_pos (by omega), Zah (n := ma + 1) (by omega)]
    by_cases c : max (ma + 1) (min (nx - 1) (m.last + 1)) < nx
    ·rw [if_pos c]
    ·rw [if_neg c, if_pos (by omega)]
 | succ q ih =>
  intro k n v hq hk' hn'
  obtain ⟨n, rfl⟩ : ∃ n', n = n' + 1 := ⟨n - 1, by omega⟩
  have hih := ih (k + 1) n v (by omega) (by omega) (by omega)
  obtain ⟨e, he, _⟩ := Xi (show k < x.next.length by omega)
  obtain ⟨f, hf, _⟩ := Xi (show k < x.mtch.length by omega)
  have w1 : IntKind.wrap .i64 ((k : Int) + 1) = ((k + 1 : Nat) : Int) := by rw [Zah (by omega)]; omega
  rw [Vs]
  by_cases c : (m.frm - 1).toNat = k
  ·have g2 : d.mtch[k]? = some ma' := by rw [s2, ← c]; exact List.getElem?_set_self (by omega)
   have hma' : x.mtch[k]? = some ma := by rw [← c]; exact hma
   simp only [Bool.cond_decide, if_pos (show (k : Int) < x.n by omega), hw, J5, g2, hma', Option.bind_some, if_neg (show ¬ ma' < ma by omega), if_neg (show ¬ (k : Int) ≠ (((m.frm - 1).toNat : Nat) : Int) by omega), w1, hih]
  ·have g1 : d.next[k]? = some e := by rw [s1, List.getElem?_set_ne c]; exact he
   have g2 : d.mtch[k]? = some f := by rw [s2, List.getElem?_set_ne c]; exact hf
   simp only [Bool.cond_decide, if_pos (show (k : Int) < x.n by omega), hw, J5, g1, g2, he, hf, Option.bind_some, if_neg (show ¬ f < f by omega), if_pos (show (k : Int) ≠ (((m.frm - 1).toNat : Nat) : Int) by omega), ne_eq, not_true, if_false, w1, hih]
theorem p_ReplTold (x : Co) (m : Ms) (hk : 0 ≤ m.kind ∧ m.kind ≤ 255) : Zci x m = some true := by
 obtain ⟨g, hg, hgb⟩ := p_great23 x m
 unfold Zci
 simp only [hg, Zfg, Option.bind_some]
 cases g with
 | true => rfl
 | false =>
 obtain ⟨hbd, hme⟩ := hgb rfl
 have hm : BdM m := ⟨hk, by omega⟩
 simp only [cond_false, Zff x hbd, Option.bind_some]
 unfold Zee
 by_cases h : RightC x
 case neg => rw [Yg h]; rfl
 rw [Xu h]
 simp only [Bool.not_true, cond_false]
 obtain ⟨d, h1, s⟩ := p_Told x m hbd hm
 obtain ⟨hR, hc, hl⟩ := told_right x m d h s
 have sm := p_Same x.tuple.log x.tuple.log hbd.tup.1
 rw [decide_eq_true rfl] at sm
 rw [h1]
 simp only [Option.bind_some, Zff d hR.bd, Zee, Xu hR, Bool.not_true, cond_false, Bool.cond_decide, hc, hl, ne_eq, not_true, if_false, sm, p_To23 x m hbd hm]
 by_cases c1 : ToC x m
 case neg =>
  have : d = x := by
   cases s with
   | no _ => rfl
   | met h2 => exact (c1 h2).elim
   | yes h2 => exact (c1 h2).elim
  subst this
  have same := p_Same20 d d hbd
  rw [decide_eq_true rfl] at same
  rw [Yg c1]
  simp only [Bool.not_false, cond_true, same, Option.bind_some]
 rw [Xu c1]
 simp only [Bool.not_true, cond_false]
 by_cases c2 : m.kind = 4
 case neg =>
  have : d = x := by
   cases s with
   | no _ => rfl
   | met _ h2 => exact (c2 h2).elim
   | yes _ h2 => exact (c2 h2).elim
  subst this
  have same := p_Same20 d d hbd
  rw [decide_eq_true rfl] at same
  rw [if_pos c2]
  simp only [cond_true, same, Option.bind_some]
 rw [if_neg (fun h => h c2)]
 by_cases c3 : d.role = 2
 case neg =>
  rw [if_pos c3]
  by_cases c4 : x.role = 2
  case neg => rw [if_pos c4]
  rw [if_neg (fun h => h c4)]
  have hmt := meet_term x m c1
  have : x.tuple.term < m.term := by
   rcases hmt with ⟨h5, _⟩ | ⟨h5, h6⟩
   ·exact h5
   ·exfalso
    have hr : (Yx x m).role = 2 := by rw [h6]; exact c4
    cases s with
    | no h2 => exact h2 ⟨c1, c2⟩
    | met _ _ _ => exact c3 hr
    | yes _ _ _ _ _ _ _ _ => exact c3 hr
  rw [if_pos this]
 ·rw [if_neg (fun h => h c3)]
  have := told_l1 x d m h s c1 c2 c3 x.next.length 0 Xo false (by omega) (by omega) (by have := hbd.ln; unfold Xo; omega)
  exact this
end

end Go.Proofs.YtamjlcaoieliaaaGreat
