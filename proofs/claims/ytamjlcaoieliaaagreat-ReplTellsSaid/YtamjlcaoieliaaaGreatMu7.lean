/- Texts of one claim put together. -/
import Derived.Test.YtamjlcaoieliaaaGreatMu2
import Derived.Test.YtamjlcaoieliaaaGreatMu6
namespace Go.Proofs.YtamjlcaoieliaaaGreat

section
open Go Go.RowKit
set_option maxRecDepth 100000
theorem lastT_app (t : Int) (a b : List En) : Zb4 t (a ++ b) = Zb4 (Zb4 t a) b := by
 induction a generalizing t with
 | nil => rfl
 | cons e a ih => exact ih _
theorem logB_app (t : Int) (a b : List En) : Zdx t (a ++ b) = (Zdx t a && Zdx (Zb4 t a) b) := by
 induction a generalizing t with
 | nil => simp [Zdx, Zb4]
 | cons e a ih => simp [Zdx, Zb4, ih, Bool.and_assoc]
theorem logB_drop (t : Int) (l : List En) (k : Nat) (h : Zdx t l = true) : Zdx (Zb4 t (l.take k)) (l.drop k) = true := by
 have h' := h
 rw [← List.take_append_drop k l, logB_app, Bool.and_eq_true] at h'
 exact h'.2
theorem lastT_cut (t : Int) (l : List En) (k : Nat) : Zb4 (Zb4 t (l.take k)) (l.drop k) = Zb4 t l := by rw [← lastT_app, List.take_append_drop]
theorem lastT_mono (t : Int) (l : List En) (h : Zdx t l = true) : t ≤ Zb4 t l := by
 induction l generalizing t with
 | nil => exact Int.le_refl _
 | cons e l ih =>
  simp only [Zdx, Bool.and_eq_true, decide_eq_true_eq] at h
  exact Int.le_trans h.1.2 (ih _ h.2)
theorem tupB_iff (t : Tu) : V7 t = true ↔ FineP t.snap ∧ (t.snap.index ≤ 1073740824 ∧ t.log.length ≤ 200 ∧ 0 ≤ t.vote ∧ t.vote ≤ 5 ∧ t.term ≤ 1073741824) ∧ Zdx t.snap.term t.log = true ∧ Zb4 t.snap.term t.log ≤ t.term := by
 unfold V7
 simp only [Bool.and_eq_true, decide_eq_true_eq, Zc6, and_assoc]
theorem chg_yes (x y : Tu) (res : Option Tu) (hx : V7 x = true) (h : res = some y) (hy : V7 y = true) : Zch x res = y ∧ Zhh x res = 0 := by
 have : Zcy x res = some y := by unfold Zcy; rw [if_pos hx, h]; exact if_pos hy
 unfold Zch Zhh
 rw [this]
 exact ⟨rfl, rfl⟩
theorem termAt_log (x : Tu) (k : Nat) (hk : k ≤ x.log.length) : V2 x (x.snap.index + k) = some (Zb4 x.snap.term (x.log.take k)) := by
 unfold V2 Tu.last
 cases k with
 | zero => rw [if_pos (by simp)]; rfl
 | succ k =>
  rw [if_neg (by omega), if_pos (by omega)]
  have : (x.snap.index + ((k + 1 : Nat) : Int) - x.snap.index - 1).toNat = k := by omega
  rw [this, List.getElem?_eq_getElem (by omega), List.take_add_one, List.getElem?_eq_getElem (by omega)]
  show _ = some (Zb4 _ (_ ++ [x.log[k]]))
  rw [lastT_snoc]; rfl
theorem cut_yes (x : Tu) (k : Nat) (hx : V7 x = true) (hk : k ≤ x.log.length) :
  Zch x (Zg7 x (x.snap.index + 1 + k)) = { x with log := x.log.take k } ∧ Zhh x (Zg7 x (x.snap.index + 1 + k)) = 0 ∧ V7 { x with log := x.log.take k } = true := by
 obtain ⟨g1, g2, g3, g4⟩ := (tupB_iff x).1 hx
 have hT : V7 { x with log := x.log.take k } = true := by
  refine (tupB_iff _).2 ⟨g1, ⟨g2.1, ?_, g2.2.2⟩, logB_take _ _ _ g3, ?_⟩
  ·dsimp only; rw [List.length_take]; omega
  ·dsimp only
   refine Int.le_trans ?_ g4
   have h := lastT_mono _ _ (logB_drop x.snap.term x.log k g3)
   rw [lastT_cut] at h
   exact h
 have hr : Zg7 x (x.snap.index + 1 + k) = some { x with log := x.log.take k } := by
  unfold Zg7 Tu.last
  rw [if_pos (by omega)]
  have : (x.snap.index + 1 + (k : Int) - x.snap.index - 1).toNat = k := by omega
  rw [this]
 have := chg_yes x _ _ hx hr hT
 exact ⟨this.1, this.2, hT⟩
end
section
open Go Go.RowKit
set_option maxRecDepth 100000
theorem p_number (x : Int) : Jq x = some (numB x) := by
 unfold Jq numB
 by_cases h : 0 ≤ x <;> simp [h]
theorem p_Fine (x : St) : Jb x = some (Zbr x) := by
 obtain ⟨i, t, s, l, f⟩ := x
 simp only [Jb, Zaz, p_number, Option.bind_some, Zbr, firstS, numB, St.mk.injEq, Bool.cond_not, Bool.cond_decide]
 cases f <;> (repeat' split) <;> simp_all <;> omega
theorem p_Right (x : En) : Zbl x = some (Zaa x) := by
 obtain ⟨t, k, v⟩ := x
 simp only [Zbl, p_number, Option.bind_some, Zaa, numB, Bool.cond_not, Bool.cond_decide]
 (repeat' split) <;> (refine congrArg some ?_; rw [Bool.eq_iff_iff]; simp only [decide_eq_true_eq, true_iff, Bool.false_eq_true, false_iff]; omega)
theorem p_Right12_l1 (x : Tu) (hl : x.log.length ≤ 1000000) : ∀ (m k n : Nat) (b : Bool) (t : Int), m = x.log.length - k → k ≤ x.log.length → m < n →
  J1 x n b t k = some (Zdx t (x.log.drop k) && decide (Zb4 t (x.log.drop k) ≤ x.term ∧ 0 ≤ x.term ∧ x.term ≤ 1073741824)) := by
 intro m
 induction m with
 | zero =>
  intro k n b t hm hk hn
  obtain ⟨n, rfl⟩ : ∃ n', n = n' + 1 := ⟨n - 1, by omega⟩
  have hkl : k = x.log.length := by omega
  have hd : x.log.drop k = [] := List.drop_eq_nil_of_le (by omega)
  rw [J1, hd]
  simp only [Zdx, Bool.cond_decide, if_neg (show ¬ ((k : Int) < (x.log.length : Int)) by omega), Bool.true_and]
  (repeat' split) <;> (refine congrArg some ?_; rw [Bool.eq_iff_iff]; simp only [decide_eq_true_eq, true_iff, Bool.false_eq_true, false_iff]; simp only [Zb4]; omega)
 | succ m ih =>
  intro k n b t hm hk hn
  obtain ⟨n, rfl⟩ : ∃ n', n = n' + 1 := ⟨n - 1, by omega⟩
  obtain ⟨e, he, hd⟩ := Xw (show k < x.log.length by omega)
  have hi := ih (k + 1) n b e.term (by omega) (by omega) (by omega)
  rw [J1, hd]
  simp only [Bool.cond_decide, if_pos (show ((k : Int) < (x.log.length : Int)) by omega), Zav, he, Option.bind_some, p_Right, Bool.cond_not, Zdx, Zb4]
  rw [J7 (by omega), show ((k : Int) + 1) = ((k + 1 : Nat) : Int) by omega, hi]
  cases hr : Zaa e with
  | false => rfl
  | true =>
   simp only [cond_true, Bool.true_and]
   by_cases h : e.term < t
   ·rw [if_pos h, decide_eq_false (show ¬ (t ≤ e.term) by omega)]; rfl
   ·rw [if_neg h, decide_eq_true (show t ≤ e.term by omega)]; rfl
theorem p_Right12 (x : Tu) : Ve x = some (V7 x) := by
 have key : V7 x = (Zbr x.snap && decide (x.snap.index ≤ 1073740824 ∧ x.log.length ≤ 200 ∧ 0 ≤ x.vote ∧ x.vote ≤ 5) && (Zdx x.snap.term x.log && decide (Zb4 x.snap.term x.log ≤ x.term ∧ 0 ≤ x.term ∧ x.term ≤ 1073741824))) := by
  rw [Bool.eq_iff_iff]
  unfold V7
  simp only [Bool.and_eq_true, decide_eq_true_eq]
  constructor
  ·rintro ⟨⟨⟨h1, h2⟩, h3⟩, h4⟩
   have h5 := lastT_mono _ _ h3
   have h6 : 0 ≤ x.snap.term := by
    rcases (Zc6 _).1 h1 with h | h
    ·rw [h]; decide
    ·omega
   exact ⟨⟨h1, by omega⟩, h3, by omega⟩
  ·rintro ⟨⟨h1, h2⟩, h3, h4⟩
   exact ⟨⟨⟨h1, by omega⟩, h3⟩, by omega⟩
 rw [key]
 simp only [Ve, p_Fine, Option.bind_some, Bool.cond_not, Bool.cond_decide]
 cases hf : Zbr x.snap with
 | false => rfl
 | true =>
  simp only [cond_true, Bool.true_and]
  by_cases h1 : x.snap.index ≤ 1073740824 ∧ x.log.length ≤ 200 ∧ 0 ≤ x.vote ∧ x.vote ≤ 5
  ·rw [if_neg (by omega), if_neg (by omega), if_neg (by omega), if_neg (by omega), decide_eq_true h1, Bool.true_and]
   have := p_Right12_l1 x (by omega) x.log.length 0 Xr false x.snap.term (by omega) (by omega) (by unfold Xr; omega)
   exact this
  ·rw [decide_eq_false h1, Bool.false_and]
   (repeat' split) <;> first | rfl | (exfalso; omega)
theorem p_Same_l1 (a b : List En) (hl : a.length ≤ 1000000) (hab : a.length = b.length) : ∀ (m k n : Nat) (v : Bool), m = a.length - k → k ≤ a.length → m < n → Zan a b n v k = some (decide (a.drop k = b.drop k)) := by
 intro m
 induction m with
 | zero =>
  intro k n v hm hk hn
  obtain ⟨n, rfl⟩ : ∃ n', n = n' + 1 := ⟨n - 1, by omega⟩
  rw [Zan, List.drop_eq_nil_of_le (by omega), List.drop_eq_nil_of_le (by omega)]
  simp only [Bool.cond_decide, if_neg (show ¬ ((k : Int) < (a.length : Int)) by omega)]
  rfl
 | succ m ih =>
  intro k n v hm hk hn
  obtain ⟨n, rfl⟩ : ∃ n', n = n' + 1 := ⟨n - 1, by omega⟩
  obtain ⟨e, he, hd⟩ := Xw (show k < a.length by omega)
  obtain ⟨f, hf, hd2⟩ := Xw (show k < b.length by omega)
  rw [Zan, hd, hd2]
  simp only [Bool.cond_decide, if_pos (show ((k : Int) < (a.length : Int)) by omega), Zav, he, hf, Option.bind_some, en_eq, Bool.cond_not]
  rw [J7 (by omega), show ((k : Int) + 1) = ((k + 1 : Nat) : Int) by omega, ih (k + 1) n v (by omega) (by omega) (by omega)]
  by_cases h : e = f
  ·subst h; rw [if_pos rfl]; congr 1; rw [Bool.eq_iff_iff]; simp
  ·rw [if_neg h]; congr 1; rw [Bool.eq_iff_iff]; simp [h]
theorem p_Same (a b : List En) (hl : a.length ≤ 1000000) : Zda a b = some (decide (a = b)) := by
 unfold Zda
 by_cases h : a.length = b.length
 ·simp only [Bool.cond_decide, if_neg (show ¬ ((a.length : Int) ≠ (b.length : Int)) by omega)]
  have := p_Same_l1 a b hl h a.length 0 Xr false (by omega) (by omega) (by unfold Xr; omega)
  simpa using this
 ·simp only [Bool.cond_decide, if_pos (show ((a.length : Int) ≠ (b.length : Int)) by omega)]
  rw [decide_eq_false (fun h' => h (by rw [h']))]
theorem p_Same12 (x y : Tu) (hl : x.log.length ≤ 1000000) : Zec x y = some (decide (x = y)) := by
 obtain ⟨s, l, t, v⟩ := x; obtain ⟨s2, l2, t2, v2⟩ := y
 simp only [Zec, snap_eq, p_Same l l2 hl, Option.bind_some, Bool.cond_decide, Tu.mk.injEq]
 by_cases h1 : s = s2 <;> by_cases h2 : t = t2 <;> by_cases h3 : v = v2 <;> simp [h1, h2, h3]
def bdT (x : Tu) : Prop := x.log.length ≤ 1000000 ∧ -2000000000000 ≤ x.snap.index ∧ x.snap.index ≤ 2000000000000
theorem q_Right (x : Tu) (h : bdT x) : Zdg x = some (V7 x) := by unfold Zdg; rw [okT_iff.2 h]; rfl
theorem q_State_yes (x : Tu) (k : Nat) (h : bdT x) (hk : k ≤ x.log.length) : X6 x (x.snap.index + k) = some (allS x.snap (x.log.take k), true) := by
 unfold X6
 rw [okT_iff.2 h, decide_eq_true (by omega)]
 have : (x.snap.index + (k : Int) - x.snap.index).toNat = k := by omega
 rw [this]; rfl
theorem q_State_no (x : Tu) (i : Int) (h : bdT x) (hi : i < x.snap.index ∨ x.snap.index + x.log.length < i) : X6 x i = some (⟨0, 0, 0, 0, false⟩, false) := by
 unfold X6
 rw [okT_iff.2 h, decide_eq_false (by omega)]; rfl
theorem Zgv (x : Tu) (h : bdT x) : Zaw x = some x.last := by unfold Zaw Tu.last; obtain ⟨h1, h2, h3⟩ := h; rw [J7 (by omega)]
theorem p_Own12 (x : Tu) (h : x.log.length ≤ 1000000) : Xt x = some x := by
 unfold Xt
 rw [List.nil_append, Zcd _ (by omega)]; rfl
theorem Zfq (x : Tu) (h : bdT x) : Jn x = some x.last := Zgv x h
theorem p_Next (s : St) (e : En) : Zc3 s e = some (Zby s e) := by
 simp only [Zc3, p_Right, p_Fine, Option.bind_some]
 by_cases hc : Zaa e = true ∧ Zbr s = true ∧ s.index < 1073741824
 ·obtain ⟨hr, hf, hi⟩ := hc
  have hn : Zby s e = Zeg e.kind e.value { s with index := s.index + 1, term := e.term } := by unfold Zby; rw [if_pos ⟨hr, hf, hi⟩]
  have hb : 0 ≤ s.index ∧ 0 ≤ s.sum ∧ s.sum ≤ 1073741824 := by
   rcases (Zc6 s).1 hf with h | h
   ·rw [h]; decide
   ·omega
  have hv : 0 ≤ e.value ∧ e.value ≤ 1073741824 := by
   unfold Zaa at hr; simp only [decide_eq_true_eq] at hr; omega
  have w0 : IntKind.wrap .i64 (s.index + 1) = s.index + 1 := J7 (by omega)
  have w1 : IntKind.wrap .i64 (31 * s.sum) = 31 * s.sum := J7 (by omega)
  have w2 : IntKind.wrap .i64 (31 * s.sum + e.value) = 31 * s.sum + e.value := J7 (by omega)
  have w3 : IntKind.wrap .i64 (31 * s.sum + e.value + 1) = 31 * s.sum + e.value + 1 := J7 (by omega)
  rw [hn, hr, hf, w0, w1, w2, w3, Int.tmod_eq_emod_of_nonneg (by omega), decide_eq_false (show ¬ (1073741824 ≤ s.index) by omega)]
  simp only [Bool.not_true, cond_false, Bool.cond_decide]
  unfold Zeg
  by_cases k1 : e.kind = 1
  ·rw [if_pos k1, if_pos k1]
  ·rw [if_neg k1, if_neg k1]
   by_cases k2 : e.kind = 2
   ·rw [if_pos k2, if_pos k2]
   ·rw [if_neg k2, if_neg k2]
    by_cases k3 : e.kind = 3
    ·rw [if_pos k3, if_pos k3]
     cases hF : s.final <;> rfl
    ·rw [if_neg k3, if_neg k3]
     by_cases k4 : e.kind = 4
     ·rw [if_pos k4, if_pos k4]
     ·rw [if_neg k4, if_neg k4]
 ·have hn : Zby s e = s := by unfold Zby; rw [if_neg hc]
  rw [hn]
  cases hr : Zaa e with
  | false => rfl
  | true =>
   cases hf : Zbr s with
   | false => rfl
   | true =>
    rw [decide_eq_true (show 1073741824 ≤ s.index by
     have : ¬ (s.index < 1073741824) := fun h => hc ⟨hr, hf, h⟩
     omega)]
    rfl
theorem p_All_l1 (l : List En) (hl : l.length ≤ 1000000) : ∀ (m k n : Nat) (s : St), m = l.length - k → k ≤ l.length → m < n → Za6 l n k s.index s.term s.sum s.level s.final = some (allS s (l.drop k)) := by
 intro m
 induction m with
 | zero =>
  intro k n s hm hk hn
  obtain ⟨n, rfl⟩ : ∃ n', n = n' + 1 := ⟨n - 1, by omega⟩
  rw [Za6, List.drop_eq_nil_of_le (by omega)]
  simp only [Bool.cond_decide, if_neg (show ¬ ((k : Int) < (l.length : Int)) by omega)]
  rfl
 | succ m ih =>
  intro k n s hm hk hn
  obtain ⟨n, rfl⟩ : ∃ n', n = n' + 1 := ⟨n - 1, by omega⟩
  obtain ⟨e, he, hd⟩ := Xw (show k < l.length by omega)
  rw [Za6, hd]
  simp only [Bool.cond_decide, if_pos (show ((k : Int) < (l.length : Int)) by omega), Zav, he, Option.bind_some]
  have : Zc3 ⟨s.index, s.term, s.sum, s.level, s.final⟩ e = some (Zby s e) := p_Next s e
  rw [this, Option.bind_some, J7 (by omega), show ((k : Int) + 1) = ((k + 1 : Nat) : Int) by omega, ih (k + 1) n (Zby s e) (by omega) (by omega) (by omega)]
  rfl
theorem p_All (s : St) (l : List En) (hl : l.length ≤ 1000000) : Zgu s l = some (allS s l) := p_All_l1 l hl l.length 0 Xr s (by omega) (by omega) (by unfold Xr; omega)
theorem p_State12 (x : Tu) (i : Int) (h : bdT x) : V8 x i = X6 x i := by
 have h1 := h.1
 have h2 := h.2
 unfold V8
 rw [Zfq x h]
 simp only [Option.bind_some, Bool.cond_decide, Tu.last]
 by_cases h3 : i < x.snap.index
 ·rw [if_pos h3, q_State_no x i h (.inl h3)]
 ·rw [if_neg h3]
  by_cases h4 : x.snap.index + (x.log.length : Int) < i
  ·rw [if_pos h4, q_State_no x i h (.inr h4)]
  ·rw [if_neg h4]
   obtain ⟨k, hk⟩ : ∃ k : Nat, i = x.snap.index + (k : Int) := ⟨(i - x.snap.index).toNat, by omega⟩
   have w1 : IntKind.wrap .i64 (i - x.snap.index) = (k : Int) := by rw [J7 (by omega)]; omega
   rw [w1, takeI_nat _ _ (by omega), Option.bind_some, p_All _ _ (by rw [List.length_take]; omega), hk, q_State_yes x k h (by omega)]
   rfl
end
section
open Go Go.RowKit
set_option maxRecDepth 100000
noncomputable def Zgm (p : Prop) : Bool := @decide p (Classical.propDecidable p)
theorem Xe {p : Prop} (h : p) : Zgm p = true := @decide_eq_true p (Classical.propDecidable p) h
theorem Yf {p : Prop} (h : ¬ p) : Zgm p = false := @decide_eq_false p (Classical.propDecidable p) h
theorem Vp {p q : Prop} (h : p ↔ q) : Zgm p = Zgm q := by rw [propext h]
theorem Zdf {p : Prop} [Decidable p] : decide p = Zgm p := by
 by_cases h : p
 ·rw [Xe h, decide_eq_true h]
 ·rw [Yf h, decide_eq_false h]
def InB (l : List Int) (lo hi : Int) : Prop := ∀ x ∈ l, lo ≤ x ∧ x ≤ hi
theorem Zf3 {lo hi : Int} : InB [] lo hi := fun _ h => by cases h
theorem InB_cons {x : Int} {l : List Int} {lo hi : Int} : InB (x :: l) lo hi ↔ (lo ≤ x ∧ x ≤ hi) ∧ InB l lo hi := by
 unfold InB
 constructor
 ·intro h; exact ⟨h x (by simp), fun y hy => h y (by simp [hy])⟩
 ·rintro ⟨h1, h2⟩ y hy
  rcases List.mem_cons.1 hy with rfl | hy
  ·exact h1
  ·exact h2 y hy
theorem InB.get {l : List Int} {lo hi : Int} (h : InB l lo hi) {i : Nat} {x : Int} (hx : l[i]? = some x) : lo ≤ x ∧ x ≤ hi := h x (List.mem_of_getElem? hx)
theorem InB.set {l : List Int} {lo hi : Int} (h : InB l lo hi) {i : Nat} {x : Int} (hx : lo ≤ x ∧ x ≤ hi) : InB (l.set i x) lo hi := fun y hy => by
 rcases List.mem_or_eq_of_mem_set hy with h1 | rfl
 ·exact h y h1
 ·exact hx
theorem p_within (x lo hi : Int) : Vz x lo hi = some (Zgm (lo ≤ x ∧ x ≤ hi)) := by
 unfold Vz
 rw [Bool.cond_decide]
 by_cases h : lo ≤ x
 ·rw [if_pos h, Zdf]; congr 1; exact Vp ⟨fun h2 => ⟨h, h2⟩, fun h2 => h2.2⟩
 ·rw [if_neg h, Yf (fun h2 => h h2.1)]
theorem p_each_l1 (l : List Int) (lo hi : Int) (hl : l.length ≤ 1000000) : ∀ (m k n : Nat) (v : Int), m = l.length - k → k ≤ l.length → m < n → Zbm l lo hi n v k = some (Zgm (InB (l.drop k) lo hi)) := by
 intro m
 induction m with
 | zero =>
  intro k n v hm hk hn
  obtain ⟨n, rfl⟩ : ∃ n', n = n' + 1 := ⟨n - 1, by omega⟩
  rw [Zbm, List.drop_eq_nil_of_le (by omega), Xe Zf3]
  simp only [Bool.cond_decide, if_neg (show ¬ ((k : Int) < (l.length : Int)) by omega)]
  rfl
 | succ m ih =>
  intro k n v hm hk hn
  obtain ⟨n, rfl⟩ : ∃ n', n = n' + 1 := ⟨n - 1, by omega⟩
  obtain ⟨e, he, hd⟩ := Xw (show k < l.length by omega)
  rw [Zbm, hd]
  simp only [Bool.cond_decide, if_pos (show ((k : Int) < (l.length : Int)) by omega), Zav, he, Option.bind_some, p_within]
  rw [J7 (by omega), show ((k : Int) + 1) = ((k + 1 : Nat) : Int) by omega, ih (k + 1) n v (by omega) (by omega) (by omega)]
  by_cases h : lo ≤ e ∧ e ≤ hi
  ·rw [Xe h]; show some _ = _; congr 1; exact Vp ⟨fun h2 => InB_cons.2 ⟨h, h2⟩, fun h2 => (InB_cons.1 h2).2⟩
  ·rw [Yf h, Yf (fun h2 => h (InB_cons.1 h2).1), decide_eq_true (show (0 : Int) ≤ (k : Int) by omega)]; rfl
theorem p_each (l : List Int) (n lo hi : Int) (hl : l.length ≤ 1000000) : Zcb l n lo hi = some (Zgm ((l.length : Int) = n ∧ InB l lo hi)) := by
 unfold Zcb
 rw [Bool.cond_decide]
 by_cases h : (l.length : Int) = n
 ·rw [if_pos h]
  have := p_each_l1 l lo hi hl l.length 0 Xr 0 (by omega) (by omega) (by unfold Xr; omega)
  rw [show ((0 : Nat) : Int) = 0 from rfl] at this
  rw [this, List.drop_zero]
  congr 1; exact Vp ⟨fun h2 => ⟨h, h2⟩, fun h2 => h2.2⟩
 ·rw [if_neg h, Yf (fun h2 => h h2.1)]
theorem p_eRight (e : En) : Zg3 e = some (Zaa e) := rfl
def stOf (t : Tu) (i : Int) : Option St := if t.snap.index ≤ i ∧ i ≤ t.last then some (allS t.snap (t.log.take (i - t.snap.index).toNat)) else none
theorem q_State (x : Tu) (i : Int) (h : bdT x) : X6 x i = some ((stOf x i).getD ⟨0, 0, 0, 0, false⟩, (stOf x i).isSome) := by
 unfold stOf Tu.last
 by_cases hi : x.snap.index ≤ i ∧ i ≤ x.snap.index + x.log.length
 ·rw [if_pos hi]
  obtain ⟨k, hk⟩ : ∃ k : Nat, i = x.snap.index + (k : Int) := ⟨(i - x.snap.index).toNat, by omega⟩
  rw [hk, q_State_yes x k h (by omega), show (x.snap.index + (k : Int) - x.snap.index).toNat = k by omega]
  rfl
 ·rw [if_neg hi, q_State_no x i h (by omega)]; rfl
structure RightC (x : Co) : Prop where
 n : 1 ≤ x.n ∧ x.n ≤ 5
 id : 1 ≤ x.id ∧ x.id ≤ x.n
 role : x.role ≤ 2
 bin : 1 ≤ x.binary ∧ x.binary ≤ 2
 tup : V7 x.tuple = true
 st : stOf x.tuple x.commit = some x.applied
 lv : (x.votes.length : Int) = x.n
 ln : (x.next.length : Int) = x.n
 lm : (x.mtch.length : Int) = x.n
 lc : (x.caps.length : Int) = x.n
 next : InB x.next 1 (x.tuple.last + 1)
 mtch : InB x.mtch 0 x.tuple.last
 caps : InB x.caps 0 2
 own : x.caps[(x.id - 1).toNat]? = some x.binary
 lead : x.role = 0 ∨ (0 < x.tuple.term ∧ x.tuple.vote = x.id)
noncomputable def Zb7 (x : Co) : Bool := Zgm (RightC x)
structure BdC (x : Co) : Prop where
 tup : bdT x.tuple
 lv : x.votes.length ≤ 1000000
 ln : x.next.length ≤ 1000000
 lm : x.mtch.length ≤ 1000000
 lc : x.caps.length ≤ 1000000
theorem own_get (x : Co) (h1 : 1 ≤ x.n ∧ x.n ≤ 5) (h2 : 1 ≤ x.id ∧ x.id ≤ x.n) (h3 : (x.caps.length : Int) = x.n) : ∃ e, idx x.caps (IntKind.wrap .i64 (x.id - 1)) = some e ∧ x.caps[(x.id - 1).toNat]? = some e := by
 have hw : IntKind.wrap .i64 (x.id - 1) = (((x.id - 1).toNat : Nat) : Int) := by rw [J7 (by omega)]; omega
 obtain ⟨e, he, _⟩ := Xw (show (x.id - 1).toNat < x.caps.length by omega)
 exact ⟨e, by rw [hw, Zav, he], he⟩
theorem last_bd {t : Tu} (h : bdT t) : -3000000000000 ≤ t.last ∧ t.last ≤ 3000000000000 := by
 obtain ⟨h1, h2, h3⟩ := h
 unfold Tu.last; omega
theorem Zfl (x : Co) (h : BdC x) : Zb3 x = some (Zb7 x) := by
 have hlb := last_bd h.tup
 have hw : IntKind.wrap .i64 (x.tuple.last + 1) = x.tuple.last + 1 := J7 (by omega)
 simp only [Zb3, Zgv x.tuple h.tup, p_within, q_Right x.tuple h.tup, q_State x.tuple x.commit h.tup, p_each x.next _ _ _ h.ln, p_each x.mtch _ _ _ h.lm, p_each x.caps _ _ _ h.lc, Option.bind_some, hw, snap_eq]
 unfold Zb7
 by_cases c1 : 1 ≤ x.n ∧ x.n ≤ 5
 case neg => rw [Yf c1, Yf (p := RightC x) fun h => c1 h.n]; rfl
 by_cases c2 : 1 ≤ x.id ∧ x.id ≤ x.n
 case neg => rw [Xe c1, Yf c2, Yf (p := RightC x) fun h => c2 h.id]; rfl
 by_cases c3 : x.role ≤ 2
 case neg => rw [Xe c1, Xe c2, decide_eq_false c3, Yf (p := RightC x) fun h => c3 h.role]; rfl
 by_cases c4 : 1 ≤ x.binary ∧ x.binary ≤ 2
 case neg => rw [Xe c1, Xe c2, decide_eq_true c3, Yf c4, Yf (p := RightC x) fun h => c4 h.bin]; rfl
 rw [Xe c1, Xe c2, decide_eq_true c3, Xe c4]
 simp only [cond_true, Bool.not_true, cond_false]
 cases c5 : V7 x.tuple
 case false => rw [Yf (p := RightC x) fun h => by have h2 := h.tup; rw [c5] at h2; cases h2]; rfl
 simp only [cond_true, Bool.not_true, cond_false]
 cases c6 : stOf x.tuple x.commit with
 | none => rw [Yf (p := RightC x) fun h => by rw [h.st] at c6; cases c6]; rfl
 | some s =>
  simp only [Option.isSome_some, Option.getD_some, cond_true]
  by_cases c7 : s = x.applied
  case neg => rw [decide_eq_false c7, Yf (p := RightC x) fun h => c7 (by have := h.st; rw [c6] at this; exact QJ this)]; rfl
  rw [decide_eq_true c7]
  simp only [cond_true, Bool.not_true, cond_false]
  by_cases c8 : (x.votes.length : Int) = x.n
  case neg => rw [decide_eq_false c8, Yf (p := RightC x) fun h => c8 h.lv]; rfl
  by_cases c9 : (x.next.length : Int) = x.n ∧ InB x.next 1 (x.tuple.last + 1)
  case neg => rw [decide_eq_true c8, Yf c9, Yf (p := RightC x) fun h => c9 ⟨h.ln, h.next⟩]; rfl
  by_cases c10 : (x.mtch.length : Int) = x.n ∧ InB x.mtch 0 x.tuple.last
  case neg => rw [decide_eq_true c8, Xe c9, Yf c10, Yf (p := RightC x) fun h => c10 ⟨h.lm, h.mtch⟩]; rfl
  by_cases c11 : (x.caps.length : Int) = x.n ∧ InB x.caps 0 2
  case neg => rw [decide_eq_true c8, Xe c9, Xe c10, Yf c11, Yf (p := RightC x) fun h => c11 ⟨h.lc, h.caps⟩]; rfl
  rw [decide_eq_true c8, Xe c9, Xe c10, Xe c11]
  obtain ⟨e, he, he2⟩ := own_get x c1 c2 c11.1
  simp only [cond_true, Bool.not_true, cond_false, Option.bind_some, he]
  by_cases c12 : e = x.binary
  case neg => rw [decide_eq_false c12, Yf (p := RightC x) fun h => c12 (by have := h.own; rw [he2] at this; exact QJ this)]; rfl
  rw [decide_eq_true c12]
  simp only [cond_true, Bool.not_true, cond_false, Bool.cond_decide]
  subst c12
  subst c7
  by_cases c13 : x.role = 0
  ·rw [if_pos c13, Xe (p := RightC x) ⟨c1, c2, c3, c4, c5, c6, c8, c9.1, c10.1, c11.1, c9.2, c10.2, c11.2, he2, .inl c13⟩]
  ·rw [if_neg c13]
   by_cases c14 : 0 < x.tuple.term
   ·rw [if_pos c14]
    by_cases c15 : x.tuple.vote = x.id
    ·rw [decide_eq_true c15, Xe (p := RightC x) ⟨c1, c2, c3, c4, c5, c6, c8, c9.1, c10.1, c11.1, c9.2, c10.2, c11.2, he2, .inr ⟨c14, c15⟩⟩]; rfl
    ·rw [decide_eq_false c15, Yf (p := RightC x) fun h => by rcases h.lead with h | h; exact c13 h; exact c15 h.2]; rfl
   ·rw [if_neg c14, Yf (p := RightC x) fun h => by rcases h.lead with h | h; exact c13 h; exact c14 h.1]
theorem p_Own20 (x : Co) (h : BdC x) : Zab x = some x := by
 have h1 := h.tup.1
 have h2 := h.lv
 have h3 := h.ln
 have h4 := h.lm
 have h5 := h.lc
 simp only [Zab, p_Own12 _ h1, List.nil_append, Option.bind_some, Zcd _ (show x.votes.length ≤ 1000000000 by omega), Zcd _ (show x.next.length ≤ 1000000000 by omega), Zcd _ (show x.mtch.length ≤ 1000000000 by omega), Zcd _ (show x.caps.length ≤ 1000000000 by omega)]
theorem p_mOwn (x : Co) (h : BdC x) : Zbz x = some x := by
 have h1 := h.tup.1
 have h2 := h.lv
 have h3 := h.ln
 have h4 := h.lm
 have h5 := h.lc
 simp only [Zbz, Zgt, Vg, Jj, Vn, Option.bind_some, Zcd _ (show x.tuple.log.length ≤ 1000000000 by omega), Zcd _ (show x.votes.length ≤ 1000000000 by omega), Zcd _ (show x.next.length ≤ 1000000000 by omega), Zcd _ (show x.mtch.length ≤ 1000000000 by omega), Zcd _ (show x.caps.length ≤ 1000000000 by omega)]
theorem p_ints_l1 (a b : List Int) (hl : a.length ≤ 1000000) (hab : a.length = b.length) : ∀ (m k n : Nat) (v : Bool), m = a.length - k → k ≤ a.length → m < n → Zap a b n v k = some (decide (a.drop k = b.drop k)) := by
 intro m
 induction m with
 | zero =>
  intro k n v hm hk hn
  obtain ⟨n, rfl⟩ : ∃ n', n = n' + 1 := ⟨n - 1, by omega⟩
  rw [Zap, List.drop_eq_nil_of_le (by omega), List.drop_eq_nil_of_le (by omega)]
  simp only [Bool.cond_decide, if_neg (show ¬ ((k : Int) < (a.length : Int)) by omega)]
  rfl
 | succ m ih =>
  intro k n v hm hk hn
  obtain ⟨n, rfl⟩ : ∃ n', n = n' + 1 := ⟨n - 1, by omega⟩
  obtain ⟨e, he, hd⟩ := Xw (show k < a.length by omega)
  obtain ⟨f, hf, hd2⟩ := Xw (show k < b.length by omega)
  rw [Zap, hd, hd2]
  simp only [Bool.cond_decide, if_pos (show ((k : Int) < (a.length : Int)) by omega), Zav, he, hf, Option.bind_some]
  rw [J7 (by omega), show ((k : Int) + 1) = ((k + 1 : Nat) : Int) by omega, ih (k + 1) n v (by omega) (by omega) (by omega)]
  by_cases h : e = f
  ·subst h; rw [if_neg (fun h => h rfl)]; congr 1; rw [Bool.eq_iff_iff]; simp
  ·rw [if_pos h]; congr 1; rw [Bool.eq_iff_iff]; simp [h]
theorem p_ints (a b : List Int) (hl : a.length ≤ 1000000) : Zce a b = some (decide (a = b)) := by
 unfold Zce
 by_cases h : a.length = b.length
 ·simp only [Bool.cond_decide, if_neg (show ¬ ((a.length : Int) ≠ (b.length : Int)) by omega)]
  have := p_ints_l1 a b hl h a.length 0 Xr false (by omega) (by omega) (by unfold Xr; omega)
  simpa using this
 ·simp only [Bool.cond_decide, if_pos (show ((a.length : Int) ≠ (b.length : Int)) by omega)]
  rw [decide_eq_false (fun h' => h (by rw [h']))]
theorem p_Same20_l1 (x y : Co) (h : BdC x) (hab : x.votes.length = y.votes.length) : ∀ (m k n : Nat) (v : Bool), m = x.votes.length - k → k ≤ x.votes.length → m < n → Zao x y n v k = some (decide (x.votes.drop k = y.votes.drop k ∧ x.next = y.next ∧ x.mtch = y.mtch ∧ x.caps = y.caps)) := by
 have hv := h.lv
 intro m
 induction m with
 | zero =>
  intro k n v hm hk hn
  obtain ⟨n, rfl⟩ : ∃ n', n = n' + 1 := ⟨n - 1, by omega⟩
  rw [Zao, List.drop_eq_nil_of_le (by omega), List.drop_eq_nil_of_le (by omega)]
  simp only [Bool.cond_decide, if_neg (show ¬ ((k : Int) < (x.votes.length : Int)) by omega), p_ints _ _ h.ln, p_ints _ _ h.lm, p_ints _ _ h.lc, Option.bind_some]
  (repeat' split) <;> (congr 1; rw [Bool.eq_iff_iff]; simp_all)
 | succ m ih =>
  intro k n v hm hk hn
  obtain ⟨n, rfl⟩ : ∃ n', n = n' + 1 := ⟨n - 1, by omega⟩
  obtain ⟨e, he, hd⟩ := Xw (show k < x.votes.length by omega)
  obtain ⟨f, hf, hd2⟩ := Xw (show k < y.votes.length by omega)
  rw [Zao, hd, hd2]
  simp only [Bool.cond_decide, if_pos (show ((k : Int) < (x.votes.length : Int)) by omega), Zav, he, hf, Option.bind_some]
  rw [J7 (by omega), show ((k : Int) + 1) = ((k + 1 : Nat) : Int) by omega, ih (k + 1) n v (by omega) (by omega) (by omega)]
  by_cases h : e = f
  ·subst h; rw [if_neg (fun h => h rfl)]; congr 1; rw [Bool.eq_iff_iff]; simp
  ·rw [if_pos h]; congr 1; rw [Bool.eq_iff_iff]; simp [h]
theorem p_Same20 (x y : Co) (h : BdC x) : Zb6 x y = some (decide (x = y)) := by
 have hv := h.lv
 obtain ⟨a1, a2, a3, a4, a5, a6, a7, a8, a9, a10, a11⟩ := x
 obtain ⟨b1, b2, b3, b4, b5, b6, b7, b8, b9, b10, b11⟩ := y
 simp only [Zb6, p_Same12 a5 b5 h.tup.1, snap_eq, Option.bind_some, Bool.cond_decide, Co.mk.injEq, Bool.cond_not]
 by_cases c1 : a1 = b1
 case neg => simp [c1]
 by_cases c2 : a2 = b2
 case neg => simp [c2]
 by_cases c3 : a3 = b3
 case neg => simp [c3]
 by_cases c4 : a4 = b4
 case neg => simp [c4]
 by_cases c5 : a5 = b5
 case neg => simp [c5]
 by_cases c6 : a6 = b6
 case neg => simp [c6]
 by_cases c7 : a7 = b7
 case neg => simp [c7]
 by_cases c8 : a8.length = b8.length
 case neg =>
  have : a8 ≠ b8 := fun h => c8 (by rw [h])
  simp [c8, this]
  intros; omega
 have := p_Same20_l1 ⟨a1, a2, a3, a4, a5, a6, a7, a8, a9, a10, a11⟩ ⟨b1, b2, b3, b4, b5, b6, b7, b8, b9, b10, b11⟩ h c8 a8.length 0 Xr false (by simp) (by omega) (by dsimp only at hv; unfold Xr; omega)
 dsimp only at this
 rw [show ((0 : Nat) : Int) = 0 from rfl] at this
 rw [this]
 subst c1; subst c2; subst c3; subst c4; subst c5; subst c6; subst c7
 simp [c8]
theorem p_Great_no (x : Co) (h : Zbp x = some false) : BdC x ∧ x.votes.length ≤ 9 ∧ x.next.length ≤ 9 ∧ x.mtch.length ≤ 9 ∧ x.caps.length ≤ 9 ∧ x.tuple.log.length ≤ 250 := by
 unfold Zbp Zdp at h
 simp only [Option.bind_some, Bool.cond_decide] at h
 repeat' split at h
 all_goals first | (cases h; done) | skip
 simp only [Option.some.injEq, decide_eq_false_iff_not] at h
 refine ⟨⟨⟨by omega, by omega, by omega⟩, by omega, by omega, by omega, by omega⟩, by omega, by omega, by omega, by omega, by omega⟩
theorem p_Great_some (x : Co) : ∃ b, Zbp x = some b := by
 unfold Zbp Zdp
 simp only [Option.bind_some, Bool.cond_decide]
 repeat' split
 all_goals exact ⟨_, rfl⟩
theorem RightC.bd {x : Co} (h : RightC x) : BdC x := by
 have h1 := Zfc _ h.tup
 have := h.n
 have := h.lv
 have := h.ln
 have := h.lm
 have := h.lc
 exact ⟨⟨by omega, h1.1, by omega⟩, by omega, by omega, by omega, by omega⟩
theorem p_State12' (x : Tu) (i : Int) (h : bdT x) : V8 x i = some ((stOf x i).getD ⟨0, 0, 0, 0, false⟩, (stOf x i).isSome) := by rw [p_State12 x i h, q_State x i h]
theorem p_Right20_l1 (x : Co) (hn : 1 ≤ x.n ∧ x.n ≤ 5) (hi : 1 ≤ x.id ∧ x.id ≤ x.n) (h2 : (x.next.length : Int) = x.n) (h3 : (x.mtch.length : Int) = x.n) (h4 : (x.caps.length : Int) = x.n) (hb : bdT x.tuple) : ∀ (m k n : Nat) (b : Bool), m = x.caps.length - k → k ≤ x.caps.length → m < n →
  Jz x x.tuple.last n b k = some (Zgm (InB (x.next.drop k) 1 (x.tuple.last + 1) ∧ InB (x.mtch.drop k) 0 x.tuple.last ∧ InB (x.caps.drop k) 0 2 ∧ x.caps[(x.id - 1).toNat]? = some x.binary ∧ (x.role = 0 ∨ (0 < x.tuple.term ∧ x.tuple.vote = x.id)))) := by
 have hlb := last_bd hb
 have hw : IntKind.wrap .i64 (x.tuple.last + 1) = x.tuple.last + 1 := J7 (by omega)
 obtain ⟨e0, he0, he1⟩ := own_get x hn hi h4
 intro m
 induction m with
 | zero =>
  intro k n b hm hk hn'
  obtain ⟨n, rfl⟩ : ∃ n', n = n' + 1 := ⟨n - 1, by omega⟩
  rw [Jz, List.drop_eq_nil_of_le (by omega), List.drop_eq_nil_of_le (by omega), List.drop_eq_nil_of_le (by omega)]
  simp only [Bool.cond_decide, if_neg (show ¬ ((k : Int) < x.n) by omega), he0, he1, Option.bind_some, Option.some.injEq]
  by_cases c1 : x.role = 0
  ·rw [if_neg (fun h => h c1), Zdf]; congr 1; exact Vp ⟨fun h => ⟨Zf3, Zf3, Zf3, h, .inl c1⟩, fun h => h.2.2.2.1⟩
  ·rw [if_pos c1]
   by_cases c2 : x.tuple.term < 1
   ·rw [if_pos c2, Yf]; rintro ⟨_, _, _, _, h | h⟩; exact c1 h; omega
   ·rw [if_neg c2]
    by_cases c3 : x.tuple.vote = x.id
    ·rw [if_neg (fun h => h c3), Zdf]; congr 1; exact Vp ⟨fun h => ⟨Zf3, Zf3, Zf3, h, .inr ⟨by omega, c3⟩⟩, fun h => h.2.2.2.1⟩
    ·rw [if_pos c3, Yf]; rintro ⟨_, _, _, _, h | h⟩; exact c1 h; exact c3 h.2
 | succ m ih =>
  intro k n b hm hk hn'
  obtain ⟨n, rfl⟩ : ∃ n', n = n' + 1 := ⟨n - 1, by omega⟩
  obtain ⟨e, he, hd⟩ := Xw (show k < x.next.length by omega)
  obtain ⟨f, hf, hd2⟩ := Xw (show k < x.mtch.length by omega)
  obtain ⟨g, hg, hd3⟩ := Xw (show k < x.caps.length by omega)
  rw [Jz, hd, hd2, hd3]
  simp only [Bool.cond_decide, if_pos (show ((k : Int) < x.n) by omega), Zav, he, hf, hg, Option.bind_some, hw]
  rw [J7 (n := (k : Int) + 1) (by omega), show ((k : Int) + 1) = ((k + 1 : Nat) : Int) by omega, ih (k + 1) n b (by omega) (by omega) (by omega)]
  by_cases c1 : e < 1
  ·rw [if_pos c1, Yf]; rintro ⟨h, _⟩; have := (InB_cons.1 h).1; omega
  rw [if_neg c1]
  by_cases c2 : x.tuple.last + 1 < e
  ·rw [if_pos c2, Yf]; rintro ⟨h, _⟩; have := (InB_cons.1 h).1; omega
  rw [if_neg c2]
  by_cases c3 : f < 0
  ·rw [if_pos c3, Yf]; rintro ⟨_, h, _⟩; have := (InB_cons.1 h).1; omega
  rw [if_neg c3]
  by_cases c4 : x.tuple.last < f
  ·rw [if_pos c4, Yf]; rintro ⟨_, h, _⟩; have := (InB_cons.1 h).1; omega
  rw [if_neg c4]
  by_cases c5 : g < 0
  ·rw [if_pos c5, Yf]; rintro ⟨_, _, h, _⟩; have := (InB_cons.1 h).1; omega
  rw [if_neg c5]
  by_cases c6 : 2 < g
  ·rw [if_pos c6, Yf]; rintro ⟨_, _, h, _⟩; have := (InB_cons.1 h).1; omega
  rw [if_neg c6]
  congr 1
  exact Vp ⟨fun h => ⟨InB_cons.2 ⟨by omega, h.1⟩, InB_cons.2 ⟨by omega, h.2.1⟩, InB_cons.2 ⟨by omega, h.2.2.1⟩, h.2.2.2⟩, fun h => ⟨(InB_cons.1 h.1).2, (InB_cons.1 h.2.1).2, (InB_cons.1 h.2.2.1).2, h.2.2.2⟩⟩
theorem Ze4 (x : Co) (h : BdC x) : Zbn x = some (Zb7 x) := by
 simp only [Zbn, p_Right12, p_State12' x.tuple x.commit h.tup, Zfq x.tuple h.tup, Option.bind_some, snap_eq, Bool.cond_decide]
 unfold Zb7
 by_cases c1 : x.n < 1
 ·rw [if_pos c1, Yf (p := RightC x) fun h => by have := h.n; omega]
 rw [if_neg c1]
 by_cases c2 : 5 < x.n
 ·rw [if_pos c2, Yf (p := RightC x) fun h => by have := h.n; omega]
 rw [if_neg c2]
 by_cases c3 : x.id < 1
 ·rw [if_pos c3, Yf (p := RightC x) fun h => by have := h.id; omega]
 rw [if_neg c3]
 by_cases c4 : x.n < x.id
 ·rw [if_pos c4, Yf (p := RightC x) fun h => by have := h.id; omega]
 rw [if_neg c4]
 by_cases c5 : 2 < x.role
 ·rw [if_pos c5, Yf (p := RightC x) fun h => by have := h.role; omega]
 rw [if_neg c5]
 by_cases c6 : x.binary < 1
 ·rw [if_pos c6, Yf (p := RightC x) fun h => by have := h.bin; omega]
 rw [if_neg c6]
 by_cases c7 : 2 < x.binary
 ·rw [if_pos c7, Yf (p := RightC x) fun h => by have := h.bin; omega]
 rw [if_neg c7]
 cases c8 : V7 x.tuple with
 | false => rw [Yf (p := RightC x) fun h => by have h2 := h.tup; rw [c8] at h2; cases h2]; rfl
 | true =>
  simp only [Bool.not_true, cond_false]
  cases c9 : stOf x.tuple x.commit with
  | none => rw [Yf (p := RightC x) fun h => by rw [h.st] at c9; cases c9]; rfl
  | some s =>
   simp only [Option.isSome_some, Option.getD_some, Bool.not_true, cond_false]
   by_cases d1 : s = x.applied
   case neg => rw [decide_eq_false d1, Yf (p := RightC x) fun h => d1 (by have := h.st; rw [c9] at this; exact QJ this)]; rfl
   rw [decide_eq_true d1]
   simp only [Bool.not_true, cond_false]
   by_cases d2 : (x.votes.length : Int) = x.n
   case neg => rw [if_pos d2, Yf (p := RightC x) fun h => d2 h.lv]
   rw [if_neg (fun h => h d2)]
   by_cases d3 : (x.next.length : Int) = x.n
   case neg => rw [if_pos d3, Yf (p := RightC x) fun h => d3 h.ln]
   rw [if_neg (fun h => h d3)]
   by_cases d4 : (x.mtch.length : Int) = x.n
   case neg => rw [if_pos d4, Yf (p := RightC x) fun h => d4 h.lm]
   rw [if_neg (fun h => h d4)]
   by_cases d5 : (x.caps.length : Int) = x.n
   case neg => rw [if_pos d5, Yf (p := RightC x) fun h => d5 h.lc]
   rw [if_neg (fun h => h d5)]
   have := p_Right20_l1 x (by omega) (by omega) d3 d4 d5 h.tup x.caps.length 0 Xr false (by omega) (by omega) (by have := h.lc; unfold Xr; omega)
   rw [show ((0 : Nat) : Int) = 0 from rfl] at this
   rw [this]
   simp only [List.drop_zero]
   congr 1
   subst d1
   exact Vp ⟨fun h => ⟨by omega, by omega, by omega, by omega, c8, c9, d2, d3, d4, d5, h.1, h.2.1, h.2.2.1, h.2.2.2.1, h.2.2.2.2⟩, fun h => ⟨h.next, h.mtch, h.caps, h.own, h.lead⟩⟩
end
section
open Go Go.RowKit
set_option maxRecDepth 100000
theorem p_eNumber (x : Int) : Vk x = some (numB x) := by
 unfold Vk numB
 by_cases h : 0 ≤ x <;> simp [h]
theorem p_eFine (x : St) : J8 x = some (Zbr x) := by
 obtain ⟨i, t, s, l, f⟩ := x
 simp only [J8, Zfh, p_eNumber, Option.bind_some, Zbr, firstS, numB, St.mk.injEq, Bool.cond_not, Bool.cond_decide]
 cases f <;> (repeat' split) <;> simp_all <;> omega
def entB (last term : Int) : List En → Prop
 | [] => True
 | e :: l => Zaa e = true ∧ (last ≤ e.term ∧ e.term ≤ term) ∧ entB e.term term l
structure FineM (m : Ms) (n : Int) : Prop where
 many : 1 ≤ n ∧ n ≤ 5
 frm : 1 ≤ m.frm ∧ m.frm ≤ n
 dst : 1 ≤ m.dst ∧ m.dst ≤ n
 ne : m.frm ≠ m.dst
 kind : 1 ≤ m.kind ∧ m.kind ≤ 5
 term : 1 ≤ m.term ∧ m.term ≤ 1073741824
 cap : 1 ≤ m.cap ∧ m.cap ≤ 2
 last : 0 ≤ m.last ∧ m.last ≤ 1073741824
 lastTerm : 0 ≤ m.lastTerm ∧ m.lastTerm ≤ 1073741824
 commit : 0 ≤ m.commit ∧ m.commit ≤ 1073741824
 ents : entB m.lastTerm m.term m.entries
 few : m.entries.length ≤ 4
 app : m.kind ≠ 3 → m.entries.length = 0 ∧ m.commit = 0
 okk : m.okk = true → m.kind = 2 ∨ m.kind = 4
 snap : m.kind = 5 → 0 < m.snap.index ∧ Zbr m.snap = true
 nosnap : m.kind ≠ 5 → m.snap = ⟨0, 0, 0, 0, false⟩
noncomputable def fineM (m : Ms) (n : Int) : Bool := Zgm (FineM m n)
structure BdM (m : Ms) : Prop where
 kind : 0 ≤ m.kind ∧ m.kind ≤ 255
 ents : m.entries.length ≤ 1000000
theorem p_entries_l1 (x : Ms) (h : x.entries.length ≤ 1000000) : ∀ (m k n : Nat) (v : Bool) (last : Int), m = x.entries.length - k → k ≤ x.entries.length → m < n → J2 x n v last k = some (Zgm (entB last x.term (x.entries.drop k) ∧ x.entries.length ≤ 4)) := by
 intro m
 induction m with
 | zero =>
  intro k n v last hm hk hn
  obtain ⟨n, rfl⟩ : ∃ n', n = n' + 1 := ⟨n - 1, by omega⟩
  rw [J2, List.drop_eq_nil_of_le (by omega)]
  simp only [Bool.cond_decide, if_neg (show ¬ ((k : Int) < (x.entries.length : Int)) by omega)]
  rw [Zdf]; congr 1
  exact Vp ⟨fun h => ⟨trivial, by omega⟩, fun h => by have := h.2; omega⟩
 | succ m ih =>
  intro k n v last hm hk hn
  obtain ⟨n, rfl⟩ : ∃ n', n = n' + 1 := ⟨n - 1, by omega⟩
  obtain ⟨e, he, hd⟩ := Xw (show k < x.entries.length by omega)
  rw [J2, hd]
  simp only [Bool.cond_decide, if_pos (show ((k : Int) < (x.entries.length : Int)) by omega), Zav, he, Option.bind_some, p_eRight, p_within]
  rw [J7 (by omega), show ((k : Int) + 1) = ((k + 1 : Nat) : Int) by omega, ih (k + 1) n v e.term (by omega) (by omega) (by omega)]
  cases c1 : Zaa e with
  | false => rw [Yf (p := entB last x.term (e :: x.entries.drop (k + 1)) ∧ x.entries.length ≤ 4) fun h => by have h2 := h.1.1; rw [c1] at h2; cases h2]; rfl
  | true =>
   by_cases c2 : last ≤ e.term ∧ e.term ≤ x.term
   ·rw [Xe c2]; show some _ = some _; congr 1
    exact Vp ⟨fun h => ⟨⟨c1, c2, h.1⟩, h.2⟩, fun h => ⟨h.1.2.2, h.2⟩⟩
   ·rw [Yf c2, Yf (p := entB last x.term (e :: x.entries.drop (k + 1)) ∧ x.entries.length ≤ 4) fun h => c2 h.1.2.1]; rfl
theorem p_entries (x : Ms) (h : x.entries.length ≤ 1000000) : Zdm x = some (Zgm (entB x.lastTerm x.term x.entries ∧ x.entries.length ≤ 4)) := by
 have := p_entries_l1 x h x.entries.length 0 Xr false x.lastTerm (by omega) (by omega) (by unfold Xr; omega)
 unfold Zdm
 simpa using this
theorem st_zero (s : St) : (decide (s.index = 0) && (decide (s.term = 0) && (decide (s.sum = 0) && (decide (s.level = 0) && decide (s.final = false))))) = decide (s = ⟨0, 0, 0, 0, false⟩) := by
 obtain ⟨a1, a2, a3, a4, a5⟩ := s
 rw [Bool.eq_iff_iff]; simp
theorem p_mFine (m : Ms) (n : Int) (h : BdM m) : Zez m n = some (fineM m n) := by
 have hw : IntKind.wrap .i64 m.kind = m.kind := J7 (by have := h.kind; omega)
 simp only [Zez, p_within, p_each [m.frm, m.dst] _ _ _ (by simp), p_each [m.last, m.lastTerm, m.commit] _ _ _ (by simp), p_entries m h.ents, p_eFine, Option.bind_some, hw, st_zero]
 unfold fineM
 by_cases c1 : 1 ≤ n ∧ n ≤ 5
 case neg => rw [Yf c1, Yf (p := FineM m n) fun h => c1 h.many]; rfl
 rw [Xe c1]
 by_cases c2 : (([m.frm, m.dst].length : Nat) : Int) = 2 ∧ InB [m.frm, m.dst] 1 n
 case neg => rw [Yf c2, Yf (p := FineM m n) fun h => c2 ⟨rfl, InB_cons.2 ⟨h.frm, InB_cons.2 ⟨h.dst, Zf3⟩⟩⟩]; rfl
 rw [Xe c2]
 have c21 := (InB_cons.1 c2.2).1
 have c22 := (InB_cons.1 (InB_cons.1 c2.2).2).1
 by_cases c3 : m.frm = m.dst
 case pos => rw [decide_eq_true c3, Yf (p := FineM m n) fun h => h.ne c3]; rfl
 rw [decide_eq_false c3]
 by_cases c4 : 1 ≤ m.kind ∧ m.kind ≤ 5
 case neg => rw [Yf c4, Yf (p := FineM m n) fun h => c4 h.kind]; rfl
 rw [Xe c4]
 by_cases c5 : 1 ≤ m.term ∧ m.term ≤ 1073741824
 case neg => rw [Yf c5, Yf (p := FineM m n) fun h => c5 h.term]; rfl
 rw [Xe c5]
 by_cases c6 : 1 ≤ m.cap ∧ m.cap ≤ 2
 case neg => rw [Yf c6, Yf (p := FineM m n) fun h => c6 h.cap]; rfl
 rw [Xe c6]
 by_cases c7 : (([m.last, m.lastTerm, m.commit].length : Nat) : Int) = 3 ∧ InB [m.last, m.lastTerm, m.commit] 0 1073741824
 case neg => rw [Yf c7, Yf (p := FineM m n) fun h => c7 ⟨rfl, InB_cons.2 ⟨h.last, InB_cons.2 ⟨h.lastTerm, InB_cons.2 ⟨h.commit, Zf3⟩⟩⟩⟩]; rfl
 rw [Xe c7]
 have c71 := (InB_cons.1 c7.2).1
 have c72 := (InB_cons.1 (InB_cons.1 c7.2).2).1
 have c73 := (InB_cons.1 (InB_cons.1 (InB_cons.1 c7.2).2).2).1
 by_cases c8 : entB m.lastTerm m.term m.entries ∧ m.entries.length ≤ 4
 case neg => rw [Yf c8, Yf (p := FineM m n) fun h => c8 ⟨h.ents, h.few⟩]; rfl
 rw [Xe c8]
 have yes : ∀ (d1 : m.kind ≠ 3 → m.entries.length = 0 ∧ m.commit = 0) (d2 : m.okk = true → m.kind = 2 ∨ m.kind = 4), (if m.kind = 5 then (if 0 < m.snap.index then some (Zbr m.snap) else some false) else some (decide (m.snap = ⟨0, 0, 0, 0, false⟩))) = some (Zgm (FineM m n)) := by
  intro d1 d2
  by_cases e1 : m.kind = 5
  ·rw [if_pos e1]
   by_cases e2 : 0 < m.snap.index
   ·rw [if_pos e2]
    cases e3 : Zbr m.snap with
    | true => rw [Xe (p := FineM m n) ⟨c1, c21, c22, c3, c4, c5, c6, c71, c72, c73, c8.1, c8.2, d1, d2, fun _ => ⟨e2, e3⟩, fun h => (h e1).elim⟩]
    | false => rw [Yf (p := FineM m n) fun h => by have h2 := (h.snap e1).2; rw [e3] at h2; cases h2]
   ·rw [if_neg e2, Yf (p := FineM m n) fun h => e2 (h.snap e1).1]
  ·rw [if_neg e1, Zdf]
   congr 1
   exact Vp ⟨fun e2 => ⟨c1, c21, c22, c3, c4, c5, c6, c71, c72, c73, c8.1, c8.2, d1, d2, fun h => (e1 h).elim, fun _ => e2⟩, fun h => h.nosnap e1⟩
 simp only [Bool.not_true, cond_false, Bool.cond_decide]
 by_cases d1 : m.kind = 3
 ·rw [if_neg (fun h => h d1)]
  cases d2 : m.okk with
  | false => exact yes (fun h => (h d1).elim) (fun h => by rw [d2] at h; cases h)
  | true =>
   rw [if_pos (by omega), if_pos (by omega), Yf (p := FineM m n) fun h => by have := h.okk d2; omega]; rfl
 ·rw [if_pos d1]
  by_cases d3 : (0 : Int) < (m.entries.length : Int)
  ·rw [if_pos d3, Yf (p := FineM m n) fun h => by have := (h.app d1).1; omega]
  rw [if_neg d3]
  by_cases d4 : 0 < m.commit
  ·rw [if_pos d4, Yf (p := FineM m n) fun h => by have := (h.app d1).2; omega]
  rw [if_neg d4]
  have d5 : m.kind ≠ 3 → m.entries.length = 0 ∧ m.commit = 0 := fun _ => ⟨by omega, by omega⟩
  cases d2 : m.okk with
  | false => exact yes d5 (fun h => by rw [d2] at h; cases h)
  | true =>
   show (if m.kind ≠ 2 then _ else _) = _
   by_cases d6 : m.kind = 2
   ·rw [if_neg (fun h => h d6)]; exact yes d5 (fun _ => .inl d6)
   ·rw [if_pos d6]
    by_cases d7 : m.kind = 4
    ·rw [if_neg (fun h => h d7)]; exact yes d5 (fun _ => .inr d7)
    ·rw [if_pos d7, Yf (p := FineM m n) fun h => by have := h.okk d2; omega]
end
section
open Go Go.RowKit
set_option maxRecDepth 100000
def ToC (x : Co) (m : Ms) : Prop := m.dst = x.id ∧ RightC x ∧ FineM m x.n
theorem p_To (x : Co) (m : Ms) (hx : BdC x) (hm : BdM m) : Zct x m = some (Zgm (ToC x m)) := by
 simp only [Zct, Zfl x hx, p_mFine m x.n hm, Option.bind_some, Bool.cond_decide]
 by_cases c1 : m.dst = x.id
 case neg => rw [if_pos c1, Yf fun h => c1 h.1]
 rw [if_neg (fun h => h c1)]
 unfold Zb7 fineM
 by_cases c2 : RightC x
 case neg => rw [Yf c2, Yf (p := ToC x m) fun h => c2 h.2.1]; rfl
 rw [Xe c2]
 show some _ = some _
 congr 1
 exact Vp ⟨fun h => ⟨c1, c2, h⟩, fun h => h.2.2⟩
open Classical in
noncomputable def hearC (x : Co) (m : Ms) : Co := if ToC x m then { x with caps := x.caps.set (m.frm - 1).toNat m.cap } else x
theorem idx_in {α : Type} (l : List α) (i : Int) (h : 1 ≤ i ∧ i ≤ (l.length : Int)) (hl : l.length ≤ 1000000) : ∃ e, idx l (i - 1) = some e ∧ l[(i - 1).toNat]? = some e ∧ IntKind.wrap .i64 (i - 1) = i - 1 := by
 have hw : i - 1 = (((i - 1).toNat : Nat) : Int) := by omega
 obtain ⟨e, he, _⟩ := Xw (show (i - 1).toNat < l.length by omega)
 exact ⟨e, by rw [hw, Zav]; exact he, he, J7 (by omega)⟩
theorem p_Hear (x : Co) (m : Ms) (hx : BdC x) (hm : BdM m) : Zde x m = some (hearC x m) := by
 simp only [Zde, p_To x m hx hm, p_mOwn x hx, Zfl x hx, Option.bind_some]
 unfold hearC
 by_cases c1 : ToC x m
 ·rw [Xe c1, if_pos c1]
  unfold Zb7
  rw [Xe c1.2.1]
  obtain ⟨e, he, _, hw⟩ := idx_in x.caps m.frm (by have := c1.2.2.frm; have := c1.2.1.lc; omega) hx.lc
  simp only [cond_true, he, Option.bind_some, hw]
  rfl
 ·rw [Yf c1, if_neg c1]; rfl
theorem hear_right (x : Co) (m : Ms) (h : RightC x) : RightC (hearC x m) := by
 unfold hearC
 split
 ·rename_i c
  have hf := c.2.2
  refine ⟨h.n, h.id, h.role, h.bin, h.tup, h.st, h.lv, h.ln, h.lm, ?_, h.next, h.mtch, InB.set h.caps (by have := hf.cap; omega), ?_, h.lead⟩
  ·dsimp only; rw [List.length_set]; exact h.lc
  ·dsimp only
   rw [List.getElem?_set_ne]
   ·exact h.own
   ·have h1 := hf.ne; have h2 := c.1; have h3 := hf.frm; have h4 := h.id; omega
 ·exact h
end
section
open Go Go.RowKit
set_option maxRecDepth 100000
theorem q_Append (x : Tu) (l : List En) (h : x.log.length ≤ 1000000 ∧ l.length ≤ 300) : Zaf x l = some (Zch x (some { x with log := x.log ++ l }), Zhh x (some { x with log := x.log ++ l })) := by unfold Zaf; rw [decide_eq_true h]; rfl
theorem p_tTermAt (x : Tu) (i : Int) (h : bdT x) : Za2 x i = some ((V2 x i).getD 0, (V2 x i).isSome) := by
 obtain ⟨h1, h2, h3⟩ := h
 unfold Za2 m_tuple_At V2
 rw [Zgv x ⟨h1, h2, h3⟩]
 unfold Tu.last
 simp only [Option.bind_some, Bool.cond_decide]
 by_cases hi : i = x.snap.index
 ·rw [if_pos hi, if_pos hi]; rfl
 ·rw [if_neg hi, if_neg hi]
  by_cases h4 : i ≤ x.snap.index
  ·rw [if_pos h4, if_neg (by omega)]; rfl
  ·rw [if_neg h4]
   by_cases h5 : x.snap.index + (x.log.length : Int) < i
   ·rw [if_pos h5, if_neg (by omega)]; rfl
   ·rw [if_neg h5, if_pos (by omega)]
    obtain ⟨k, hk⟩ : ∃ k : Nat, i = x.snap.index + 1 + k := ⟨(i - x.snap.index - 1).toNat, by omega⟩
    have e1 : IntKind.wrap .i64 (i - x.snap.index) = i - x.snap.index := J7 (by omega)
    have e2 : IntKind.wrap .i64 (i - x.snap.index - 1) = (k : Int) := by rw [J7 (by omega)]; omega
    have e3 : (i - x.snap.index - 1).toNat = k := by omega
    rw [e1, e2, e3, Zav]
    obtain ⟨e, he, _⟩ := Xw (show k < x.log.length by omega)
    rw [he]; rfl
theorem p_TermAt12 (x : Tu) (i : Int) (h : bdT x) : Zbv x i = some ((V2 x i).getD 0, (V2 x i).isSome) := p_tTermAt x i h
theorem chg_eq (x : Tu) (res : Option Tu) : (Zch x res, Zhh x res) = if V7 x = true then (match res with | some y => if V7 y = true then (y, (0 : Int)) else (x, 2) | none => (x, 2)) else (x, 2) := by
 unfold Zch Zhh
 by_cases hT : V7 x = true
 ·rw [if_pos hT]
  cases res with
  | none =>
   have : Zcy x none = none := by unfold Zcy; rw [if_pos hT]
   rw [this]
  | some y =>
   by_cases hy : V7 y = true
   ·have : Zcy x (some y) = some y := by unfold Zcy; rw [if_pos hT]; exact if_pos hy
    rw [this]; dsimp only; rw [if_pos hy]
   ·have : Zcy x (some y) = none := by unfold Zcy; rw [if_pos hT]; exact if_neg hy
    rw [this]; dsimp only; rw [if_neg hy]
 ·have : Zcy x res = none := if_neg hT
  rw [this, if_neg hT]
theorem chg_none (x : Tu) : (Zch x none, Zhh x none) = (x, (2 : Int)) := by
 rw [chg_eq]; split <;> rfl
theorem Zha (x y : Tu) : (Zch x (some y), Zhh x (some y)) = if V7 x = true then (if V7 y = true then (y, (0 : Int)) else (x, 2)) else (x, 2) := by rw [chg_eq]
theorem Zhl {x : Co} (h : RightC x) : x.tuple.snap.index ≤ x.commit ∧ x.commit ≤ x.tuple.last := by
 have := h.st
 unfold stOf at this
 split at this
 ·assumption
 ·cases this
theorem InB.mono {l : List Int} {a b c d : Int} (h : InB l a b) (h1 : c ≤ a) (h2 : b ≤ d) : InB l c d := fun x hx => by have := h x hx; omega
end
section
open Go Go.RowKit
set_option maxRecDepth 100000
theorem q_Cut (x : Tu) (i : Int) (h : x.log.length ≤ 1000000) : Zd4 x i = some (Zch x (Zg7 x i), Zhh x (Zg7 x i)) := by unfold Zd4; rw [decide_eq_true h]; rfl
theorem q_Hard (x : Tu) (t v : Int) (h : x.log.length ≤ 1000000) : Zb9 x t v = some (Zch x (Zfx x t v), Zhh x (Zfx x t v)) := by unfold Zb9; rw [decide_eq_true h]; rfl
theorem p_fits (x : Co) (m : Ms) (hx : BdC x) (hm : BdM m) : Zej x m = some (Zgm (ToC x m)) := by
 simp only [Zej, Zfl x hx, p_mFine m x.n hm, Option.bind_some, Bool.cond_decide]
 by_cases c1 : m.dst = x.id
 case neg => rw [if_neg c1, Yf fun h => c1 h.1]
 rw [if_pos c1]
 unfold Zb7 fineM
 by_cases c2 : FineM m x.n
 case neg => rw [Yf c2, Yf (p := ToC x m) fun h => c2 h.2.2]; rfl
 rw [Xe c2]
 show some _ = some _
 congr 1
 exact Vp ⟨fun h => ⟨c1, h, c2⟩, fun h => h.2.1⟩
theorem hard_yes (x : Tu) (t v : Int) (hx : V7 x = true) (h : x.term < t ∨ t = x.term ∧ (x.vote = 0 ∨ x.vote = v)) (ht : t ≤ 1073741824) (hv : 0 ≤ v ∧ v ≤ 5) : V7 { x with term := t, vote := v } = true ∧ Zb9 x t v = some ({ x with term := t, vote := v }, 0) := by
 obtain ⟨g1, g2, g3, g4⟩ := (tupB_iff x).1 hx
 have hT : V7 { x with term := t, vote := v } = true := (tupB_iff _).2 ⟨g1, ⟨g2.1, g2.2.1, hv.1, hv.2, ht⟩, g3, by dsimp only; omega⟩
 refine ⟨hT, ?_⟩
 rw [q_Hard x t v (by omega)]
 have hr : Zfx x t v = some { x with term := t, vote := v } := by unfold Zfx; rw [if_pos h]
 have := chg_yes x _ _ hx hr hT
 rw [this.1, this.2]
theorem hear_no (x : Co) (m : Ms) (h : ¬ ToC x m) : hearC x m = x := by unfold hearC; rw [if_neg h]
theorem hear_eq (x : Co) (m : Ms) (h : ToC x m) : hearC x m = { x with caps := x.caps.set (m.frm - 1).toNat m.cap } := by unfold hearC; rw [if_pos h]
open Classical in
noncomputable def Xo (x : Co) (m : Ms) : Co := if ToC x m ∧ x.tuple.term < m.term then { x with caps := x.caps.set (m.frm - 1).toNat m.cap, tuple := { x.tuple with term := m.term, vote := 0 }, role := 0, votes := List.replicate x.n.toNat false } else hearC x m
theorem p_Meet (x : Co) (m : Ms) (hx : BdC x) (hm : BdM m) : Zc4 x m = some (Xo x m) := by
 simp only [Zc4, p_mOwn x hx, p_fits x m hx hm, p_Hear x m hx hm, Option.bind_some, Bool.cond_decide]
 unfold Xo
 by_cases c1 : ToC x m
 case neg => rw [Yf c1, if_neg (show ¬ (ToC x m ∧ x.tuple.term < m.term) from fun h => c1 h.1), hear_no x m c1]; rfl
 rw [Xe c1]
 simp only [Bool.not_true, cond_false]
 rw [hear_eq x m c1]
 by_cases c2 : x.tuple.term < m.term
 ·rw [if_pos (show ToC x m ∧ x.tuple.term < m.term from ⟨c1, c2⟩), if_pos (show x.tuple.term < m.term from c2)]
  have hH := (hard_yes x.tuple m.term 0 c1.2.1.tup (.inl c2) c1.2.2.term.2 (by omega)).2
  have hn := c1.2.1.n
  obtain ⟨N, hN⟩ : ∃ N : Nat, x.n = (N : Int) := ⟨x.n.toNat, by omega⟩
  have hk : makeI false x.n = some (List.replicate x.n.toNat false) := by rw [hN, makeI_nat _ N (by omega), Int.toNat_natCast]
  simp only [hH, hk, Option.bind_some]
 ·rw [if_neg (show ¬ (ToC x m ∧ x.tuple.term < m.term) from fun h => c2 h.2), if_neg (show ¬ x.tuple.term < m.term from c2)]
theorem Zdz (x : Co) (m : Ms) (h : RightC x) : RightC (Xo x m) := by
 unfold Xo
 split
 ·rename_i c
  have hh := hear_right x m h
  rw [hear_eq x m c.1] at hh
  have hn := h.n
  refine ⟨h.n, h.id, by show (0 : Int) ≤ 2; decide, h.bin, (hard_yes x.tuple m.term 0 h.tup (.inl c.2) c.1.2.2.term.2 (by omega)).1, h.st, ?_, h.ln, h.lm, hh.lc, h.next, h.mtch, hh.caps, hh.own, .inl rfl⟩
  dsimp only; rw [List.length_replicate]; omega
 ·exact hear_right x m h
structure MeetF (x y : Co) : Prop where
 id : y.id = x.id
 n : y.n = x.n
 binary : y.binary = x.binary
 commit : y.commit = x.commit
 applied : y.applied = x.applied
 next : y.next = x.next
 mtch : y.mtch = x.mtch
 snap : y.tuple.snap = x.tuple.snap
 log : y.tuple.log = x.tuple.log
 term : x.tuple.term ≤ y.tuple.term
theorem meet_f (x : Co) (m : Ms) : MeetF x (Xo x m) := by
 unfold Xo
 split
 ·rename_i c
  exact ⟨rfl, rfl, rfl, rfl, rfl, rfl, rfl, rfl, rfl, by dsimp only; omega⟩
 ·by_cases c : ToC x m
  ·rw [hear_eq x m c]; exact ⟨rfl, rfl, rfl, rfl, rfl, rfl, rfl, rfl, rfl, Int.le_refl _⟩
  ·rw [hear_no x m c]; exact ⟨rfl, rfl, rfl, rfl, rfl, rfl, rfl, rfl, rfl, Int.le_refl _⟩
theorem MeetF.last {x y : Co} (h : MeetF x y) : y.tuple.last = x.tuple.last := by unfold Tu.last; rw [h.snap, h.log]
theorem meet_term (x : Co) (m : Ms) (h : ToC x m) : (x.tuple.term < m.term ∧ (Xo x m).tuple.term = m.term ∧ (Xo x m).tuple.vote = 0 ∧ (Xo x m).role = 0) ∨ (m.term ≤ x.tuple.term ∧ Xo x m = { x with caps := x.caps.set (m.frm - 1).toNat m.cap }) := by
 by_cases c : x.tuple.term < m.term
 ·left
  unfold Xo
  rw [if_pos ⟨h, c⟩]
  exact ⟨c, rfl, rfl, rfl⟩
 ·right
  unfold Xo
  rw [if_neg (fun h => c h.2), hear_eq x m h]
  exact ⟨by omega, rfl⟩
theorem meet_ge (x : Co) (m : Ms) (h : ToC x m) : m.term ≤ (Xo x m).tuple.term := by
 rcases meet_term x m h with ⟨_, h2, _⟩ | ⟨h1, h2⟩
 ·rw [h2]; exact Int.le_refl _
 ·rw [h2]; exact h1
theorem meet_caps (x : Co) (m : Ms) (h : ToC x m) : (Xo x m).caps = x.caps.set (m.frm - 1).toNat m.cap := by
 unfold Xo
 split
 ·rfl
 ·rw [hear_eq x m h]
def mapTo (f : Int → Int) (k : Nat) (l : List Int) : List Int := (l.take k).map f ++ l.drop k
theorem mapTo_get (f : Int → Int) (l : List Int) (k : Nat) (e : Int) (h : l[k]? = some e) : (mapTo f k l)[k]? = some e := by
 have hk := (List.getElem?_eq_some_iff.1 h).1
 unfold mapTo
 rw [List.getElem?_append_right (by rw [List.length_map, List.length_take]; omega), List.length_map, List.length_take, List.getElem?_drop, ← h]
 congr 1; omega
theorem mapTo_set (f : Int → Int) (l : List Int) (k : Nat) (e : Int) (h : l[k]? = some e) : (mapTo f k l).set k (f e) = mapTo f (k + 1) l := by
 have hk := (List.getElem?_eq_some_iff.1 h).1
 obtain ⟨e', he', hd⟩ := Xw hk
 rw [h] at he'
 obtain rfl := QJ he'
 unfold mapTo
 rw [List.set_append, if_neg (by rw [List.length_map, List.length_take]; omega), hd, List.take_add_one, h]
 have : k - ((l.take k).map f).length = 0 := by rw [List.length_map, List.length_take]; omega
 rw [this]
 simp
theorem mapTo_all (f : Int → Int) (l : List Int) (k : Nat) (h : l.length ≤ k) : mapTo f k l = l.map f := by
 unfold mapTo
 rw [List.take_of_length_le h, List.drop_eq_nil_of_le h, List.append_nil]
theorem mapTo_zero (f : Int → Int) (l : List Int) : mapTo f 0 l = l := by simp [mapTo]
theorem setI_nat {α : Type} (l : List α) (k : Nat) (v : α) : Zbe l (k : Int) v = l.set k v := by unfold Zbe; simp
def fitC (x : Co) : Co := { x with next := x.next.map (fun e => min e (x.tuple.last + 1)), mtch := x.mtch.map (fun e => min e x.tuple.last) }
theorem p_Fit_l2 (x : Co) (r : Int) (v : List Int) (hl : x.mtch.length ≤ 1000000) : ∀ (q k n : Nat), q = x.mtch.length - k → k ≤ x.mtch.length → q < n → J3 x r v n k (mapTo (fun e => min e r) k x.mtch) = some { x with next := v, mtch := x.mtch.map (fun e => min e r) } := by
 intro q
 induction q with
 | zero =>
  intro k n hq hk hn
  obtain ⟨n, rfl⟩ : ∃ n', n = n' + 1 := ⟨n - 1, by omega⟩
  rw [J3, mapTo_all _ _ _ (by omega)]
  simp only [Bool.cond_decide, if_neg (show ¬ (k : Int) < (x.mtch.length : Int) by omega)]
 | succ q ih =>
  intro k n hq hk hn
  obtain ⟨n, rfl⟩ : ∃ n', n = n' + 1 := ⟨n - 1, by omega⟩
  obtain ⟨e, he, _⟩ := Xw (show k < x.mtch.length by omega)
  rw [J3]
  simp only [Bool.cond_decide, if_pos (show (k : Int) < (x.mtch.length : Int) by omega), Zav, mapTo_get _ _ _ _ he, Option.bind_some, setI_nat]
  have := mapTo_set (fun e => min e r) x.mtch k e he
  rw [this, J7 (by omega), show ((k : Int) + 1) = ((k + 1 : Nat) : Int) by omega, ih (k + 1) n (by omega) (by omega) (by omega)]
theorem p_Fit_l1 (x : Co) (r : Int) (hl : x.next.length ≤ 1000000) (hl2 : x.mtch.length ≤ 1000000) (hr : -3000000000000 ≤ r ∧ r ≤ 3000000000000) : ∀ (q k n : Nat), q = x.next.length - k → k ≤ x.next.length → q < n → J6 x r n k (mapTo (fun e => min e (r + 1)) k x.next) = some { x with next := x.next.map (fun e => min e (r + 1)), mtch := x.mtch.map (fun e => min e r) } := by
 intro q
 induction q with
 | zero =>
  intro k n hq hk hn
  obtain ⟨n, rfl⟩ : ∃ n', n = n' + 1 := ⟨n - 1, by omega⟩
  rw [J6, mapTo_all _ _ _ (by omega)]
  simp only [Bool.cond_decide, if_neg (show ¬ (k : Int) < (x.next.length : Int) by omega)]
  have := p_Fit_l2 x r (x.next.map fun e => min e (r + 1)) hl2 x.mtch.length 0 Xr (by omega) (by omega) (by unfold Xr; omega)
  rw [mapTo_zero] at this
  exact this
 | succ q ih =>
  intro k n hq hk hn
  obtain ⟨n, rfl⟩ : ∃ n', n = n' + 1 := ⟨n - 1, by omega⟩
  obtain ⟨e, he, _⟩ := Xw (show k < x.next.length by omega)
  rw [J6]
  simp only [Bool.cond_decide, if_pos (show (k : Int) < (x.next.length : Int) by omega), Zav, mapTo_get _ _ _ _ he, Option.bind_some, setI_nat, J7 (n := r + 1) (by omega)]
  have := mapTo_set (fun e => min e (r + 1)) x.next k e he
  rw [this, J7 (by omega), show ((k : Int) + 1) = ((k + 1 : Nat) : Int) by omega, ih (k + 1) n (by omega) (by omega) (by omega)]
theorem p_Fit (x : Co) (h : BdC x) : J0 x = some (fitC x) := by
 have hb := last_bd h.tup
 have := p_Fit_l1 x x.tuple.last h.ln h.lm hb x.next.length 0 Xr (by omega) (by omega) (by have := h.ln; unfold Xr; omega)
 rw [mapTo_zero] at this
 simp only [J0, p_mOwn x h, Option.bind_some, Zgv x.tuple h.tup]
 exact this
theorem map_min_in {l : List Int} {lo hi hi' : Int} (h : InB l lo hi') (hl : lo ≤ hi) : InB (l.map (fun e => min e hi)) lo hi := fun x hx => by
 obtain ⟨a, ha, rfl⟩ := List.mem_map.1 hx
 have := h a ha
 omega
def Zhj (y : Co) (m : Ms) (k : Int) (ok : Bool) (last : Int) : Ms := ⟨k, y.id, m.frm, y.tuple.term, y.binary, last, 0, 0, ok, [], ⟨0, 0, 0, 0, false⟩⟩
end
section
open Go Go.RowKit
set_option maxRecDepth 100000
theorem p_Alike_self (a : Ms) (h : a.entries.length ≤ 1000000) : Zcj a a = some true := by
 unfold Zcj
 simp only [decide_true, cond_true, Bool.and_true, p_Same a.entries a.entries h, Option.bind_some]
theorem p_number20 (x : Int) : Za3 x = some (numB x) := by
 unfold Za3 numB
 by_cases h : 0 ≤ x <;> simp [h]
theorem p_entries20_l1 (x : Ms) (h : x.entries.length ≤ 1000000) : ∀ (m k n : Nat) (v : Bool) (last : Int), m = x.entries.length - k → k ≤ x.entries.length → m < n → Je x n v last k = some (Zgm (entB last x.term (x.entries.drop k) ∧ x.entries.length ≤ 4)) := by
 intro m
 induction m with
 | zero =>
  intro k n v last hm hk hn
  obtain ⟨n, rfl⟩ : ∃ n', n = n' + 1 := ⟨n - 1, by omega⟩
  rw [Je, List.drop_eq_nil_of_le (by omega)]
  simp only [Bool.cond_decide, if_neg (show ¬ ((k : Int) < (x.entries.length : Int)) by omega)]
  rw [Zdf]; congr 1
  exact Vp ⟨fun h => ⟨trivial, by omega⟩, fun h => by have := h.2; omega⟩
 | succ m ih =>
  intro k n v last hm hk hn
  obtain ⟨n, rfl⟩ : ∃ n', n = n' + 1 := ⟨n - 1, by omega⟩
  obtain ⟨e, he, hd⟩ := Xw (show k < x.entries.length by omega)
  rw [Je, hd]
  simp only [Bool.cond_decide, if_pos (show ((k : Int) < (x.entries.length : Int)) by omega), Zav, he, Option.bind_some, p_Right]
  rw [J7 (by omega), show ((k : Int) + 1) = ((k + 1 : Nat) : Int) by omega, ih (k + 1) n v e.term (by omega) (by omega) (by omega)]
  cases c1 : Zaa e with
  | false => rw [Yf (p := entB last x.term (e :: x.entries.drop (k + 1)) ∧ x.entries.length ≤ 4) fun h => by have h2 := h.1.1; rw [c1] at h2; cases h2]; rfl
  | true =>
   simp only [Bool.not_true, cond_false]
   by_cases c2 : e.term < last
   ·rw [if_pos c2, Yf (p := entB last x.term (e :: x.entries.drop (k + 1)) ∧ x.entries.length ≤ 4) fun h => by have h2 := h.1.2.1; omega]
   rw [if_neg c2]
   by_cases c3 : x.term < e.term
   ·rw [if_pos c3, Yf (p := entB last x.term (e :: x.entries.drop (k + 1)) ∧ x.entries.length ≤ 4) fun h => by have h2 := h.1.2.1; omega]
   rw [if_neg c3]
   congr 1
   exact Vp ⟨fun h => ⟨⟨c1, ⟨by omega, by omega⟩, h.1⟩, h.2⟩, fun h => ⟨h.1.2.2, h.2⟩⟩
theorem p_entries20 (x : Ms) (h : x.entries.length ≤ 1000000) : Zcg x = some (Zgm (entB x.lastTerm x.term x.entries ∧ x.entries.length ≤ 4)) := by
 have := p_entries20_l1 x h x.entries.length 0 Xr false x.lastTerm (by omega) (by omega) (by unfold Xr; omega)
 unfold Zcg
 simpa using this
theorem numB_no {x : Int} (h : numB x = false) : ¬ (0 ≤ x ∧ x ≤ 1073741824) := fun h2 => by rw [numB, decide_eq_true h2] at h; cases h
theorem numB_yes {x : Int} (h : numB x = true) : 0 ≤ x ∧ x ≤ 1073741824 := of_decide_eq_true h
theorem p_Fine20 (m : Ms) (n : Int) (h : BdM m) : Zc2 m n = some (fineM m n) := by
 simp only [Zc2, p_number20, p_entries20 m h.ents, p_Fine, Option.bind_some, st_zero, Bool.cond_decide]
 unfold fineM
 by_cases c0 : n < 1
 ·rw [if_pos c0, Yf (p := FineM m n) fun h => by have := h.many; omega]
 rw [if_neg c0]
 by_cases c1 : 5 < n
 ·rw [if_pos c1, Yf (p := FineM m n) fun h => by have := h.many; omega]
 rw [if_neg c1]
 by_cases c2 : m.frm < 1
 ·rw [if_pos c2, Yf (p := FineM m n) fun h => by have := h.frm; omega]
 rw [if_neg c2]
 by_cases c3 : n < m.frm
 ·rw [if_pos c3, Yf (p := FineM m n) fun h => by have := h.frm; omega]
 rw [if_neg c3]
 by_cases c4 : m.dst < 1
 ·rw [if_pos c4, Yf (p := FineM m n) fun h => by have := h.dst; omega]
 rw [if_neg c4]
 by_cases c5 : n < m.dst
 ·rw [if_pos c5, Yf (p := FineM m n) fun h => by have := h.dst; omega]
 rw [if_neg c5]
 by_cases c6 : m.frm = m.dst
 ·rw [if_pos c6, Yf (p := FineM m n) fun h => h.ne c6]
 rw [if_neg c6]
 by_cases c7 : m.kind < 1
 ·rw [if_pos c7, Yf (p := FineM m n) fun h => by have := h.kind; omega]
 rw [if_neg c7]
 by_cases c8 : 6 ≤ m.kind
 ·rw [if_pos c8, Yf (p := FineM m n) fun h => by have := h.kind; omega]
 rw [if_neg c8]
 by_cases c9 : m.term < 1
 ·rw [if_pos c9, Yf (p := FineM m n) fun h => by have := h.term; omega]
 rw [if_neg c9]
 by_cases c10 : 1073741824 < m.term
 ·rw [if_pos c10, Yf (p := FineM m n) fun h => by have := h.term; omega]
 rw [if_neg c10]
 by_cases c11 : m.cap < 1
 ·rw [if_pos c11, Yf (p := FineM m n) fun h => by have := h.cap; omega]
 rw [if_neg c11]
 by_cases c12 : 2 < m.cap
 ·rw [if_pos c12, Yf (p := FineM m n) fun h => by have := h.cap; omega]
 rw [if_neg c12]
 cases d0 : numB m.last with
 | false => rw [Yf (p := FineM m n) fun h => numB_no d0 h.last]; rfl
 | true =>
 have d0' := numB_yes d0
 cases d1 : numB m.lastTerm with
 | false => rw [Yf (p := FineM m n) fun h => numB_no d1 h.lastTerm]; rfl
 | true =>
 have d1' := numB_yes d1
 cases d2 : numB m.commit with
 | false => rw [Yf (p := FineM m n) fun h => numB_no d2 h.commit]; rfl
 | true =>
 have d2' := numB_yes d2
 by_cases c20 : entB m.lastTerm m.term m.entries ∧ m.entries.length ≤ 4
 case neg => rw [Yf c20, Yf (p := FineM m n) fun h => c20 ⟨h.ents, h.few⟩]; rfl
 rw [Xe c20]
 simp only [Bool.not_true, cond_false]
 have yes : ∀ (d1 : m.kind ≠ 3 → m.entries.length = 0 ∧ m.commit = 0) (d2 : m.okk = true → m.kind = 2 ∨ m.kind = 4), (if m.kind = 5 then (cond (Zbr m.snap) (some (decide (0 < m.snap.index))) (some false)) else some (decide (m.snap = ⟨0, 0, 0, 0, false⟩))) = some (Zgm (FineM m n)) := by
  intro d1 d2
  have mk : (m.kind = 5 → 0 < m.snap.index ∧ Zbr m.snap = true) → (m.kind ≠ 5 → m.snap = ⟨0, 0, 0, 0, false⟩) → FineM m n := fun s1 s2 =>
   ⟨⟨by omega, by omega⟩, ⟨by omega, by omega⟩, ⟨by omega, by omega⟩, c6, ⟨by omega, by omega⟩, ⟨by omega, by omega⟩, ⟨by omega, by omega⟩, d0', d1', d2', c20.1, c20.2, d1, d2, s1, s2⟩
  by_cases e1 : m.kind = 5
  ·rw [if_pos e1]
   cases e3 : Zbr m.snap with
   | true =>
    simp only [cond_true]
    rw [Zdf]
    congr 1
    exact Vp ⟨fun e2 => mk (fun _ => ⟨e2, e3⟩) (fun h => (h e1).elim), fun h => (h.snap e1).1⟩
   | false => rw [Yf (p := FineM m n) fun h => by have h2 := (h.snap e1).2; rw [e3] at h2; cases h2]; rfl
  ·rw [if_neg e1, Zdf]
   congr 1
   exact Vp ⟨fun e2 => mk (fun h => (e1 h).elim) (fun _ => e2), fun h => h.nosnap e1⟩
 by_cases e1 : m.kind = 3
 ·rw [if_neg (fun h => h e1)]
  cases e2 : m.okk with
  | false => exact yes (fun h => (h e1).elim) (fun h => by rw [e2] at h; cases h)
  | true =>
   simp only [cond_true]
   rw [if_pos (by omega), if_pos (by omega), Yf (p := FineM m n) fun h => by have := h.okk e2; omega]
 ·rw [if_pos e1]
  by_cases e3 : (0 : Int) < (m.entries.length : Int)
  ·rw [if_pos e3, Yf (p := FineM m n) fun h => by have := (h.app e1).1; omega]
  rw [if_neg e3]
  by_cases e4 : 0 < m.commit
  ·rw [if_pos e4, Yf (p := FineM m n) fun h => by have := (h.app e1).2; omega]
  rw [if_neg e4]
  have e5 : m.kind ≠ 3 → m.entries.length = 0 ∧ m.commit = 0 := fun _ => ⟨by omega, by omega⟩
  cases e2 : m.okk with
  | false => exact yes e5 (fun h => by rw [e2] at h; cases h)
  | true =>
   simp only [cond_true]
   by_cases e6 : m.kind = 2
   ·rw [if_neg (fun h => h e6)]; exact yes e5 (fun _ => .inl e6)
   ·rw [if_pos e6]
    by_cases e7 : m.kind = 4
    ·rw [if_neg (fun h => h e7)]; exact yes e5 (fun _ => .inr e7)
    ·rw [if_pos e7, Yf (p := FineM m n) fun h => by have := h.okk e2; omega]
theorem p_At12x (t : Tu) (h : bdT t) (k : Nat) (e : En) (he : t.log[k]? = some e) : Zcp t (t.snap.index + 1 + k) = some (e, true) := by
 obtain ⟨h1, h2, h3⟩ := h
 have hk := (List.getElem?_eq_some_iff.1 he).1
 simp only [Zcp, Zfq t ⟨h1, h2, h3⟩, Option.bind_some, Bool.cond_decide, if_neg (show ¬ t.snap.index + 1 + (k : Int) ≤ t.snap.index by omega), Tu.last, if_neg (show ¬ t.snap.index + (t.log.length : Int) < t.snap.index + 1 + (k : Int) by omega), J7 (n := t.snap.index + 1 + (k : Int) - t.snap.index) (by omega), J7 (n := t.snap.index + 1 + (k : Int) - t.snap.index - 1) (by omega), show t.snap.index + 1 + (k : Int) - t.snap.index - 1 = (k : Int) by omega, J7 (n := (k : Int)) (by omega), Zav, he]
end
section
open Go Go.RowKit
set_option maxRecDepth 100000
theorem p_wakes23 : Zdd = some true := by decide +kernel
theorem p_great23 (x : Co) (m : Ms) : ∃ b, Zdn x m = some b ∧ (b = false → BdC x ∧ m.entries.length ≤ 20) := by
 obtain ⟨g, hg⟩ := p_Great_some x
 unfold Zdn
 rw [hg]
 cases g with
 | true => exact ⟨true, rfl, fun h => by cases h⟩
 | false =>
  refine ⟨decide ((20 : Int) < (m.entries.length : Int)), rfl, fun h => ⟨(p_Great_no x hg).1, ?_⟩⟩
  have := of_decide_eq_false h
  omega
theorem p_To23 (x : Co) (m : Ms) (hx : BdC x) (hm : BdM m) : Zcr x m = some (Zgm (ToC x m)) := by
 simp only [Zcr, Ze4 x hx, p_Fine20 m x.n hm, Option.bind_some]
 unfold Zb7 fineM
 by_cases c1 : RightC x
 case neg => rw [Yf c1, Yf (p := ToC x m) fun h => c1 h.2.1]; rfl
 by_cases c2 : FineM m x.n
 case neg => rw [Xe c1, Yf c2, Yf (p := ToC x m) fun h => c2 h.2.2]; rfl
 rw [Xe c1, Xe c2]
 show some (decide _) = some _
 rw [Zdf]
 congr 1
 exact Vp ⟨fun h => ⟨h, c1, c2⟩, fun h => h.1⟩
def tMatch (y : Co) (m : Ms) (ma : Int) : Int := if m.okk = true then max ma (min m.last y.tuple.last) else ma
def tNext (y : Co) (m : Ms) (nx ma : Int) : Int := if m.okk = true then max nx (tMatch y m ma + 1) else max (ma + 1) (min (nx - 1) (m.last + 1))
inductive ToldR (x : Co) (m : Ms) : Co → Prop
 | no (h : ¬ (ToC x m ∧ m.kind = 4)) : ToldR x m x
 | met (h : ToC x m) (hk : m.kind = 4) (hr : (Xo x m).role ≠ 2 ∨ m.term ≠ (Xo x m).tuple.term) : ToldR x m (Xo x m)
 | yes (h : ToC x m) (hk : m.kind = 4) (hr : (Xo x m).role = 2) (ht : m.term = (Xo x m).tuple.term) (nx ma : Int) (hn : x.next[(m.frm - 1).toNat]? = some nx) (hma : x.mtch[(m.frm - 1).toNat]? = some ma) :
   ToldR x m { Xo x m with next := x.next.set (m.frm - 1).toNat (tNext (Xo x m) m nx ma), mtch := x.mtch.set (m.frm - 1).toNat (tMatch (Xo x m) m ma) }
theorem p_Told (x : Co) (m : Ms) (hx : BdC x) (hm : BdM m) : ∃ d, Vu x m = some d ∧ ToldR x m d := by
 by_cases h : ToC x m
 case neg =>
  refine ⟨x, ?_, .no fun h2 => h h2.1⟩
  simp only [Vu, p_To x m hx hm, p_mOwn x hx, Yf h, Option.bind_some, Bool.not_false, cond_true]
 by_cases hk : m.kind = 4
 case neg =>
  refine ⟨x, ?_, .no fun h2 => hk h2.2⟩
  simp only [Vu, p_To x m hx hm, p_mOwn x hx, Xe h, Option.bind_some, Bool.not_true, cond_false, Bool.cond_decide, if_pos (show m.kind ≠ 4 from hk)]
 have hy := Zdz x m h.2.1
 have hmf := meet_f x m
 have hbd := hy.bd
 have hlb := last_bd hbd.tup
 by_cases hr : (Xo x m).role = 2
 case neg =>
  refine ⟨_, ?_, .met h hk (.inl hr)⟩
  simp only [Vu, p_To x m hx hm, p_Meet x m hx hm, Xe h, Option.bind_some, Bool.not_true, cond_false, Bool.cond_decide, if_neg (show ¬ m.kind ≠ 4 from fun h => h hk), if_pos (show (Xo x m).role ≠ 2 from hr)]
 by_cases ht : m.term = (Xo x m).tuple.term
 case neg =>
  refine ⟨_, ?_, .met h hk (.inr ht)⟩
  simp only [Vu, p_To x m hx hm, p_Meet x m hx hm, Xe h, Option.bind_some, Bool.not_true, cond_false, Bool.cond_decide, if_neg (show ¬ m.kind ≠ 4 from fun h => h hk), if_neg (show ¬ (Xo x m).role ≠ 2 from fun h => h hr), if_pos (show m.term ≠ (Xo x m).tuple.term from ht)]
 have hfr := h.2.2.frm
 have hfl := h.2.2.last
 have hln := h.2.1.ln
 have hlm := h.2.1.lm
 have hnn := h.2.1.n
 obtain ⟨nx, hn, hn2, hw⟩ := idx_in x.next m.frm (by omega) hx.ln
 obtain ⟨ma, hma, hma2, _⟩ := idx_in x.mtch m.frm (by omega) hx.lm
 have hb1 := h.2.1.next.get hn2
 have hb2 := h.2.1.mtch.get hma2
 rw [← hmf.last] at hb1 hb2
 have hlst := hmf.last
 refine ⟨_, ?_, .yes h hk hr ht nx ma hn2 hma2⟩
 have hi : m.frm - 1 = (((m.frm - 1).toNat : Nat) : Int) := by omega
 have hset : ∀ (l : List Int) (v : Int), Zbe l (m.frm - 1) v = l.set (m.frm - 1).toNat v := fun l v => by unfold Zbe; rfl
 unfold tNext tMatch
 cases hok : m.okk with
 | true =>
  simp only [Vu, p_To x m hx hm, p_Meet x m hx hm, Xe h, Option.bind_some, Bool.not_true, cond_false, cond_true, Bool.cond_decide, if_neg (show ¬ m.kind ≠ 4 from fun h => h hk), if_neg (show ¬ (Xo x m).role ≠ 2 from fun h => h hr), if_neg (show ¬ m.term ≠ (Xo x m).tuple.term from fun h => h ht), hw, hmf.next, hmf.mtch, hn, hma, hok, Zgv _ hbd.tup, hset, J7 (n := max ma (min m.last (Xo x m).tuple.last) + 1) (by omega), if_true]
 | false =>
  simp only [Vu, p_To x m hx hm, p_Meet x m hx hm, Xe h, Option.bind_some, Bool.not_true, cond_false, cond_true, Bool.cond_decide, if_neg (show ¬ m.kind ≠ 4 from fun h => h hk), if_neg (show ¬ (Xo x m).role ≠ 2 from fun h => h hr), if_neg (show ¬ m.term ≠ (Xo x m).tuple.term from fun h => h ht), hw, hmf.next, hmf.mtch, hn, hma, hok, hset, J7 (n := ma + 1) (by omega), J7 (n := nx - 1) (by omega), J7 (n := m.last + 1) (by omega), Bool.false_eq_true, if_false]
  have e : x.mtch.set (m.frm - 1).toNat ma = x.mtch := by
   obtain ⟨h3, h4⟩ := List.getElem?_eq_some_iff.1 hma2
   rw [← h4]; exact List.set_getElem_self h3
  rw [e, ← hmf.mtch]
theorem told_right (x : Co) (m : Ms) (d : Co) (h : RightC x) (s : ToldR x m d) : RightC d ∧ d.commit = x.commit ∧ d.tuple.log = x.tuple.log := by
 have hy := Zdz x m h
 have hmf := meet_f x m
 cases s with
 | no _ => exact ⟨h, rfl, rfl⟩
 | met _ _ _ => exact ⟨hy, hmf.commit, hmf.log⟩
 | yes hc hk hr ht nx ma hn hma =>
  have hlst := hmf.last
  have hb1 := h.next.get hn
  have hb2 := h.mtch.get hma
  have hxb := Zfc _ h.tup
  have hlen : x.tuple.last = x.tuple.snap.index + x.tuple.log.length := rfl
  have hfl := hc.2.2.last
  refine ⟨⟨hy.n, hy.id, hy.role, hy.bin, hy.tup, hy.st, hy.lv, ?_, ?_, hy.lc, ?_, ?_, hy.caps, hy.own, hy.lead⟩, hmf.commit, hmf.log⟩
  ·dsimp only; rw [List.length_set, hmf.n]; exact h.ln
  ·dsimp only; rw [List.length_set, hmf.n]; exact h.lm
  ·dsimp only; rw [hlst]
   refine h.next.set ?_
   unfold tNext tMatch
   rw [hlst]
   split <;> omega
  ·dsimp only; rw [hlst]
   refine h.mtch.set ?_
   unfold tMatch
   rw [hlst]
   split <;> omega
theorem fit_bd (x : Co) (h : BdC x) : BdC (fitC x) := ⟨h.tup, h.lv, by show (x.next.map _).length ≤ _; rw [List.length_map]; exact h.ln, by show (x.mtch.map _).length ≤ _; rw [List.length_map]; exact h.lm, h.lc⟩
end
section
open Go Go.RowKit
set_option maxRecDepth 100000
def HasJ (t : Tu) (m : Ms) (j : Nat) : Prop := m.last + 1 + (j : Int) ≤ t.snap.index ∨ ∃ e, m.entries[j]? = some e ∧ V2 t (m.last + 1 + j) = some e.term
structure OtherS (t : Tu) (m : Ms) (i : Nat) : Prop where
 le : i ≤ m.entries.length
 has : ∀ j, j < i → HasJ t m j
 no : i < m.entries.length → ¬ HasJ t m i
theorem OtherS.uniq {t : Tu} {m : Ms} {i k : Nat} (h : OtherS t m i) (g : OtherS t m k) : i = k := by
 rcases Nat.lt_trichotomy i k with h1 | h1 | h1
 ·exact (h.no (Nat.lt_of_lt_of_le h1 g.le) (g.has i h1)).elim
 ·exact h1
 ·exact (g.no (Nat.lt_of_lt_of_le h1 h.le) (h.has k h1)).elim
theorem termAt_bd {t : Tu} {i a : Int} (h : V2 t i = some a) : t.snap.index ≤ i ∧ i ≤ t.last := by
 unfold V2 at h
 split at h
 ·unfold Tu.last; omega
 ·split at h
  ·omega
  ·cases h
theorem other_l1 (x : Co) (m : Ms) (hx : bdT x.tuple) (hl : 0 ≤ m.last ∧ m.last ≤ 1073741824) (hn : m.entries.length ≤ 1000000) : ∀ (q k n : Nat) (v : Int), q = m.entries.length - k → k ≤ m.entries.length → q < n → (∀ j, j < k → HasJ x.tuple m j) →
  ∃ i : Nat, Jc x m ((List.range m.entries.length).map fun i : Nat => m.last + 1 + (i : Int)) n v k = some (i : Int) ∧ OtherS x.tuple m i := by
 have hL : ((List.range m.entries.length).map fun i : Nat => m.last + 1 + (i : Int)).length = m.entries.length := by simp
 intro q
 induction q with
 | zero =>
  intro k n v hq hk hn' hs
  obtain ⟨n, rfl⟩ : ∃ n', n = n' + 1 := ⟨n - 1, by omega⟩
  refine ⟨m.entries.length, ?_, Nat.le_refl _, fun j hj => hs j (by omega), fun h => (Nat.lt_irrefl _ h).elim⟩
  rw [Jc]
  simp only [Bool.cond_decide, hL, if_neg (show ¬ (k : Int) < (m.entries.length : Int) by omega)]
 | succ q ih =>
  intro k n v hq hk hn' hs
  obtain ⟨n, rfl⟩ : ∃ n', n = n' + 1 := ⟨n - 1, by omega⟩
  have hg : ((List.range m.entries.length).map fun i : Nat => m.last + 1 + (i : Int))[k]? = some (m.last + 1 + (k : Int)) := by simp [show k < m.entries.length by omega]
  obtain ⟨e, he, _⟩ := Xw (show k < m.entries.length by omega)
  have w1 : IntKind.wrap .i64 ((k : Int) + 1) = ((k + 1 : Nat) : Int) := by rw [J7 (by omega)]; omega
  have w2 : IntKind.wrap .i64 (m.last + 1 + (k : Int) - m.last) = (k : Int) + 1 := by rw [J7 (by omega)]; omega
  have w3 : IntKind.wrap .i64 ((k : Int) + 1 - 1) = (k : Int) := by rw [J7 (by omega)]; omega
  have go : HasJ x.tuple m k → ∃ i : Nat, Jc x m ((List.range m.entries.length).map fun i : Nat => m.last + 1 + (i : Int)) n v ((k + 1 : Nat) : Int) = some (i : Int) ∧ OtherS x.tuple m i := fun hk1 =>
   ih (k + 1) n v (by omega) (by omega) (by omega) fun j hj => by
    by_cases c : j = k
    ·rw [c]; exact hk1
    ·exact hs j (by omega)
  have stop : ¬ HasJ x.tuple m k → OtherS x.tuple m k := fun hno => ⟨by omega, hs, fun _ => hno⟩
  rw [Jc]
  simp only [Bool.cond_decide, hL, if_pos (show (k : Int) < (m.entries.length : Int) by omega), Zav, hg, he, Option.bind_some, p_tTermAt x.tuple _ hx, w1, w2, w3, if_neg (show ¬ (k : Int) < 0 by omega)]
  by_cases c1 : x.tuple.snap.index < m.last + 1 + (k : Int)
  ·rw [if_pos c1]
   cases ht : V2 x.tuple (m.last + 1 + (k : Int)) with
   | none =>
    refine ⟨k, rfl, stop ?_⟩
    rintro (h | ⟨e', _, h⟩)
    ·omega
    ·rw [ht] at h; cases h
   | some t =>
    simp only [Option.isSome_some, Bool.not_true, cond_false, Option.getD_some]
    by_cases c2 : t = e.term
    ·rw [if_neg (fun h => h c2)]
     exact go (.inr ⟨e, he, by rw [ht, c2]⟩)
    ·rw [if_pos c2]
     refine ⟨k, rfl, stop ?_⟩
     rintro (h | ⟨e', he', h⟩)
     ·omega
     ·rw [he] at he'
      obtain rfl := QJ he'
      rw [ht] at h
      exact c2 (QJ h)
  ·rw [if_neg c1]
   exact go (.inl (by omega))
theorem p_other (x : Co) (m : Ms) (hx : bdT x.tuple) (hl : 0 ≤ m.last ∧ m.last ≤ 1073741824) (hn : m.entries.length ≤ 1000000) : ∃ i : Nat, Zc7 x m = some (i : Int) ∧ OtherS x.tuple m i := by
 obtain ⟨i, h1, h2⟩ := other_l1 x m hx hl hn m.entries.length 0 Xr 0 (by omega) (by omega) (by unfold Xr; omega) (fun j hj => by omega)
 refine ⟨i, ?_, h2⟩
 unfold Zc7 Zf2
 rw [if_pos ⟨hn, by omega, by omega⟩, Option.bind_some, Zcd _ (by simp; omega), Option.bind_some]
 exact h1
def Zcx (t : Tu) (m : Ms) (i : Nat) : Tu := { t with log := t.log.take (m.last + i - t.snap.index).toNat ++ m.entries.drop i }
def finC (y : Co) (t : Tu) (m : Ms) : Co := { fitC { y with role := 0, tuple := t } with commit := max y.commit (min m.commit (m.last + (m.entries.length : Int))), applied := (stOf t (max y.commit (min m.commit (m.last + (m.entries.length : Int))))).getD ⟨0, 0, 0, 0, false⟩ }
inductive TailR (y : Co) (m : Ms) : Co → List Ms → Prop
 | bound (i : Nat) (ho : OtherS y.tuple m i) (hi : i < m.entries.length) (hc : m.last + 1 + i ≤ y.commit) : TailR y m { y with role := 0 } []
 | fail (i : Nat) (ho : OtherS y.tuple m i) (hi : i < m.entries.length) (hc : y.commit < m.last + 1 + i) (hf : V7 (Zcx y.tuple m i) = false) : TailR y m { y with role := 0 } [Zhj y m 4 false y.tuple.last]
 | put (i : Nat) (ho : OtherS y.tuple m i) (hi : i < m.entries.length) (hc : y.commit < m.last + 1 + i) (hf : V7 (Zcx y.tuple m i) = true) : TailR y m (finC y (Zcx y.tuple m i) m) [Zhj { y with tuple := Zcx y.tuple m i } m 4 true (m.last + (m.entries.length : Int))]
 | all (ho : OtherS y.tuple m m.entries.length) : TailR y m (finC y y.tuple m) [Zhj y m 4 true (m.last + (m.entries.length : Int))]
theorem other_at (t : Tu) (m : Ms) (i : Nat) (hl : m.last ≤ t.last) (ho : OtherS t m i) (hi : i < m.entries.length) : t.snap.index < m.last + 1 + i ∧ m.last + 1 + i ≤ t.last + 1 := by
 have h1 : t.snap.index < m.last + 1 + (i : Int) := by
  have := ho.no hi
  unfold HasJ at this
  by_cases c : m.last + 1 + (i : Int) ≤ t.snap.index
  ·exact (this (.inl c)).elim
  ·omega
 refine ⟨h1, ?_⟩
 by_cases c : m.last + 1 + (i : Int) ≤ t.last + 1
 ·exact c
 ·exfalso
  have hlen : t.last = t.snap.index + t.log.length := rfl
  rcases ho.has (t.last - m.last).toNat (by omega) with h | ⟨e, _, h⟩
  ·omega
  ·have := termAt_bd h
   omega
theorem app_fin (y : Co) (t : Tu) (m : Ms) (hy : RightC y) (ht : bdT t) (hl : 0 ≤ m.last ∧ m.last ≤ 1073741824) (hn : m.entries.length ≤ 1000000) :
  ((J0 {y with role := 0, tuple := t}).bind fun r172 => (X6 r172.tuple (max r172.commit (min m.commit (IntKind.wrap .i64 (m.last + (m.entries.length : Int)))))).bind fun r197 => (V3 {r172 with commit := (max r172.commit (min m.commit (IntKind.wrap .i64 (m.last + (m.entries.length : Int))))), applied := r197.1} m 4 true (IntKind.wrap .i64 (m.last + (m.entries.length : Int)))).bind fun r201 => some ({r172 with commit := (max r172.commit (min m.commit (IntKind.wrap .i64 (m.last + (m.entries.length : Int))))), applied := r197.1}, ([r201] : List Ms))) = some (finC y t m, [Zhj { y with tuple := t } m 4 true (m.last + (m.entries.length : Int))]) := by
 have hb := hy.bd
 have hz : BdC {y with role := 0, tuple := t} := ⟨ht, hb.lv, hb.ln, hb.lm, hb.lc⟩
 rw [p_Fit _ hz, Option.bind_some, J7 (n := m.last + (m.entries.length : Int)) (by omega), q_State _ _ (show bdT (fitC {y with role := 0, tuple := t}).tuple from ht), Option.bind_some]
 rfl
theorem app_tail (y : Co) (m : Ms) (la : Int) (hy : RightC y) (hla : la = y.tuple.last) (hl : 0 ≤ m.last ∧ m.last ≤ 1073741824) (hn : m.entries.length ≤ 4) (hll : m.last ≤ la) : ∃ d l, ((Zc7 {y with role := 0} m).bind fun r134 => cond (decide (r134 < (m.entries.length : Int))) ( cond (decide ((IntKind.wrap .i64 ((IntKind.wrap .i64 (m.last + 1)) + r134)) ≤ y.commit)) ( some ({y with role := 0}, [])) ( cond (decide ((IntKind.wrap .i64 ((IntKind.wrap .i64 (m.last + 1)) + r134)) ≤ la)) ( (Zd4 y.tuple (IntKind.wrap .i64 ((IntKind.wrap .i64 (m.last + 1)) + r134))).bind fun r144 => (dropI m.entries r134).bind fun l151 => (Zaf r144.1 l151).bind fun r153 => cond (decide (r153.2 ≠ 0)) ( (V3 {y with role := 0} m 4 false la).bind fun r162 => some ({y with role := 0}, ([r162] : List Ms))) ( (J0 {y with role := 0, tuple := r153.1}).bind fun r172 => (X6 r172.tuple (max r172.commit (min m.commit (IntKind.wrap .i64 (m.last + (m.entries.length : Int)))))).bind fun r197 => (V3 {r172 with commit := (max r172.commit (min m.commit (IntKind.wrap .i64 (m.last + (m.entries.length : Int))))), applied := r197.1} m 4 true (IntKind.wrap .i64 (m.last + (m.entries.length : Int)))).bind fun r201 => some ({r172 with commit := (max r172.commit (min m.commit (IntKind.wrap .i64 (m.last + (m.entries.length : Int))))), applied := r197.1}, ([r201] : List Ms)))) ( (dropI m.entries r134).bind fun l210 => (Zaf y.tuple l210).bind fun r212 => cond (decide (r212.2 ≠ 0)) ( (V3 {y with role := 0} m 4 false la).bind fun r221 => some ({y with role := 0}, ([r221] : List Ms))) ( (J0 {y with role := 0, tuple := r212.1}).bind fun r231 => (X6 r231.tuple (max r231.commit (min m.commit (IntKind.wrap .i64 (m.last + (m.entries.length : Int)))))).bind fun r256 => (V3 {r231 with commit := (max r231.commit (min m.commit (IntKind.wrap .i64 (m.last + (m.entries.length : Int))))), applied := r256.1} m 4 true (IntKind.wrap .i64 (m.last + (m.entries.length : Int)))).bind fun r260 => some ({r231 with commit := (max r231.commit (min m.commit (IntKind.wrap .i64 (m.last + (m.entries.length : Int))))), applied := r256.1}, ([r260] : List Ms)))))) ( (J0 {y with role := 0}).bind fun r270 => (X6 r270.tuple (max r270.commit (min m.commit (IntKind.wrap .i64 (m.last + (m.entries.length : Int)))))).bind fun r295 => (V3 {r270 with commit := (max r270.commit (min m.commit (IntKind.wrap .i64 (m.last + (m.entries.length : Int))))), applied := r295.1} m 4 true (IntKind.wrap .i64 (m.last + (m.entries.length : Int)))).bind fun r299 => some ({r270 with commit := (max r270.commit (min m.commit (IntKind.wrap .i64 (m.last + (m.entries.length : Int))))), applied := r295.1}, ([r299] : List Ms)))) = some (d, l) ∧ TailR y m d l := by
 subst hla
 have hbd := hy.bd
 have hxb := Zfc _ hy.tup
 have hlen : y.tuple.last = y.tuple.snap.index + y.tuple.log.length := rfl
 obtain ⟨i, h1, ho⟩ := p_other {y with role := 0} m hbd.tup hl (by omega)
 rw [h1, Option.bind_some]
 by_cases hi : i < m.entries.length
 case neg =>
  have hie : i = m.entries.length := by have := ho.le; omega
  subst hie
  rw [decide_eq_false (show ¬ ((m.entries.length : Nat) : Int) < (m.entries.length : Int) by omega), cond_false, app_fin y y.tuple m hy hbd.tup hl (by omega)]
  exact ⟨_, _, rfl, .all ho⟩
 have hile := ho.le
 have w1 : IntKind.wrap .i64 (m.last + 1) = m.last + 1 := J7 (by omega)
 have w2 : IntKind.wrap .i64 (m.last + 1 + (i : Int)) = m.last + 1 + (i : Int) := J7 (by omega)
 obtain ⟨a1, a2⟩ := other_at y.tuple m i hll ho hi
 rw [decide_eq_true (show (i : Int) < (m.entries.length : Int) by omega), cond_true, w1, w2]
 by_cases hc : m.last + 1 + (i : Int) ≤ y.commit
 ·rw [decide_eq_true hc, cond_true]
  exact ⟨_, _, rfl, .bound i ho hi hc⟩
 rw [decide_eq_false hc, cond_false]
 have hdr : dropI m.entries (i : Int) = some (m.entries.drop i) := dropI_nat _ _ (by omega)
 obtain ⟨k, hk⟩ : ∃ k : Nat, m.last + 1 + (i : Int) = y.tuple.snap.index + 1 + (k : Int) := ⟨(m.last + (i : Int) - y.tuple.snap.index).toNat, by omega⟩
 have hkt : (m.last + (i : Int) - y.tuple.snap.index).toNat = k := by omega
 have hkl : k ≤ y.tuple.log.length := by omega
 have hcy := cut_yes y.tuple k hy.tup hkl
 have hnew : Zcx y.tuple m i = { ({ y.tuple with log := y.tuple.log.take k } : Tu) with log := ({ y.tuple with log := y.tuple.log.take k } : Tu).log ++ m.entries.drop i } := by unfold Zcx; rw [hkt]
 have happ := q_Append { y.tuple with log := y.tuple.log.take k } (m.entries.drop i) ⟨by dsimp only; rw [List.length_take]; omega, by rw [List.length_drop]; omega⟩
 rw [← hnew, Zha, if_pos hcy.2.2] at happ
 have hbt : bdT (Zcx y.tuple m i) := ⟨by unfold Zcx; dsimp only; rw [List.length_append, List.length_take, List.length_drop]; omega, hbd.tup.2⟩
 by_cases hcl : m.last + 1 + (i : Int) ≤ y.tuple.last
 ·rw [decide_eq_true hcl, cond_true, q_Cut y.tuple _ hbd.tup.1, hk, hcy.1, hcy.2.1, Option.bind_some, hdr, Option.bind_some]
  dsimp only
  rw [happ]
  cases hf : V7 (Zcx y.tuple m i) with
  | true =>
   rw [if_pos rfl, Option.bind_some]
   rw [decide_eq_false (show ¬ ((Zcx y.tuple m i, (0 : Int)).2 ≠ 0) from fun h => h rfl), cond_false, app_fin y (Zcx y.tuple m i) m hy hbt hl (by omega)]
   exact ⟨_, _, rfl, .put i ho hi (by omega) hf⟩
  | false =>
   rw [if_neg (by decide), Option.bind_some]
   rw [decide_eq_true (show ((({ y.tuple with log := y.tuple.log.take k } : Tu), (2 : Int)).2 ≠ 0) from (by decide : (2 : Int) ≠ 0)), cond_true]
   exact ⟨_, _, rfl, .fail i ho hi (by omega) hf⟩
 ·have htake : ({ y.tuple with log := y.tuple.log.take k } : Tu) = y.tuple := by rw [List.take_of_length_le (by omega)]
  rw [htake] at happ
  rw [decide_eq_false hcl, cond_false, hdr, Option.bind_some, happ]
  cases hf : V7 (Zcx y.tuple m i) with
  | true =>
   rw [if_pos rfl, Option.bind_some]
   rw [decide_eq_false (show ¬ ((Zcx y.tuple m i, (0 : Int)).2 ≠ 0) from fun h => h rfl), cond_false, app_fin y (Zcx y.tuple m i) m hy hbt hl (by omega)]
   exact ⟨_, _, rfl, .put i ho hi (by omega) hf⟩
  | false =>
   rw [if_neg (by decide), Option.bind_some]
   rw [decide_eq_true (show ((y.tuple, (2 : Int)).2 ≠ 0) from (by decide : (2 : Int) ≠ 0)), cond_true]
   exact ⟨_, _, rfl, .fail i ho hi (by omega) hf⟩
inductive AppR (x : Co) (m : Ms) : Co → List Ms → Prop
 | old (h : m.term < (Xo x m).tuple.term) : AppR x m (Xo x m) [Zhj (Xo x m) m 4 false x.tuple.last]
 | lead (h : m.term = (Xo x m).tuple.term) (hr : (Xo x m).role = 2) : AppR x m (Xo x m) []
 | gap (h : m.term = (Xo x m).tuple.term) (hr : (Xo x m).role ≠ 2) (hl : x.tuple.last < m.last) : AppR x m { Xo x m with role := 0 } [Zhj (Xo x m) m 4 false x.tuple.last]
 | mism (h : m.term = (Xo x m).tuple.term) (hr : (Xo x m).role ≠ 2) (hl : m.last ≤ x.tuple.last) (tm : Int) (ht : V2 x.tuple m.last = some tm) (hne : tm ≠ m.lastTerm) : AppR x m { Xo x m with role := 0 } [Zhj (Xo x m) m 4 false (max (m.last - 1) 0)]
 | tail {d : Co} {l : List Ms} (h : m.term = (Xo x m).tuple.term) (hr : (Xo x m).role ≠ 2) (hl : m.last ≤ x.tuple.last) (hk : ∀ tm, V2 x.tuple m.last = some tm → tm = m.lastTerm) (ht : TailR (Xo x m) m d l) : AppR x m d l
theorem p_App_no (x : Co) (m : Ms) (hx : BdC x) (hm : BdM m) (h : ¬ (ToC x m ∧ m.kind = 3)) : J4 x m = some (x, []) := by
 simp only [J4, p_To x m hx hm, p_mOwn x hx, Option.bind_some, Bool.cond_decide]
 by_cases c1 : ToC x m
 case neg => rw [Yf c1]; rfl
 rw [Xe c1]
 simp only [Bool.not_true, cond_false]
 rw [if_pos (fun h2 => h ⟨c1, h2⟩)]
theorem p_App (x : Co) (m : Ms) (hm : BdM m) (h : ToC x m) (hk : m.kind = 3) : ∃ d l, J4 x m = some (d, l) ∧ AppR x m d l := by
 have hx := h.2.1.bd
 have hy := Zdz x m h.2.1
 have hmf := meet_f x m
 have hbd := hy.bd
 have hge := meet_ge x m h
 have hfl := h.2.2.last
 have hfw := h.2.2.few
 have hta : V2 (Xo x m).tuple m.last = V2 x.tuple m.last := by unfold V2 Tu.last; rw [hmf.snap, hmf.log]
 unfold J4
 rw [p_To x m hx hm, Option.bind_some, Xe h, Bool.not_true, cond_false, decide_eq_false (show ¬ m.kind ≠ 3 from fun h => h hk), cond_false, p_Meet x m hx hm, Option.bind_some, Zgv _ hbd.tup, Option.bind_some, p_tTermAt _ _ hbd.tup, Option.bind_some]
 by_cases c1 : m.term < (Xo x m).tuple.term
 ·rw [decide_eq_true c1, cond_true]
  have := AppR.old (x := x) (m := m) c1
  rw [← hmf.last] at this
  exact ⟨_, _, rfl, this⟩
 rw [decide_eq_false c1, cond_false]
 have c1' : m.term = (Xo x m).tuple.term := by omega
 by_cases c2 : (Xo x m).role = 2
 ·rw [decide_eq_true c2, cond_true]; exact ⟨_, _, rfl, .lead c1' c2⟩
 rw [decide_eq_false c2, cond_false]
 by_cases c3 : (Xo x m).tuple.last < m.last
 ·rw [decide_eq_true c3, cond_true]
  have := AppR.gap (x := x) (m := m) c1' c2 (by rw [← hmf.last]; exact c3)
  rw [← hmf.last] at this
  exact ⟨_, _, rfl, this⟩
 rw [decide_eq_false c3, cond_false, hta]
 have c3' : m.last ≤ x.tuple.last := by rw [← hmf.last]; omega
 cases ht : V2 x.tuple m.last with
 | none =>
  obtain ⟨d, l, e1, e2⟩ := app_tail (Xo x m) m (Xo x m).tuple.last hy rfl hfl hfw (by omega)
  exact ⟨d, l, e1, .tail c1' c2 c3' (fun tm h => by rw [ht] at h; cases h) e2⟩
 | some tm =>
  dsimp only [Option.getD_some, Option.isSome_some]
  first | rw [cond_true] | rw [Bool.true_and]
  by_cases c4 : tm = m.lastTerm
  ·rw [decide_eq_false (show ¬ tm ≠ m.lastTerm from fun h => h c4), cond_false]
   obtain ⟨d, l, e1, e2⟩ := app_tail (Xo x m) m (Xo x m).tuple.last hy rfl hfl hfw (by omega)
   exact ⟨d, l, e1, .tail c1' c2 c3' (fun tm' h => by rw [ht] at h; rw [← QJ h]; exact c4) e2⟩
  ·rw [decide_eq_true (show tm ≠ m.lastTerm from c4), cond_true]
   have := AppR.mism (x := x) (m := m) c1' c2 c3' tm ht c4
   have e : IntKind.wrap .i64 (m.last - 1) = m.last - 1 := J7 (by omega)
   rw [e]
   exact ⟨_, _, rfl, this⟩
end
section
open Go Go.RowKit
set_option maxRecDepth 100000
structure HasT (y : Co) (m : Ms) (t : Tu) : Prop where
 tup : V7 t = true
 snap : t.snap = y.tuple.snap
 term : t.term = y.tuple.term
 vote : t.vote = y.tuple.vote
 pre : t.log.take (y.commit - y.tuple.snap.index).toNat = y.tuple.log.take (y.commit - y.tuple.snap.index).toNat
 len : y.commit ≤ t.last
 has : ∀ j, j < m.entries.length → HasJ t m j
 last : m.last + (m.entries.length : Int) ≤ t.last
 tm : V2 t m.last = V2 y.tuple m.last
theorem termAt_pre {t u : Tu} {k : Nat} (hs : t.snap = u.snap) (ht : t.log.take k = u.log.take k) (h1 : k ≤ t.log.length) (h2 : k ≤ u.log.length) {i : Int} (hi : i ≤ u.snap.index + k) : V2 t i = V2 u i := by
 unfold V2 Tu.last
 rw [hs]
 by_cases c : i = u.snap.index
 ·rw [if_pos c, if_pos c]
 rw [if_neg c, if_neg c]
 by_cases c2 : u.snap.index < i
 ·rw [if_pos (by omega), if_pos (by omega)]
  have e1 := congrArg (fun l => l[(i - u.snap.index - 1).toNat]?) ht
  rw [List.getElem?_take, List.getElem?_take, if_pos (by omega), if_pos (by omega)] at e1
  rw [e1]
 ·rw [if_neg (by omega), if_neg (by omega)]
theorem all_has (y : Co) (m : Ms) (hy : RightC y) (hl : m.last ≤ y.tuple.last) (ho : OtherS y.tuple m m.entries.length) : HasT y m y.tuple := by
 have hcb := Zhl hy
 refine ⟨hy.tup, rfl, rfl, rfl, rfl, hcb.2, ho.has, ?_, rfl⟩
 by_cases c : m.entries.length = 0
 ·omega
 ·have hlen : y.tuple.last = y.tuple.snap.index + y.tuple.log.length := rfl
  rcases ho.has (m.entries.length - 1) (by omega) with h | ⟨e, _, h⟩
  ·omega
  ·have := termAt_bd h
   omega
theorem put_has (y : Co) (m : Ms) (hy : RightC y) (hl : m.last ≤ y.tuple.last) (i : Nat) (ho : OtherS y.tuple m i) (hi : i < m.entries.length) (hc : y.commit < m.last + 1 + i) (hf : V7 (Zcx y.tuple m i) = true) : HasT y m (Zcx y.tuple m i) := by
 have hcb := Zhl hy
 have hlen : y.tuple.last = y.tuple.snap.index + y.tuple.log.length := rfl
 obtain ⟨a1, a2⟩ := other_at y.tuple m i hl ho hi
 obtain ⟨k, hk⟩ : ∃ k : Nat, m.last + (i : Int) = y.tuple.snap.index + (k : Int) := ⟨(m.last + (i : Int) - y.tuple.snap.index).toNat, by omega⟩
 have hkt : (m.last + (i : Int) - y.tuple.snap.index).toNat = k := by omega
 have hkl : k ≤ y.tuple.log.length := by omega
 have hlog : (Zcx y.tuple m i).log = y.tuple.log.take k ++ m.entries.drop i := by unfold Zcx; rw [hkt]
 have hll : (Zcx y.tuple m i).log.length = k + (m.entries.length - i) := by rw [hlog, List.length_append, List.length_take, List.length_drop]; omega
 have hlast : (Zcx y.tuple m i).last = y.tuple.snap.index + ((k + (m.entries.length - i) : Nat) : Int) := by unfold Tu.last; rw [hll]; rfl
 have htk : ∀ q, q ≤ k → (Zcx y.tuple m i).log.take q = y.tuple.log.take q := fun q hq => by
  rw [hlog, List.take_append_of_le_length (by rw [List.length_take]; omega), List.take_take]
  congr 1; omega
 have hpre : ∀ j : Int, j ≤ y.tuple.snap.index + k → V2 (Zcx y.tuple m i) j = V2 y.tuple j := fun j hj => termAt_pre (t := Zcx y.tuple m i) (u := y.tuple) (k := k) rfl (htk k (Nat.le_refl _)) (by omega) hkl hj
 refine ⟨hf, rfl, rfl, rfl, htk _ (by omega), by rw [hlast]; omega, fun j hj => ?_, by rw [hlast]; omega, hpre _ (by omega)⟩
 by_cases c : j < i
 ·rcases ho.has j c with h | ⟨e, he, h⟩
  ·exact .inl h
  ·exact .inr ⟨e, he, by rw [hpre _ (by omega)]; exact h⟩
 ·right
  obtain ⟨e, he, _⟩ := Xw hj
  refine ⟨e, he, ?_⟩
  have hg : (Zcx y.tuple m i).log[k + (j - i)]? = some e := by
   rw [hlog, List.getElem?_append_right (by rw [List.length_take]; omega), List.length_take, List.getElem?_drop, ← he]
   congr 1; omega
  unfold V2
  have hsn : (Zcx y.tuple m i).snap = y.tuple.snap := rfl
  rw [hsn, hlast, if_neg (by omega), if_pos (by omega), show (m.last + 1 + (j : Int) - y.tuple.snap.index - 1).toNat = k + (j - i) by omega, hg]
  rfl
theorem fin_right (y : Co) (m : Ms) (t : Tu) (hy : RightC y) (h : HasT y m t) : RightC (finC y t m) := by
 have hcb := Zhl hy
 have hxb := Zfc _ h.tup
 have hlen : t.last = t.snap.index + t.log.length := rfl
 have h1 := h.len
 have h2 := h.last
 have h3 := h.snap
 have hc : t.snap.index ≤ max y.commit (min m.commit (m.last + (m.entries.length : Int))) ∧ max y.commit (min m.commit (m.last + (m.entries.length : Int))) ≤ t.last := by rw [h3]; omega
 refine ⟨hy.n, hy.id, by show (0 : Int) ≤ 2; decide, hy.bin, h.tup, ?_, hy.lv, ?_, ?_, hy.lc, ?_, ?_, hy.caps, hy.own, .inl rfl⟩
 ·show stOf t (max y.commit (min m.commit (m.last + (m.entries.length : Int)))) = some ((stOf t (max y.commit (min m.commit (m.last + (m.entries.length : Int))))).getD ⟨0, 0, 0, 0, false⟩)
  unfold stOf
  rw [if_pos hc]
  rfl
 ·show (((y.next.map _).length : Nat) : Int) = _; rw [List.length_map]; exact hy.ln
 ·show (((y.mtch.map _).length : Nat) : Int) = _; rw [List.length_map]; exact hy.lm
 ·exact map_min_in hy.next (by show (1 : Int) ≤ t.last + 1; omega)
 ·exact map_min_in hy.mtch (by show (0 : Int) ≤ t.last; omega)
theorem role_right23 (y : Co) (h : RightC y) : RightC { y with role := 0 } := ⟨h.n, h.id, by show (0 : Int) ≤ 2; decide, h.bin, h.tup, h.st, h.lv, h.ln, h.lm, h.lc, h.next, h.mtch, h.caps, h.own, .inl rfl⟩
structure AppF (x : Co) (m : Ms) (d : Co) : Prop where
 right : RightC d
 id : d.id = x.id
 n : d.n = x.n
 caps : d.caps = x.caps.set (m.frm - 1).toNat m.cap
 mterm : m.term ≤ d.tuple.term
 term : x.tuple.term ≤ d.tuple.term
 commit : x.commit ≤ d.commit
 snap : d.tuple.snap = x.tuple.snap
 pre : d.tuple.log.take (x.commit - x.tuple.snap.index).toNat = x.tuple.log.take (x.commit - x.tuple.snap.index).toNat
 len : x.commit ≤ d.tuple.last
theorem tail_has (y : Co) (m : Ms) (d : Co) (l : List Ms) (hy : RightC y) (hl : m.last ≤ y.tuple.last) (s : TailR y m d l) : (d = { y with role := 0 } ∧ (l = [] ∨ l = [Zhj y m 4 false y.tuple.last])) ∨ ∃ t, HasT y m t ∧ d = finC y t m ∧ l = [Zhj { y with tuple := t } m 4 true (m.last + (m.entries.length : Int))] := by
 cases s with
 | bound i ho hi hc => exact .inl ⟨rfl, .inl rfl⟩
 | fail i ho hi hc hf => exact .inl ⟨rfl, .inr rfl⟩
 | put i ho hi hc hf => exact .inr ⟨_, put_has y m hy hl i ho hi hc hf, rfl, rfl⟩
 | all ho => exact .inr ⟨_, all_has y m hy hl ho, rfl, rfl⟩
theorem app_f (x : Co) (m : Ms) (d : Co) (l : List Ms) (h : ToC x m) (s : AppR x m d l) : AppF x m d := by
 have hy := Zdz x m h.2.1
 have hf := meet_f x m
 have hc := meet_caps x m h
 have hg := meet_ge x m h
 have hcm := hf.commit
 have hcb := Zhl h.2.1
 have base : AppF x m (Xo x m) := ⟨hy, hf.id, hf.n, hc, hg, hf.term, by omega, hf.snap, by rw [hf.log], by rw [hf.last]; exact hcb.2⟩
 have base0 : AppF x m { Xo x m with role := 0 } := ⟨role_right23 _ hy, hf.id, hf.n, hc, hg, hf.term, by dsimp only; omega, hf.snap, by show (Xo x m).tuple.log.take _ = _; rw [hf.log], by show x.commit ≤ (Xo x m).tuple.last; rw [hf.last]; exact hcb.2⟩
 cases s with
 | old h1 => exact base
 | lead h1 hr => exact base
 | gap h1 hr hl => exact base0
 | mism h1 hr hl tm ht hne => exact base0
 | tail h1 hr hl hk ht =>
  rcases tail_has (Xo x m) m d l hy (by rw [hf.last]; exact hl) ht with ⟨rfl, _⟩ | ⟨t, hT, rfl, _⟩
  ·exact base0
  ·have hp := hT.pre
   rw [hf.commit, hf.snap, hf.log] at hp
   have hle := hT.len
   rw [hf.commit] at hle
   exact ⟨fin_right _ m t hy hT, hf.id, hf.n, hc, by show m.term ≤ t.term; rw [hT.term]; exact hg, by show x.tuple.term ≤ t.term; rw [hT.term]; exact hf.term, by show x.commit ≤ max (Xo x m).commit _; omega, by show t.snap = _; rw [hT.snap, hf.snap], hp, hle⟩
end
section
open Go Go.RowKit
set_option maxRecDepth 100000
def replM (x : Co) (dt nx : Int) : Ms := ⟨3, x.id, dt, x.tuple.term, x.binary, nx - 1, (V2 x.tuple (nx - 1)).getD 0, x.commit, false, (x.tuple.log.drop (nx - x.tuple.snap.index - 1).toNat).take 4, ⟨0, 0, 0, 0, false⟩⟩
def zeroM : Ms := ⟨0, 0, 0, 0, 0, 0, 0, 0, false, [], ⟨0, 0, 0, 0, false⟩⟩
theorem repl_r1 (x : Co) (dt nx : Int) (t : Int × Bool) (l : List En) : ∀ (v : List En), v.length + l.length ≤ 1000000 → V5 x dt nx t l v = some (⟨3, x.id, dt, x.tuple.term, x.binary, IntKind.wrap .i64 (nx - 1), t.1, x.commit, false, v ++ l, ⟨0, 0, 0, 0, false⟩⟩, true) := by
 induction l with
 | nil => intro v _; rw [V5]; simp
 | cons e l ih =>
  intro v hv
  rw [List.length_cons] at hv
  rw [V5, Zcd _ (by rw [List.length_append]; simp only [List.length_cons, List.length_nil]; omega), Option.bind_some]
  have := ih (v ++ [e]) (by rw [List.length_append]; simp only [List.length_cons, List.length_nil]; omega)
  rw [List.append_assoc] at this
  exact this
theorem next_in (x : Co) (dt : Int) (h : RightC x) (ht : 1 ≤ dt ∧ dt ≤ x.n) : ∃ nx, idx x.next (IntKind.wrap .i64 (dt - 1)) = some nx ∧ x.next[(dt - 1).toNat]? = some nx ∧ 1 ≤ nx ∧ nx ≤ x.tuple.last + 1 := by
 have h1 := h.ln
 obtain ⟨e, he, he2, hw⟩ := idx_in x.next dt (by omega) (by have := h.n; omega)
 rw [hw]
 have := h.next.get he2
 exact ⟨e, he, he2, this.1, this.2⟩
theorem p_rMessage (x : Co) (dt nx : Int) (h : RightC x) (hr : x.role = 2) (ht : 1 ≤ dt ∧ dt ≤ x.n) (hn : idx x.next (IntKind.wrap .i64 (dt - 1)) = some nx) (hb : 1 ≤ nx ∧ nx ≤ x.tuple.last + 1) :
  Vb x dt = some (if dt = x.id ∨ nx ≤ x.tuple.snap.index then (zeroM, false) else (replM x dt nx, true)) := by
 have hbd := h.bd
 have hxb := Zfc _ h.tup
 have hlen : x.tuple.last = x.tuple.snap.index + x.tuple.log.length := rfl
 simp only [Vb, Zfl x hbd, Zb7, Xe h, Option.bind_some, Bool.not_true, cond_false, Bool.cond_decide, if_neg (show ¬ x.role ≠ 2 from fun h => h hr), if_neg (show ¬ dt < 1 by omega), if_neg (show ¬ x.n < dt by omega), hn]
 by_cases c1 : dt = x.id
 ·rw [if_pos c1, if_pos (.inl c1)]; rfl
 rw [if_neg c1]
 by_cases c2 : nx ≤ x.tuple.snap.index
 ·rw [if_pos c2, if_pos (.inr c2)]; rfl
 rw [if_neg c2, if_neg (fun h => h.elim c1 c2)]
 have hf : Zhp x.tuple nx 4 = some ((x.tuple.log.drop (nx - x.tuple.snap.index - 1).toNat).take 4) := by
  unfold Zhp
  rw [if_pos ⟨hbd.tup, ⟨by omega, by omega⟩, by decide, by decide⟩, if_pos (by omega)]
  rfl
 rw [p_tTermAt x.tuple _ hbd.tup, Option.bind_some, hf, Option.bind_some, repl_r1 _ _ _ _ _ [] (by rw [List.length_nil, List.length_take]; omega), J7 (n := nx - 1) (by omega), List.nil_append]
 rfl
theorem p_rMessage_no (x : Co) (dt : Int) (h : RightC x) (hr : x.role ≠ 2) : Vb x dt = some (zeroM, false) := by
 simp only [Vb, Zfl x h.bd, Zb7, Xe h, Option.bind_some, Bool.not_true, cond_false, Bool.cond_decide, if_pos (show x.role ≠ 2 from hr)]
 rfl
end
section
open Go Go.RowKit
set_option maxRecDepth 100000
theorem p_Append12' (x : Tu) (l : List En) (h : x.log.length ≤ 1000000 ∧ l.length ≤ 300) : Za1 x l = some (Zch x (some { x with log := x.log ++ l }), Zhh x (some { x with log := x.log ++ l })) := by
 rw [chg_eq]
 simp only [Za1, p_Own12 x h.1, Option.bind_some, Zcd _ (show (x.log ++ l).length ≤ 1000000000 by rw [List.length_append]; omega), p_Right12]
 cases V7 x <;> cases V7 { x with log := x.log ++ l } <;> rfl
theorem p_Hard12' (x : Tu) (t v : Int) (h : x.log.length ≤ 1000000) : Zc5 x t v = some (Zch x (Zfx x t v), Zhh x (Zfx x t v)) := by
 simp only [Zc5, p_Own12 x h, Option.bind_some, p_Right12, Bool.cond_decide, Bool.cond_not]
 have hy : (x.term < t ∨ t = x.term ∧ (x.vote = 0 ∨ x.vote = v)) → Zfx x t v = some { x with term := t, vote := v } := fun h => by unfold Zfx; rw [if_pos h]
 have hn : ¬ (x.term < t ∨ t = x.term ∧ (x.vote = 0 ∨ x.vote = v)) → Zfx x t v = none := fun h => by unfold Zfx; rw [if_neg h]
 by_cases h1 : x.term < t
 ·rw [if_pos h1, hy (.inl h1), Zha]
  cases V7 x <;> cases V7 ⟨x.snap, x.log, t, v⟩ <;> rfl
 ·rw [if_neg h1]
  by_cases h2 : t = x.term
  ·rw [if_pos h2]
   by_cases h3 : x.vote = 0
   ·rw [if_pos h3, hy (.inr ⟨h2, .inl h3⟩), Zha]
    cases V7 x <;> cases V7 ⟨x.snap, x.log, t, v⟩ <;> rfl
   ·rw [if_neg h3]
    by_cases h4 : x.vote = v
    ·rw [if_pos h4, hy (.inr ⟨h2, .inr h4⟩), Zha]
     cases V7 x <;> cases V7 ⟨x.snap, x.log, t, v⟩ <;> rfl
    ·rw [if_neg h4, hn (by omega), chg_none]
  ·rw [if_neg h2, hn (by omega), chg_none]
theorem hard_same (x : Tu) (t v : Int) (h : x.log.length ≤ 1000000) : Zc5 x t v = Zb9 x t v := by rw [p_Hard12' x t v h, q_Hard x t v h]
theorem p_All_self_l1 (l : List Ms) (h : l.length ≤ 1000000) (he : ∀ a ∈ l, a.entries.length ≤ 1000000) : ∀ (q k n : Nat) (v : Bool), q = l.length - k → k ≤ l.length → q < n → Za7 l l n v k = some true := by
 intro q
 induction q with
 | zero =>
  intro k n v hq hk hn
  obtain ⟨n, rfl⟩ : ∃ n', n = n' + 1 := ⟨n - 1, by omega⟩
  rw [Za7]
  simp only [Bool.cond_decide, if_neg (show ¬ (k : Int) < (l.length : Int) by omega)]
 | succ q ih =>
  intro k n v hq hk hn
  obtain ⟨n, rfl⟩ : ∃ n', n = n' + 1 := ⟨n - 1, by omega⟩
  obtain ⟨e, hg, _⟩ := Xw (show k < l.length by omega)
  have w1 : IntKind.wrap .i64 ((k : Int) + 1) = ((k + 1 : Nat) : Int) := by rw [J7 (by omega)]; omega
  rw [Za7]
  simp only [Bool.cond_decide, if_pos (show (k : Int) < (l.length : Int) by omega), Zav, hg, Option.bind_some, p_Alike_self e (he e (List.mem_of_getElem? hg)), Bool.not_true, cond_false, w1]
  exact ih (k + 1) n v (by omega) (by omega) (by omega)
theorem p_All_self (l : List Ms) (h : l.length ≤ 1000000) (he : ∀ a ∈ l, a.entries.length ≤ 1000000) : Zco l l = some true := by
 have := p_All_self_l1 l h he l.length 0 Xr false (by omega) (by omega) (by unfold Xr; omega)
 unfold Zco
 simp only [Bool.cond_decide, ne_eq, not_true, if_false]
 exact this
theorem p_fits22 (x : Co) (m : Ms) (hx : BdC x) (hm : BdM m) : Zen x m = some (Zgm (ToC x m)) := by
 simp only [Zen, Ze4 x hx, p_Fine20 m x.n hm, Option.bind_some]
 unfold Zb7 fineM
 by_cases c1 : RightC x
 case neg => rw [Yf c1, Yf (p := ToC x m) fun h => c1 h.2.1]; rfl
 by_cases c2 : FineM m x.n
 case neg => rw [Xe c1, Yf c2, Yf (p := ToC x m) fun h => c2 h.2.2]; rfl
 rw [Xe c1, Xe c2]
 show some (decide _) = some _
 rw [Zdf]
 congr 1
 exact Vp ⟨fun h => ⟨h, c1, c2⟩, fun h => h.1⟩
theorem p_Hear21 (x : Co) (m : Ms) (hx : BdC x) (hm : BdM m) : Zee x m = some (hearC x m) := by
 have ht : Zcr x m = some (Zgm (ToC x m)) := p_fits22 x m hx hm
 simp only [Zee, p_Own20 x hx, ht, Option.bind_some]
 by_cases c1 : ToC x m
 ·rw [Xe c1, hear_eq x m c1]
  obtain ⟨e, he, _, hw⟩ := idx_in x.caps m.frm (by have := c1.2.2.frm; have := c1.2.1.lc; omega) hx.lc
  simp only [cond_true, he, Option.bind_some, hw]
  rfl
 ·rw [Yf c1, hear_no x m c1]; rfl
theorem p_Meet22 (x : Co) (m : Ms) (hx : BdC x) (hm : BdM m) : Zc0 x m = some (Xo x m) := by
 simp only [Zc0, p_Own20 x hx, p_fits22 x m hx hm, p_Hear21 x m hx hm, Option.bind_some, Bool.cond_decide]
 unfold Xo
 by_cases c1 : ToC x m
 case neg => rw [Yf c1, if_neg (show ¬ (ToC x m ∧ x.tuple.term < m.term) from fun h => c1 h.1), hear_no x m c1]; rfl
 rw [Xe c1]
 simp only [Bool.not_true, cond_false]
 rw [hear_eq x m c1]
 by_cases c2 : x.tuple.term < m.term
 ·rw [if_pos (show ToC x m ∧ x.tuple.term < m.term from ⟨c1, c2⟩), if_neg (show ¬ m.term ≤ x.tuple.term by omega)]
  have hH := (hard_yes x.tuple m.term 0 c1.2.1.tup (.inl c2) c1.2.2.term.2 (by omega)).2
  rw [← hard_same _ _ _ hx.tup.1] at hH
  have hn := c1.2.1.n
  obtain ⟨N, hN⟩ : ∃ N : Nat, x.n = (N : Int) := ⟨x.n.toNat, by omega⟩
  have hk : makeI false x.n = some (List.replicate x.n.toNat false) := by rw [hN, makeI_nat _ N (by omega), Int.toNat_natCast]
  simp only [hH, hk, Option.bind_some]
 ·rw [if_neg (show ¬ (ToC x m ∧ x.tuple.term < m.term) from fun h => c2 h.2), if_pos (show m.term ≤ x.tuple.term by omega)]
end
section
open Go Go.RowKit
set_option maxRecDepth 100000
theorem p_Cut12 (x : Tu) (i : Int) (h : bdT x) (hi : -2000000000000 ≤ i ∧ i ≤ 2000000000000) : Zfm x i = some (Zch x (Zg7 x i), Zhh x (Zg7 x i)) := by
 obtain ⟨h1, h2⟩ := h
 simp only [Zfm, p_Own12 x h1, Option.bind_some, Zfq x ⟨h1, h2⟩, p_Right12, Bool.cond_decide, Tu.last]
 have w1 : IntKind.wrap .i64 (x.snap.index + (x.log.length : Int) + 1) = x.snap.index + x.log.length + 1 := J7 (by omega)
 have w2 : IntKind.wrap .i64 (i - x.snap.index) = i - x.snap.index := J7 (by omega)
 have w3 : IntKind.wrap .i64 (i - x.snap.index - 1) = i - x.snap.index - 1 := J7 (by omega)
 rw [w1, w2, w3]
 by_cases h3 : i ≤ x.snap.index
 ·have : Zg7 x i = none := by unfold Zg7 Tu.last; rw [if_neg (by omega)]
  rw [if_pos h3, this, chg_none]
 ·rw [if_neg h3]
  by_cases h4 : x.snap.index + (x.log.length : Int) + 1 < i
  ·have : Zg7 x i = none := by unfold Zg7 Tu.last; rw [if_neg (by omega)]
   rw [if_pos h4, this, chg_none]
  ·obtain ⟨k, hk⟩ : ∃ k : Nat, i - x.snap.index - 1 = (k : Int) := ⟨(i - x.snap.index - 1).toNat, by omega⟩
   have : Zg7 x i = some { x with log := x.log.take k } := by unfold Zg7 Tu.last; rw [if_pos (by omega), hk, Int.toNat_natCast]
   rw [if_neg h4, hk, takeI_nat _ _ (by omega), this, Zha]
   simp only [Option.bind_some]
   cases V7 x <;> cases V7 { x with log := x.log.take k } <;> rfl
theorem at12_no (t : Tu) (i : Int) (h : bdT t) (hi : i ≤ t.snap.index ∨ t.last < i) : Zcp t i = some (⟨0, 0, 0⟩, false) := by
 simp only [Zcp, Zfq t h, Option.bind_some, Bool.cond_decide]
 by_cases c : i ≤ t.snap.index
 ·rw [if_pos c]
 ·rw [if_neg c, if_pos (by omega)]
theorem fit23_l2 (x : Co) (r : Int) (v : List Int) : ∀ (n : Nat) (k : Int) (l : List Int), Zbx x r v n k l = J3 x r v n k l := by
 intro n
 induction n with
 | zero => intro k l; rfl
 | succ n ih => intro k l; rw [Zbx, J3]; simp only [ih]
theorem fit23_l1 (x : Co) (r : Int) : ∀ (n : Nat) (k : Int) (l : List Int), Zb0 x r n k l = J6 x r n k l := by
 intro n
 induction n with
 | zero => intro k l; rfl
 | succ n ih => intro k l; rw [Zb0, J6]; simp only [ih, fit23_l2]
theorem p_Fit23 (x : Co) (h : BdC x) : Zay x = some (fitC x) := by
 rw [← p_Fit x h]
 unfold Zay J0
 rw [p_Own20 x h, p_mOwn x h, Option.bind_some, Option.bind_some, Zfq x.tuple h.tup, Zgv x.tuple h.tup, Option.bind_some, Option.bind_some, fit23_l1]
theorem msg23_l1 (x : Co) (dt nx : Int) (t : Int × Bool) (k : Nat) (h : bdT x.tuple) (hk : nx = x.tuple.snap.index + 1 + (k : Int)) (hkl : k ≤ x.tuple.log.length) : ∀ (q j n : Nat), j + q = 4 → q < n →
  Vt x dt nx t n (nx + (j : Int)) ((x.tuple.log.drop k).take j) = some (⟨3, x.id, dt, x.tuple.term, x.binary, IntKind.wrap .i64 (nx - 1), t.1, x.commit, false, (x.tuple.log.drop k).take 4, ⟨0, 0, 0, 0, false⟩⟩, true) := by
 have h1 := h.1
 have h2 := h.2
 have hlen : x.tuple.last = x.tuple.snap.index + x.tuple.log.length := rfl
 have w0 : IntKind.wrap .i64 (nx + 4) = nx + 4 := J7 (by omega)
 intro q
 induction q with
 | zero =>
  intro j n hj hn
  obtain ⟨n, rfl⟩ : ∃ n', n = n' + 1 := ⟨n - 1, by omega⟩
  obtain rfl : j = 4 := by omega
  rw [Vt, w0]
  simp only [Bool.cond_decide, if_neg (show ¬ nx + ((4 : Nat) : Int) < nx + 4 by omega)]
 | succ q ih =>
  intro j n hj hn
  obtain ⟨n, rfl⟩ : ∃ n', n = n' + 1 := ⟨n - 1, by omega⟩
  have w1 : IntKind.wrap .i64 (nx + (j : Int) + 1) = nx + ((j + 1 : Nat) : Int) := by rw [J7 (by omega)]; omega
  rw [Vt, w0]
  simp only [Bool.cond_decide, if_pos (show nx + (j : Int) < nx + 4 by omega), w1]
  by_cases c : k + j < x.tuple.log.length
  ·obtain ⟨e, he, _⟩ := Xw c
   have hat := p_At12x x.tuple h (k + j) e he
   rw [show x.tuple.snap.index + 1 + ((k + j : Nat) : Int) = nx + (j : Int) by omega] at hat
   have ht : (x.tuple.log.drop k).take j ++ [e] = (x.tuple.log.drop k).take (j + 1) := by
    rw [List.take_add_one, List.getElem?_drop, he]; rfl
   rw [hat, Option.bind_some]
   dsimp only
   rw [cond_true, ht, Zcd _ (by rw [List.length_take]; omega), Option.bind_some]
   exact ih (j + 1) n (by omega) (by omega)
  ·have ht : (x.tuple.log.drop k).take j = (x.tuple.log.drop k).take (j + 1) := by
    rw [List.take_of_length_le (by rw [List.length_drop]; omega), List.take_of_length_le (by rw [List.length_drop]; omega)]
   rw [at12_no x.tuple _ h (.inr (by omega)), Option.bind_some]
   dsimp only
   rw [cond_false, ht]
   exact ih (j + 1) n (by omega) (by omega)
theorem message_eq (x : Co) (dt : Int) (hx : BdC x) : ∃ r, Vb x dt = some r ∧ Vw x dt = some r ∧ r.1.entries.length ≤ 4 := by
 have z4 : (zeroM, false).1.entries.length ≤ 4 := by show (0 : Nat) ≤ 4; omega
 by_cases h : RightC x
 case neg =>
  refine ⟨(zeroM, false), ?_, ?_, z4⟩
  ·simp only [Vb, Zfl x hx, Zb7, Yf h, Option.bind_some, Bool.not_false, cond_true]; rfl
  ·simp only [Vw, Ze4 x hx, Zb7, Yf h, Option.bind_some, Bool.not_false, cond_true]; rfl
 by_cases hr : x.role = 2
 case neg =>
  refine ⟨(zeroM, false), p_rMessage_no x dt h hr, ?_, z4⟩
  simp only [Vw, Ze4 x hx, Zb7, Xe h, Option.bind_some, Bool.not_true, cond_false, Bool.cond_decide, if_pos (show x.role ≠ 2 from hr)]; rfl
 by_cases c1 : dt < 1
 ·refine ⟨(zeroM, false), ?_, ?_, z4⟩
  ·simp only [Vb, Zfl x hx, Zb7, Xe h, Option.bind_some, Bool.not_true, cond_false, Bool.cond_decide, if_neg (show ¬ x.role ≠ 2 from fun h => h hr), if_pos c1]; rfl
  ·simp only [Vw, Ze4 x hx, Zb7, Xe h, Option.bind_some, Bool.not_true, cond_false, Bool.cond_decide, if_neg (show ¬ x.role ≠ 2 from fun h => h hr), if_pos c1]; rfl
 by_cases c2 : x.n < dt
 ·refine ⟨(zeroM, false), ?_, ?_, z4⟩
  ·simp only [Vb, Zfl x hx, Zb7, Xe h, Option.bind_some, Bool.not_true, cond_false, Bool.cond_decide, if_neg (show ¬ x.role ≠ 2 from fun h => h hr), if_neg c1, if_pos c2]; rfl
  ·simp only [Vw, Ze4 x hx, Zb7, Xe h, Option.bind_some, Bool.not_true, cond_false, Bool.cond_decide, if_neg (show ¬ x.role ≠ 2 from fun h => h hr), if_neg c1, if_pos c2]; rfl
 obtain ⟨nx, n1, _, n3, n4⟩ := next_in x dt h ⟨by omega, by omega⟩
 have hM := p_rMessage x dt nx h hr ⟨by omega, by omega⟩ n1 ⟨n3, n4⟩
 have hxb := Zfc _ h.tup
 have hlen : x.tuple.last = x.tuple.snap.index + x.tuple.log.length := rfl
 refine ⟨_, hM, ?_, ?_⟩
 ·simp only [Vw, Ze4 x hx, Zb7, Xe h, Option.bind_some, Bool.not_true, cond_false, Bool.cond_decide, if_neg (show ¬ x.role ≠ 2 from fun h => h hr), if_neg c1, if_neg c2, n1]
  by_cases c3 : dt = x.id
  ·rw [if_pos c3, if_pos (.inl c3)]; rfl
  rw [if_neg c3]
  by_cases c4 : nx ≤ x.tuple.snap.index
  ·rw [if_pos c4, if_pos (.inr c4)]; rfl
  rw [if_neg c4, if_neg (fun h => h.elim c3 c4), p_TermAt12 x.tuple _ hx.tup, Option.bind_some]
  obtain ⟨k, hk⟩ : ∃ k : Nat, nx = x.tuple.snap.index + 1 + (k : Int) := ⟨(nx - x.tuple.snap.index - 1).toNat, by omega⟩
  have := msg23_l1 x dt nx ((V2 x.tuple (IntKind.wrap .i64 (nx - 1))).getD 0, (V2 x.tuple (IntKind.wrap .i64 (nx - 1))).isSome) k hx.tup hk (by omega) 4 0 Xr (by omega) (by unfold Xr; omega)
  rw [show nx + ((0 : Nat) : Int) = nx by omega, List.take_zero] at this
  rw [this, J7 (n := nx - 1) (by omega)]
  unfold replM
  rw [show (nx - x.tuple.snap.index - 1).toNat = k by omega]
 ·split
  ·exact z4
  ·show (List.take 4 _).length ≤ 4
   rw [List.length_take]; omega
theorem beat_eq (x : Co) (hx : BdC x) : ∀ (q k n : Nat) (acc : List Ms), k + q = (min (max x.n 0) 5).toNat → q < n → acc.length + q ≤ 1000 → (∀ a ∈ acc, a.entries.length ≤ 4) →
  ∃ l, Zag x n acc k = some l ∧ Js x n acc ((k : Int) + 1) = some l ∧ l.length ≤ 1000 ∧ ∀ a ∈ l, a.entries.length ≤ 4 := by
 intro q
 induction q with
 | zero =>
  intro k n acc hk hn hl ha
  obtain ⟨n, rfl⟩ : ∃ n', n = n' + 1 := ⟨n - 1, by omega⟩
  refine ⟨acc, ?_, ?_, by omega, ha⟩
  ·rw [Zag]
   simp only [Bool.cond_decide, if_neg (show ¬ (k : Int) < min (max x.n 0) 5 by omega)]
  ·rw [Js]
   simp only [Bool.cond_decide]
   by_cases c : (k : Int) + 1 ≤ x.n
   ·rw [if_pos c, if_neg (by omega)]
   ·rw [if_neg c]
 | succ q ih =>
  intro k n acc hk hn hl ha
  obtain ⟨n, rfl⟩ : ∃ n', n = n' + 1 := ⟨n - 1, by omega⟩
  obtain ⟨r, r1, r2, r3⟩ := message_eq x ((k : Int) + 1) hx
  have w1 : IntKind.wrap .i64 ((k : Int) + 1) = (k : Int) + 1 := J7 (by omega)
  have w2 : IntKind.wrap .i64 ((k : Int) + 1 + 1) = ((k + 1 : Nat) : Int) + 1 := by rw [J7 (by omega)]; omega
  have w3 : (k : Int) + 1 = ((k + 1 : Nat) : Int) := by omega
  rw [Zag, Js]
  simp only [Bool.cond_decide, if_pos (show (k : Int) < min (max x.n 0) 5 by omega), if_pos (show (k : Int) + 1 ≤ x.n by omega), if_pos (show (k : Int) + 1 ≤ 5 by omega), w1, w2, r1, r2, Option.bind_some]
  cases r.2 with
  | true =>
   simp only [cond_true, Zcd (acc ++ [r.1]) (by rw [List.length_append]; simp only [List.length_cons, List.length_nil]; omega), Option.bind_some]
   rw [w3]
   exact ih (k + 1) n (acc ++ [r.1]) (by omega) (by omega) (by rw [List.length_append]; simp only [List.length_cons, List.length_nil]; omega) (fun a h => by
    rcases List.mem_append.1 h with h | h
    ·exact ha a h
    ·rw [List.mem_singleton.1 h]; exact r3)
  | false =>
   simp only [cond_false]
   rw [w3]
   exact ih (k + 1) n acc (by omega) (by omega) (by omega) ha
theorem idx_setI {α : Type} {l : List α} {i : Int} {e v : α} (h : idx l i = some e) : idx (Zbe l i v) i = some v := by
 obtain ⟨k, rfl, _, hk⟩ := Yt h
 rw [setI_nat, Zav, List.getElem?_set_self hk]
theorem setI_self {α : Type} {l : List α} {i : Int} {e : α} (h : idx l i = some e) : Zbe l i e = l := by
 obtain ⟨k, rfl, h1, hk⟩ := Yt h
 rw [setI_nat]
 obtain ⟨h3, h4⟩ := List.getElem?_eq_some_iff.1 h1
 rw [← h4]; exact List.set_getElem_self h3
theorem told_eq (x : Co) (m : Ms) (hx : BdC x) (hm : BdM m) : Zb8 x m = Vu x m := by
 have hto := p_To23 x m hx hm
 by_cases h : ToC x m
 case neg =>
  simp only [Vu, Zb8, p_To x m hx hm, hto, p_mOwn x hx, p_Own20 x hx, Yf h, Option.bind_some, Bool.not_false, cond_true]
 by_cases hk : m.kind = 4
 case neg =>
  simp only [Vu, Zb8, p_To x m hx hm, hto, p_mOwn x hx, p_Own20 x hx, Xe h, Option.bind_some, Bool.not_true, cond_false, Bool.cond_decide, if_pos (show m.kind ≠ 4 from hk)]
 have hy := Zdz x m h.2.1
 have hbd := hy.bd
 have hmf := meet_f x m
 simp only [Vu, Zb8, p_To x m hx hm, hto, p_Meet x m hx hm, p_Meet22 x m hx hm, Xe h, Option.bind_some, Bool.not_true, cond_false, Bool.cond_decide, if_neg (show ¬ m.kind ≠ 4 from fun h => h hk)]
 by_cases hr : (Xo x m).role ≠ 2
 ·rw [if_pos hr, if_pos hr]
 by_cases ht : m.term ≠ (Xo x m).tuple.term
 ·rw [if_neg hr, if_neg hr, if_pos ht, if_pos ht]
 rw [if_neg hr, if_neg hr, if_neg ht, if_neg ht]
 have hfr := h.2.2.frm
 have hln := h.2.1.ln
 have hlm := h.2.1.lm
 obtain ⟨nx, hn, _, hw⟩ := idx_in x.next m.frm (by omega) hx.ln
 obtain ⟨ma, hma, _, _⟩ := idx_in x.mtch m.frm (by omega) hx.lm
 simp only [hw, hmf.next, hmf.mtch, hn, hma, Zgv _ hbd.tup, Zfq _ hbd.tup, Option.bind_some, idx_setI hma, setI_self hma]
open Classical in
noncomputable def tailV (y : Co) (m : Ms) (i : Nat) : Co × List Ms :=
 if i < m.entries.length then
  (if m.last + 1 + (i : Int) ≤ y.commit then ({ y with role := 0 }, [])
  else if V7 (Zcx y.tuple m i) = true then (finC y (Zcx y.tuple m i) m, [Zhj { y with tuple := Zcx y.tuple m i } m 4 true (m.last + (m.entries.length : Int))])
  else ({ y with role := 0 }, [Zhj y m 4 false y.tuple.last]))
 else (finC y y.tuple m, [Zhj y m 4 true (m.last + (m.entries.length : Int))])
theorem TailR.val {y : Co} {m : Ms} {d : Co} {l : List Ms} {i : Nat} (s : TailR y m d l) (ho : OtherS y.tuple m i) : (d, l) = tailV y m i := by
 unfold tailV
 cases s with
 | bound k hk hi hc => rw [ho.uniq hk, if_pos hi, if_pos hc]
 | fail k hk hi hc hf => rw [ho.uniq hk, if_pos hi, if_neg (by omega), hf, if_neg (by decide)]
 | put k hk hi hc hf => rw [ho.uniq hk, if_pos hi, if_neg (by omega), if_pos hf]
 | all hk => rw [ho.uniq hk, if_neg (Nat.lt_irrefl _)]
theorem app23_fin (y : Co) (t : Tu) (m : Ms) (hy : RightC y) (ht : bdT t) (hl : 0 ≤ m.last ∧ m.last ≤ 1073741824) (hn : m.entries.length ≤ 1000000) :
  ((Zay {y with role := 0, tuple := t}).bind fun r239 =>
   (V8 r239.tuple (max r239.commit (min m.commit (IntKind.wrap .i64 (m.last + (m.entries.length : Int)))))).bind fun r264 =>
   (V1 {r239 with commit := (max r239.commit (min m.commit (IntKind.wrap .i64 (m.last + (m.entries.length : Int))))), applied := r264.1} m true (IntKind.wrap .i64 (m.last + (m.entries.length : Int)))).bind fun r267 =>
   some ({r239 with commit := (max r239.commit (min m.commit (IntKind.wrap .i64 (m.last + (m.entries.length : Int))))), applied := r264.1}, r267)) = some (finC y t m, [Zhj { y with tuple := t } m 4 true (m.last + (m.entries.length : Int))]) := by
 have hb := hy.bd
 have hz : BdC {y with role := 0, tuple := t} := ⟨ht, hb.lv, hb.ln, hb.lm, hb.lc⟩
 rw [p_Fit23 _ hz, Option.bind_some, J7 (n := m.last + (m.entries.length : Int)) (by omega), p_State12' _ _ (show bdT (fitC {y with role := 0, tuple := t}).tuple from ht), Option.bind_some]
 rfl
theorem app23_l1 (y : Co) (m : Ms) (hy : RightC y) (hl : 0 ≤ m.last ∧ m.last ≤ 1073741824) (hn : m.entries.length ≤ 4) (hll : m.last ≤ y.tuple.last) : ∀ (q k n : Nat) (v : Int), q + k = m.entries.length → q < n → (∀ j, j < k → HasJ y.tuple m j) →
  ∃ i, OtherS y.tuple m i ∧ Vm m y y.tuple.last n v k = some (tailV y m i) := by
 have hbd := hy.bd
 have hxb := Zfc _ hy.tup
 have hcb := Zhl hy
 have hlen : y.tuple.last = y.tuple.snap.index + y.tuple.log.length := rfl
 intro q
 induction q with
 | zero =>
  intro k n v hk hn' hs
  obtain ⟨n, rfl⟩ : ∃ n', n = n' + 1 := ⟨n - 1, by omega⟩
  obtain rfl : k = m.entries.length := by omega
  refine ⟨m.entries.length, ⟨Nat.le_refl _, hs, fun h => (Nat.lt_irrefl _ h).elim⟩, ?_⟩
  rw [Vm, decide_eq_false (show ¬ ((m.entries.length : Nat) : Int) < (m.entries.length : Int) by omega), cond_false, app23_fin y y.tuple m hy hbd.tup hl (by omega)]
  unfold tailV
  rw [if_neg (Nat.lt_irrefl _)]
 | succ q ih =>
  intro k n v hk hn' hs
  obtain ⟨n, rfl⟩ : ∃ n', n = n' + 1 := ⟨n - 1, by omega⟩
  obtain ⟨e, he, _⟩ := Xw (show k < m.entries.length by omega)
  have w1 : IntKind.wrap .i64 ((k : Int) + 1) = ((k + 1 : Nat) : Int) := by rw [J7 (by omega)]; omega
  have w2 : IntKind.wrap .i64 (m.last + 1) = m.last + 1 := J7 (by omega)
  have w3 : IntKind.wrap .i64 (m.last + 1 + (k : Int)) = m.last + 1 + (k : Int) := J7 (by omega)
  have go : HasJ y.tuple m k → ∃ i, OtherS y.tuple m i ∧ Vm m y y.tuple.last n v ((k + 1 : Nat) : Int) = some (tailV y m i) := fun hk1 =>
   ih (k + 1) n v (by omega) (by omega) fun j hj => by
    by_cases c : j = k
    ·rw [c]; exact hk1
    ·exact hs j (by omega)
  have stop : ¬ HasJ y.tuple m k → OtherS y.tuple m k := fun hno => ⟨by omega, hs, fun _ => hno⟩
  have hki : k < m.entries.length := by omega
  rw [Vm, w1, w2, w3, decide_eq_true (show (k : Int) < (m.entries.length : Int) by omega), cond_true]
  by_cases c1 : m.last + 1 + (k : Int) ≤ y.tuple.snap.index
  ·rw [decide_eq_true c1, cond_true]
   exact go (.inl c1)
  rw [decide_eq_false c1, cond_false, p_TermAt12 _ _ hbd.tup, Option.bind_some, Zav, he, Option.bind_some]
  have hdr : dropI m.entries (k : Int) = some (m.entries.drop k) := dropI_nat _ _ (by omega)
  have tail : ∀ (ho : OtherS y.tuple m k) (hc : ¬ m.last + 1 + (k : Int) ≤ y.commit), ∀ t, t = ({ y.tuple with log := y.tuple.log.take (m.last + (k : Int) - y.tuple.snap.index).toNat } : Tu) →
    ((Za1 t (m.entries.drop k)).bind fun r199 => cond (decide (r199.2 ≠ 0))
     ((V1 {y with role := 0} m false y.tuple.last).bind fun r219 => some ({y with role := 0}, r219))
     ((Zay {y with role := 0, tuple := r199.1}).bind fun r239 =>
      (V8 r239.tuple (max r239.commit (min m.commit (IntKind.wrap .i64 (m.last + (m.entries.length : Int)))))).bind fun r264 =>
      (V1 {r239 with commit := (max r239.commit (min m.commit (IntKind.wrap .i64 (m.last + (m.entries.length : Int))))), applied := r264.1} m true (IntKind.wrap .i64 (m.last + (m.entries.length : Int)))).bind fun r267 =>
      some ({r239 with commit := (max r239.commit (min m.commit (IntKind.wrap .i64 (m.last + (m.entries.length : Int))))), applied := r264.1}, r267))) = some (tailV y m k) := fun ho hc t ht => by
   obtain ⟨a1, a2⟩ := other_at y.tuple m k hll ho hki
   obtain ⟨j, hj⟩ : ∃ j : Nat, m.last + (k : Int) - y.tuple.snap.index = (j : Int) := ⟨(m.last + (k : Int) - y.tuple.snap.index).toNat, by omega⟩
   have hjt : (m.last + (k : Int) - y.tuple.snap.index).toNat = j := by omega
   have hjl : j ≤ y.tuple.log.length := by omega
   have hT := (cut_yes y.tuple j hy.tup hjl).2.2
   rw [hjt] at ht
   have hnew : Zcx y.tuple m k = { ({ y.tuple with log := y.tuple.log.take j } : Tu) with log := ({ y.tuple with log := y.tuple.log.take j } : Tu).log ++ m.entries.drop k } := by unfold Zcx; rw [hjt]
   have happ := p_Append12' { y.tuple with log := y.tuple.log.take j } (m.entries.drop k) ⟨by dsimp only; rw [List.length_take]; omega, by rw [List.length_drop]; omega⟩
   rw [← hnew, Zha, if_pos hT] at happ
   have hbt : bdT (Zcx y.tuple m k) := ⟨by unfold Zcx; dsimp only; rw [List.length_append, List.length_take, List.length_drop]; omega, hbd.tup.2⟩
   rw [ht, happ]
   unfold tailV
   rw [if_pos hki, if_neg hc]
   cases hf : V7 (Zcx y.tuple m k) with
   | true =>
    rw [if_pos rfl, Option.bind_some, decide_eq_false (show ¬ ((Zcx y.tuple m k, (0 : Int)).2 ≠ 0) from fun h => h rfl), cond_false, app23_fin y (Zcx y.tuple m k) m hy hbt hl (by omega), if_pos rfl]
   | false =>
    rw [if_neg (by decide), Option.bind_some, decide_eq_true (show ((({ y.tuple with log := y.tuple.log.take j } : Tu), (2 : Int)).2 ≠ 0) from (by decide : (2 : Int) ≠ 0)), cond_true, if_neg (by decide)]
    rfl
  cases ht : V2 y.tuple (m.last + 1 + (k : Int)) with
  | none =>
   have hno : ¬ HasJ y.tuple m k := by
    rintro (h | ⟨e', _, h⟩)
    ·exact c1 h
    ·rw [ht] at h; cases h
   have hgt : y.tuple.last < m.last + 1 + (k : Int) := by
    rcases Int.lt_or_le y.tuple.last (m.last + 1 + (k : Int)) with h | h
    ·exact h
    ·exfalso
     obtain ⟨j, hj⟩ : ∃ j : Nat, m.last + 1 + (k : Int) = y.tuple.snap.index + (j : Int) := ⟨(m.last + 1 + (k : Int) - y.tuple.snap.index).toNat, by omega⟩
     rw [hj, termAt_log y.tuple j (by omega)] at ht
     cases ht
   refine ⟨k, stop hno, ?_⟩
   dsimp only [Option.isSome_none]
   rw [cond_false, hdr, Option.bind_some]
   exact tail (stop hno) (by omega) y.tuple (by rw [List.take_of_length_le (by omega)])
  | some t =>
   dsimp only [Option.isSome_some, Option.getD_some]
   rw [cond_true]
   by_cases c2 : t = e.term
   ·rw [decide_eq_true c2, cond_true]
    exact go (.inr ⟨e, he, by rw [ht, c2]⟩)
   have hno : ¬ HasJ y.tuple m k := by
    rintro (h | ⟨e', he', h⟩)
    ·exact c1 h
    ·rw [he] at he'
     obtain rfl := QJ he'
     rw [ht] at h
     exact c2 (QJ h)
   have hle := (termAt_bd ht).2
   refine ⟨k, stop hno, ?_⟩
   rw [decide_eq_false c2, cond_false]
   by_cases c3 : m.last + 1 + (k : Int) ≤ y.commit
   ·rw [decide_eq_true c3, cond_true]
    unfold tailV
    rw [if_pos hki, if_pos c3]
   rw [decide_eq_false c3, cond_false]
   obtain ⟨j, hj⟩ : ∃ j : Nat, m.last + 1 + (k : Int) = y.tuple.snap.index + 1 + (j : Int) := ⟨(m.last + (k : Int) - y.tuple.snap.index).toNat, by omega⟩
   have hcy := cut_yes y.tuple j hy.tup (by omega)
   have hC := p_Cut12 y.tuple (m.last + 1 + (k : Int)) hbd.tup (by omega)
   rw [hj, hcy.1, hcy.2.1, ← hj] at hC
   rw [hC, Option.bind_some, hdr, Option.bind_some]
   exact tail (stop hno) c3 _ (by rw [show (m.last + (k : Int) - y.tuple.snap.index).toNat = j by omega])
theorem append_eq (x : Co) (m : Ms) (hx : BdC x) (hm : BdM m) : ∃ d l, J4 x m = some (d, l) ∧ Za4 x m = some (d, l) ∧ BdC d ∧ (l = [] ∨ ∃ b, l = [b] ∧ b.entries = []) := by
 have hto := p_To23 x m hx hm
 by_cases h0 : ToC x m ∧ m.kind = 3
 case neg =>
  refine ⟨x, [], p_App_no x m hx hm h0, ?_, hx, .inl rfl⟩
  by_cases h : ToC x m
  ·have hk : m.kind ≠ 3 := fun hk => h0 ⟨h, hk⟩
   simp only [Za4, hto, p_Own20 x hx, Xe h, Option.bind_some, Bool.not_true, cond_false, Bool.cond_decide, if_pos hk]
  ·simp only [Za4, hto, p_Own20 x hx, Yf h, Option.bind_some, Bool.not_false, cond_true]
 obtain ⟨h, hk⟩ := h0
 obtain ⟨d, l, e1, s⟩ := p_App x m hm h hk
 have F := app_f x m d l h s
 have hy := Zdz x m h.2.1
 have hbd := hy.bd
 have hmf := meet_f x m
 have hge := meet_ge x m h
 have hfl := h.2.2.last
 have hfw := h.2.2.few
 have hla := hmf.last
 have hta : V2 (Xo x m).tuple m.last = V2 x.tuple m.last := by unfold V2 Tu.last; rw [hmf.snap, hmf.log]
 refine ⟨d, l, e1, ?_, F.right.bd, ?_⟩
 ·unfold Za4
  rw [hto, Option.bind_some, Xe h, Bool.not_true, cond_false, decide_eq_false (show ¬ m.kind ≠ 3 from fun h => h hk), cond_false, p_Meet22 x m hx hm, Option.bind_some, Zfq _ hbd.tup, Option.bind_some, p_TermAt12 _ _ hbd.tup]
  have tl : (Xo x m).role ≠ 2 → m.last ≤ (Xo x m).tuple.last → TailR (Xo x m) m d l → Vm m (Xo x m) (Xo x m).tuple.last Xr 0 0 = some (d, l) := fun _ hll ht => by
   obtain ⟨i, ho, g⟩ := app23_l1 (Xo x m) m hy hfl hfw hll m.entries.length 0 Xr 0 (by omega) (by unfold Xr; omega) (fun j hj => by omega)
   rw [ht.val ho]
   exact g
  cases s with
  | old c => rw [decide_eq_true c, cond_true, ← hla]; rfl
  | lead c cr => rw [decide_eq_false (by omega), cond_false, decide_eq_true cr, cond_true]
  | gap c cr cl => rw [decide_eq_false (by omega), cond_false, decide_eq_false cr, cond_false, decide_eq_true (by omega), cond_true, ← hla]; rfl
  | mism c cr cl tm ct cn =>
   rw [decide_eq_false (by omega), cond_false, decide_eq_false cr, cond_false, decide_eq_false (by omega), cond_false, Option.bind_some, hta, ct]
   dsimp only [Option.isSome_some, Option.getD_some]
   rw [Bool.true_and, decide_eq_true (show tm ≠ m.lastTerm from cn), cond_true, J7 (n := m.last - 1) (by omega)]
   rfl
  | tail c cr cl ck ct =>
   rw [decide_eq_false (by omega), cond_false, decide_eq_false cr, cond_false, decide_eq_false (by omega), cond_false, Option.bind_some, hta]
   have hT := tl cr (by omega) ct
   cases ht : V2 x.tuple m.last with
   | none => exact hT
   | some tm =>
    dsimp only [Option.isSome_some, Option.getD_some]
    rw [Bool.true_and, decide_eq_false (show ¬ tm ≠ m.lastTerm from fun h => h (ck tm ht)), cond_false]
    exact hT
 ·cases s with
  | old c => exact .inr ⟨_, rfl, rfl⟩
  | lead c cr => exact .inl rfl
  | gap c cr cl => exact .inr ⟨_, rfl, rfl⟩
  | mism c cr cl tm ct cn => exact .inr ⟨_, rfl, rfl⟩
  | tail c cr cl ck ct =>
   cases ct with
   | bound _ _ _ _ => exact .inl rfl
   | fail _ _ _ _ _ => exact .inr ⟨_, rfl, rfl⟩
   | put _ _ _ _ _ => exact .inr ⟨_, rfl, rfl⟩
   | all _ => exact .inr ⟨_, rfl, rfl⟩
theorem p_ReplTells (x : Co) (m : Ms) (dt : Int) (hk : 0 ≤ m.kind ∧ m.kind ≤ 255) : Zcl x m dt = some true := by
 obtain ⟨g, hg, hgb⟩ := p_great23 x m
 unfold Zcl
 simp only [hg, p_wakes23, Option.bind_some]
 cases g with
 | true => rfl
 | false =>
 obtain ⟨hbd, hme⟩ := hgb rfl
 have hm : BdM m := ⟨hk, by omega⟩
 obtain ⟨r, r1, r2, r3⟩ := message_eq x dt hbd
 obtain ⟨d, l, a1, a2, a3, a4⟩ := append_eq x m hbd hm
 obtain ⟨o, o1, s⟩ := p_Told x m hbd hm
 have o2 := told_eq x m hbd hm
 rw [o1] at o2
 have hob : BdC o := by
  cases s with
  | no _ => exact hbd
  | met h2 _ _ => exact (Zdz x m h2.2.1).bd
  | yes h2 hk2 hr ht nx ma hn hma => exact (told_right x m _ h2.2.1 (.yes h2 hk2 hr ht nx ma hn hma)).1.bd
 obtain ⟨bl, b1, b2, b3, b4⟩ := beat_eq x hbd (min (max x.n 0) 5).toNat 0 Xr [] (by omega) (by unfold Xr; omega) (by simp only [List.length_nil]; omega) (fun _ h => by cases h)
 have sd := p_Same20 d d a3
 have so := p_Same20 o o hob
 have sf := p_Same20 (fitC x) (fitC x) (fit_bd x hbd)
 rw [decide_eq_true rfl] at sd so sf
 have al : Zco l l = some true := by
  rcases a4 with rfl | ⟨b, rfl, hb⟩
  ·exact p_All_self [] (by simp) (fun _ h => by cases h)
  ·exact p_All_self [b] (by simp) (fun a h => by rw [List.mem_singleton.1 h, hb]; simp)
 have ab := p_All_self bl (by omega) (fun a h => by have := b4 a h; omega)
 have c1 : Zfn x = some bl := b1
 have c2 : Zf1 x = some bl := b2
 simp only [cond_false, r1, r2, a1, a2, o1, o2, c1, c2, p_Alike_self r.1 (by omega), sd, so, sf, al, ab, p_Fit x hbd, p_Fit23 x hbd, Option.bind_some, Bool.not_true, cond_true, Bool.cond_decide, ne_eq, not_true, if_false]
end

end Go.Proofs.YtamjlcaoieliaaaGreat
