/- What layer 12's references compute, in plain terms. -/
import Derived.Test.YthngkojbokknfaaGpAMg
import Derived.Test.YthngkojbokknfaaGxTDMg
import Derived.Test.YthngkojbokknfaaMg2
namespace Go.Proofs.Ythngkojbokknfaa
open Go Go.RowKit
theorem p_number (x : Int) : m_ref06_number x = some (numB x) := by
  unfold m_ref06_number numB
  by_cases h : 0 ≤ x <;> simp [h]
theorem p_Fine (x : St) : m_ref06_Fine x = some (fineB x) := by
  obtain ⟨i, t, s, l, f⟩ := x
  simp only [m_ref06_Fine, m_ref06_First, p_number, Option.bind_some, fineB, firstS, numB, St.mk.injEq, Bool.cond_not, Bool.cond_decide]
  cases f <;> (repeat' split) <;> simp_all <;> omega
theorem p_Right (x : En) : m_ref06_Right x = some (rightB x) := by
  obtain ⟨t, k, v⟩ := x
  simp only [m_ref06_Right, p_number, Option.bind_some, rightB, numB, Bool.cond_not, Bool.cond_decide]
  (repeat' split) <;> (refine congrArg some ?_; rw [Bool.eq_iff_iff]; simp only [decide_eq_true_eq, true_iff, Bool.false_eq_true, false_iff]; omega)
theorem p_Right12_l1 (x : Tu) (hl : x.log.length ≤ 1000000) : ∀ (m k n : Nat) (b : Bool) (t : Int), m = x.log.length - k → k ≤ x.log.length → m < n →
    m_ref12_Right_l1 x n b t k = some (logB t (x.log.drop k) && decide (lastT t (x.log.drop k) ≤ x.term ∧ 0 ≤ x.term ∧ x.term ≤ 1073741824)) := by
  intro m
  induction m with
  | zero =>
    intro k n b t hm hk hn
    obtain ⟨n, rfl⟩ : ∃ n', n = n' + 1 := ⟨n - 1, by omega⟩
    have hkl : k = x.log.length := by omega
    have hd : x.log.drop k = [] := List.drop_eq_nil_of_le (by omega)
    rw [m_ref12_Right_l1, hd]
    simp only [logB, Bool.cond_decide, if_neg (show ¬ ((k : Int) < (x.log.length : Int)) by omega), Bool.true_and]
    (repeat' split) <;> (refine congrArg some ?_; rw [Bool.eq_iff_iff]; simp only [decide_eq_true_eq, true_iff, Bool.false_eq_true, false_iff]; simp only [lastT]; omega)
  | succ m ih =>
    intro k n b t hm hk hn
    obtain ⟨n, rfl⟩ : ∃ n', n = n' + 1 := ⟨n - 1, by omega⟩
    obtain ⟨e, he, hd⟩ := drop_step (show k < x.log.length by omega)
    have hi := ih (k + 1) n b e.term (by omega) (by omega) (by omega)
    rw [m_ref12_Right_l1, hd]
    simp only [Bool.cond_decide, if_pos (show ((k : Int) < (x.log.length : Int)) by omega), idx_nat, he, Option.bind_some, p_Right, Bool.cond_not, logB, lastT]
    rw [w64i (by omega), show ((k : Int) + 1) = ((k + 1 : Nat) : Int) by omega, hi]
    cases hr : rightB e with
    | false => rfl
    | true =>
      simp only [cond_true, Bool.true_and]
      by_cases h : e.term < t
      · rw [if_pos h, decide_eq_false (show ¬ (t ≤ e.term) by omega)]; rfl
      · rw [if_neg h, decide_eq_true (show t ≤ e.term by omega)]; rfl
theorem p_Right12 (x : Tu) : m_ref12_Right x = some (tupB x) := by
  have key : tupB x = (fineB x.snap && decide (x.snap.index ≤ 1073740824 ∧ x.log.length ≤ 200 ∧ 0 ≤ x.vote ∧ x.vote ≤ 5) && (logB x.snap.term x.log && decide (lastT x.snap.term x.log ≤ x.term ∧ 0 ≤ x.term ∧ x.term ≤ 1073741824))) := by
    rw [Bool.eq_iff_iff]
    unfold tupB
    simp only [Bool.and_eq_true, decide_eq_true_eq]
    constructor
    · rintro ⟨⟨⟨h1, h2⟩, h3⟩, h4⟩
      have h5 := lastT_mono _ _ h3
      have h6 : 0 ≤ x.snap.term := by
        rcases (fineB_iff _).1 h1 with h | h
        · rw [h]; decide
        · omega
      exact ⟨⟨h1, by omega⟩, h3, by omega⟩
    · rintro ⟨⟨h1, h2⟩, h3, h4⟩
      exact ⟨⟨⟨h1, by omega⟩, h3⟩, by omega⟩
  rw [key]
  simp only [m_ref12_Right, p_Fine, Option.bind_some, Bool.cond_not, Bool.cond_decide]
  cases hf : fineB x.snap with
  | false => rfl
  | true =>
    simp only [cond_true, Bool.true_and]
    by_cases h1 : x.snap.index ≤ 1073740824 ∧ x.log.length ≤ 200 ∧ 0 ≤ x.vote ∧ x.vote ≤ 5
    · rw [if_neg (by omega), if_neg (by omega), if_neg (by omega), if_neg (by omega), decide_eq_true h1, Bool.true_and]
      have := p_Right12_l1 x (by omega) x.log.length 0 fuelN false x.snap.term (by omega) (by omega) (by unfold fuelN; omega)
      exact this
    · rw [decide_eq_false h1, Bool.false_and]
      (repeat' split) <;> first | rfl | (exfalso; omega)
theorem p_Same_l1 (a b : List En) (hl : a.length ≤ 1000000) (hab : a.length = b.length) : ∀ (m k n : Nat) (v : Bool), m = a.length - k → k ≤ a.length → m < n → m_ref06_Same_l1 a b n v k = some (decide (a.drop k = b.drop k)) := by
  intro m
  induction m with
  | zero =>
    intro k n v hm hk hn
    obtain ⟨n, rfl⟩ : ∃ n', n = n' + 1 := ⟨n - 1, by omega⟩
    rw [m_ref06_Same_l1, List.drop_eq_nil_of_le (by omega), List.drop_eq_nil_of_le (by omega)]
    simp only [Bool.cond_decide, if_neg (show ¬ ((k : Int) < (a.length : Int)) by omega)]
    rfl
  | succ m ih =>
    intro k n v hm hk hn
    obtain ⟨n, rfl⟩ : ∃ n', n = n' + 1 := ⟨n - 1, by omega⟩
    obtain ⟨e, he, hd⟩ := drop_step (show k < a.length by omega)
    obtain ⟨f, hf, hd2⟩ := drop_step (show k < b.length by omega)
    rw [m_ref06_Same_l1, hd, hd2]
    simp only [Bool.cond_decide, if_pos (show ((k : Int) < (a.length : Int)) by omega), idx_nat, he, hf, Option.bind_some, en_eq, Bool.cond_not]
    rw [w64i (by omega), show ((k : Int) + 1) = ((k + 1 : Nat) : Int) by omega, ih (k + 1) n v (by omega) (by omega) (by omega)]
    by_cases h : e = f
    · subst h; rw [if_pos rfl]; congr 1; rw [Bool.eq_iff_iff]; simp
    · rw [if_neg h]; congr 1; rw [Bool.eq_iff_iff]; simp [h]
theorem p_Same (a b : List En) (hl : a.length ≤ 1000000) : m_ref06_Same a b = some (decide (a = b)) := by
  unfold m_ref06_Same
  by_cases h : a.length = b.length
  · simp only [Bool.cond_decide, if_neg (show ¬ ((a.length : Int) ≠ (b.length : Int)) by omega)]
    have := p_Same_l1 a b hl h a.length 0 fuelN false (by omega) (by omega) (by unfold fuelN; omega)
    simpa using this
  · simp only [Bool.cond_decide, if_pos (show ((a.length : Int) ≠ (b.length : Int)) by omega)]
    rw [decide_eq_false (fun h' => h (by rw [h']))]
theorem p_Equal_l1 (a b : List En) (hl : a.length ≤ 1000000) (hab : a.length = b.length) : ∀ (m k n : Nat) (v : Bool), m = a.length - k → k ≤ a.length → m < n → m_slices_Equal___api_Entry_api_Entry__l1 a b n v k = some (decide (a.drop k = b.drop k)) := by
  intro m
  induction m with
  | zero =>
    intro k n v hm hk hn
    obtain ⟨n, rfl⟩ : ∃ n', n = n' + 1 := ⟨n - 1, by omega⟩
    rw [m_slices_Equal___api_Entry_api_Entry__l1, List.drop_eq_nil_of_le (by omega), List.drop_eq_nil_of_le (by omega)]
    simp only [Bool.cond_decide, if_neg (show ¬ ((k : Int) < (a.length : Int)) by omega)]
    rfl
  | succ m ih =>
    intro k n v hm hk hn
    obtain ⟨n, rfl⟩ : ∃ n', n = n' + 1 := ⟨n - 1, by omega⟩
    obtain ⟨e, he, hd⟩ := drop_step (show k < a.length by omega)
    obtain ⟨f, hf, hd2⟩ := drop_step (show k < b.length by omega)
    rw [m_slices_Equal___api_Entry_api_Entry__l1, hd, hd2]
    simp only [Bool.cond_decide, if_pos (show ((k : Int) < (a.length : Int)) by omega), idx_nat, he, hf, Option.bind_some, en_eq, Bool.cond_not]
    rw [w64i (by omega), show ((k : Int) + 1) = ((k + 1 : Nat) : Int) by omega, ih (k + 1) n v (by omega) (by omega) (by omega)]
    by_cases h : e = f
    · subst h; rw [if_pos rfl]; congr 1; rw [Bool.eq_iff_iff]; simp
    · rw [if_neg h]; congr 1; rw [Bool.eq_iff_iff]; simp [h]
theorem p_Equal (a b : List En) (hl : a.length ≤ 1000000) : m_slices_Equal___api_Entry_api_Entry_ a b = some (decide (a = b)) := by
  unfold m_slices_Equal___api_Entry_api_Entry_
  by_cases h : a.length = b.length
  · simp only [Bool.cond_decide, if_neg (show ¬ ((a.length : Int) ≠ (b.length : Int)) by omega)]
    have := p_Equal_l1 a b hl h a.length 0 fuelN false (by omega) (by omega) (by unfold fuelN; omega)
    simpa using this
  · simp only [Bool.cond_decide, if_pos (show ((a.length : Int) ≠ (b.length : Int)) by omega)]
    rw [decide_eq_false (fun h' => h (by rw [h']))]
theorem p_Same12 (x y : Tu) (hl : x.log.length ≤ 1000000) : m_ref12_Same x y = some (decide (x = y)) := by
  obtain ⟨s, l, t, v⟩ := x; obtain ⟨s2, l2, t2, v2⟩ := y
  simp only [m_ref12_Same, snap_eq, p_Same l l2 hl, Option.bind_some, Bool.cond_decide, Tu.mk.injEq]
  by_cases h1 : s = s2 <;> by_cases h2 : t = t2 <;> by_cases h3 : v = v2 <;> simp [h1, h2, h3]
theorem p_tSame (x y : Tu) (hl : x.log.length ≤ 1000000) : m_tuple_Same x y = some (decide (x = y)) := by
  obtain ⟨s, l, t, v⟩ := x; obtain ⟨s2, l2, t2, v2⟩ := y
  simp only [m_tuple_Same, snap_eq, p_Equal l l2 hl, Option.bind_some, Bool.cond_decide, Tu.mk.injEq]
  by_cases h1 : s = s2 <;> by_cases h2 : t = t2 <;> by_cases h3 : v = v2 <;> simp [h1, h2, h3]
theorem p_wakes : m_law12_wakes = some true := by decide +kernel
end Go.Proofs.Ythngkojbokknfaa
