/- TupleTells, in plain terms. -/
import Derived.Test.YthngkojbokknfaaGpUMg
namespace Go.Proofs.Ythngkojbokknfaa
open Go Go.RowKit
theorem p_Own12 (x : Tu) (h : x.log.length ≤ 1000000) : m_ref12_Own x = some x := by
  unfold m_ref12_Own
  rw [List.nil_append, fewI_ok _ (by omega)]; rfl
theorem p_tOwn (x : Tu) (h : x.log.length ≤ 1000000) : m_tuple_Own x = some x := by
  unfold m_tuple_Own m_slices_Clone___api_Entry_api_Entry_
  rw [fewI_ok _ (by omega)]; rfl
theorem chg_eq (x : Tu) (res : Option Tu) : (chgS x res, chgE x res) = if tupB x = true then (match res with | some y => if tupB y = true then (y, (0 : Int)) else (x, 2) | none => (x, 2)) else (x, 2) := by
  unfold chgS chgE
  by_cases hT : tupB x = true
  · rw [if_pos hT]
    cases res with
    | none =>
      have : doneB x none = none := by unfold doneB; rw [if_pos hT]
      rw [this]
    | some y =>
      by_cases hy : tupB y = true
      · have : doneB x (some y) = some y := by unfold doneB; rw [if_pos hT]; exact if_pos hy
        rw [this]; dsimp only; rw [if_pos hy]
      · have : doneB x (some y) = none := by unfold doneB; rw [if_pos hT]; exact if_neg hy
        rw [this]; dsimp only; rw [if_neg hy]
  · have : doneB x res = none := if_neg hT
    rw [this, if_neg hT]
theorem chg_none (x : Tu) : (chgS x none, chgE x none) = (x, (2 : Int)) := by
  rw [chg_eq]; split <;> rfl
theorem chg_some (x y : Tu) : (chgS x (some y), chgE x (some y)) = if tupB x = true then (if tupB y = true then (y, (0 : Int)) else (x, 2)) else (x, 2) := by rw [chg_eq]
theorem p_Append12 (x : Tu) (l : List En) (h : x.log.length ≤ 1000000 ∧ l.length ≤ 300) : m_ref12_Append x l = some (chgS x (some { x with log := x.log ++ l }), chgE x (some { x with log := x.log ++ l })) := by
  rw [chg_eq]
  simp only [m_ref12_Append, p_Own12 x h.1, Option.bind_some, fewI_ok _ (show (x.log ++ l).length ≤ 1000000000 by rw [List.length_append]; omega), p_Right12]
  cases tupB x <;> cases tupB { x with log := x.log ++ l } <;> rfl
theorem p_Last12 (x : Tu) (h : bdT x) : m_ref12_Last x = some x.last := p_tLast x h
theorem p_Cut12 (x : Tu) (i : Int) (h : bdT x) (hi : -2000000000000 ≤ i ∧ i ≤ 2000000000000) : m_ref12_Cut x i = some (chgS x (cutR x i), chgE x (cutR x i)) := by
  obtain ⟨h1, h2⟩ := h
  simp only [m_ref12_Cut, p_Own12 x h1, Option.bind_some, p_Last12 x ⟨h1, h2⟩, p_Right12, Bool.cond_decide, Tu.last]
  have w1 : IntKind.wrap .i64 (x.snap.index + (x.log.length : Int) + 1) = x.snap.index + x.log.length + 1 := w64i (by omega)
  have w2 : IntKind.wrap .i64 (i - x.snap.index) = i - x.snap.index := w64i (by omega)
  have w3 : IntKind.wrap .i64 (i - x.snap.index - 1) = i - x.snap.index - 1 := w64i (by omega)
  rw [w1, w2, w3]
  by_cases h3 : i ≤ x.snap.index
  · have : cutR x i = none := by unfold cutR Tu.last; rw [if_neg (by omega)]
    rw [if_pos h3, this, chg_none]
  · rw [if_neg h3]
    by_cases h4 : x.snap.index + (x.log.length : Int) + 1 < i
    · have : cutR x i = none := by unfold cutR Tu.last; rw [if_neg (by omega)]
      rw [if_pos h4, this, chg_none]
    · obtain ⟨k, hk⟩ : ∃ k : Nat, i - x.snap.index - 1 = (k : Int) := ⟨(i - x.snap.index - 1).toNat, by omega⟩
      have : cutR x i = some { x with log := x.log.take k } := by unfold cutR Tu.last; rw [if_pos (by omega), hk, Int.toNat_natCast]
      rw [if_neg h4, hk, takeI_nat _ _ (by omega), this, chg_some]
      simp only [Option.bind_some]
      cases tupB x <;> cases tupB { x with log := x.log.take k } <;> rfl
theorem p_TermAt12 (x : Tu) (i : Int) (h : bdT x) : m_ref12_TermAt x i = some ((termAt x i).getD 0, (termAt x i).isSome) := p_tTermAt x i h
theorem p_Save12 (x : Tu) (s : St) (h : bdT x) (hi : -2000000000000 ≤ s.index ∧ s.index ≤ 2000000000000) : m_ref12_Save x s = some (chgS x (saveR x s), chgE x (saveR x s)) := by
  have hT := p_TermAt12 x s.index h
  obtain ⟨h1, h2⟩ := h
  simp only [m_ref12_Save, p_Own12 x h1, Option.bind_some, hT, p_Right12, p_Fine]
  by_cases hc : termAt x s.index = some s.term ∧ fineB s = true
  · obtain ⟨ht, hf⟩ := hc
    have hle : x.snap.index ≤ s.index ∧ s.index ≤ x.snap.index + x.log.length := by
      unfold termAt Tu.last at ht
      split at ht
      · omega
      · split at ht
        · omega
        · cases ht
    obtain ⟨k, hk⟩ : ∃ k : Nat, s.index - x.snap.index = (k : Int) := ⟨(s.index - x.snap.index).toNat, by omega⟩
    have w1 : IntKind.wrap .i64 (s.index - x.snap.index) = (k : Int) := by rw [w64i (by omega)]; exact hk
    have hr : saveR x s = some { x with snap := s, log := x.log.drop k } := by unfold saveR; rw [if_pos ⟨ht, hf⟩, hk, Int.toNat_natCast]
    rw [hr, chg_some, w1, dropI_nat _ _ (by omega), ht, hf]
    simp only [Option.isSome_some, Option.getD_some, ne_eq, not_true, decide_false, cond_false, Bool.not_true, Option.bind_some, List.nil_append, fewI_ok _ (show (x.log.drop k).length ≤ 1000000000 by rw [List.length_drop]; omega)]
    cases tupB x <;> cases tupB { x with snap := s, log := x.log.drop k } <;> rfl
  · have hr : saveR x s = none := by unfold saveR; rw [if_neg hc]
    rw [hr, chg_none]
    cases ht : termAt x s.index with
    | none => rfl
    | some t =>
      simp only [Option.isSome_some, Bool.not_true, cond_false, Option.getD_some]
      by_cases h3 : t = s.term
      · have hf : fineB s = false := by
          cases hf : fineB s with
          | false => rfl
          | true => exact (hc ⟨by rw [ht, h3], hf⟩).elim
        rw [hf, decide_eq_false (show ¬ (t ≠ s.term) from fun h' => h' h3)]; rfl
      · rw [decide_eq_true (show t ≠ s.term from h3)]; rfl
theorem p_Install12 (x : Tu) (s : St) (h : bdT x) (hi : -2000000000000 ≤ s.index ∧ s.index ≤ 2000000000000) : m_ref12_Install x s = some (chgS x (instR x s), chgE x (instR x s)) := by
  have hT := p_TermAt12 x s.index h
  have hSv := p_Save12 x s h hi
  obtain ⟨h1, h2⟩ := h
  simp only [m_ref12_Install, p_Own12 x h1, Option.bind_some, hT, p_Right12, hSv, Bool.cond_decide]
  by_cases h3 : s.index ≤ x.snap.index
  · have : instR x s = none := by unfold instR; rw [if_neg (by omega)]
    rw [if_pos h3, this, chg_none]
  · rw [if_neg h3]
    by_cases h4 : x.term < s.term
    · have : instR x s = none := by unfold instR; rw [if_neg (by omega)]
      rw [if_pos h4, this, chg_none]
    · rw [if_neg h4]
      have hin : instR x s = if termAt x s.index = some s.term then saveR x s else some { snap := s, log := [], term := x.term, vote := x.vote } := by unfold instR; rw [if_pos (by omega)]
      cases ht : termAt x s.index with
      | none =>
        have : instR x s = some { snap := s, log := [], term := x.term, vote := x.vote } := by rw [hin, ht, if_neg (fun h => by cases h)]
        rw [this, chg_some]
        simp only [Option.isSome_none, cond_false]
        cases tupB x <;> cases tupB ⟨s, [], x.term, x.vote⟩ <;> rfl
      | some t =>
        simp only [Option.isSome_some, cond_true, Option.getD_some]
        by_cases h5 : t = s.term
        · have : instR x s = saveR x s := by rw [hin, ht, if_pos (by rw [h5])]
          rw [if_pos h5, this]
        · have : instR x s = some { snap := s, log := [], term := x.term, vote := x.vote } := by rw [hin, ht, if_neg (fun h => h5 (Option.some.inj h))]
          rw [if_neg h5, this, chg_some]
          cases tupB x <;> cases tupB ⟨s, [], x.term, x.vote⟩ <;> rfl
theorem p_Hard12 (x : Tu) (t v : Int) (h : x.log.length ≤ 1000000) : m_ref12_Hard x t v = some (chgS x (hardR x t v), chgE x (hardR x t v)) := by
  simp only [m_ref12_Hard, p_Own12 x h, Option.bind_some, p_Right12, Bool.cond_decide, Bool.cond_not]
  have hy : (x.term < t ∨ t = x.term ∧ (x.vote = 0 ∨ x.vote = v)) → hardR x t v = some { x with term := t, vote := v } := fun h => by unfold hardR; rw [if_pos h]
  have hn : ¬ (x.term < t ∨ t = x.term ∧ (x.vote = 0 ∨ x.vote = v)) → hardR x t v = none := fun h => by unfold hardR; rw [if_neg h]
  by_cases h1 : x.term < t
  · rw [if_pos h1, hy (.inl h1), chg_some]
    cases tupB x <;> cases tupB ⟨x.snap, x.log, t, v⟩ <;> rfl
  · rw [if_neg h1]
    by_cases h2 : t = x.term
    · rw [if_pos h2]
      by_cases h3 : x.vote = 0
      · rw [if_pos h3, hy (.inr ⟨h2, .inl h3⟩), chg_some]
        cases tupB x <;> cases tupB ⟨x.snap, x.log, t, v⟩ <;> rfl
      · rw [if_neg h3]
        by_cases h4 : x.vote = v
        · rw [if_pos h4, hy (.inr ⟨h2, .inr h4⟩), chg_some]
          cases tupB x <;> cases tupB ⟨x.snap, x.log, t, v⟩ <;> rfl
        · rw [if_neg h4, hn (by omega), chg_none]
    · rw [if_neg h2, hn (by omega), chg_none]
theorem p_Next (s : St) (e : En) : m_ref06_Next s e = some (nextS s e) := by
  simp only [m_ref06_Next, p_Right, p_Fine, Option.bind_some]
  by_cases hc : rightB e = true ∧ fineB s = true ∧ s.index < 1073741824
  · obtain ⟨hr, hf, hi⟩ := hc
    have hn : nextS s e = deedS e.kind e.value { s with index := s.index + 1, term := e.term } := by unfold nextS; rw [if_pos ⟨hr, hf, hi⟩]
    have hb : 0 ≤ s.index ∧ 0 ≤ s.sum ∧ s.sum ≤ 1073741824 := by
      rcases (fineB_iff s).1 hf with h | h
      · rw [h]; decide
      · omega
    have hv : 0 ≤ e.value ∧ e.value ≤ 1073741824 := by
      unfold rightB at hr; simp only [decide_eq_true_eq] at hr; omega
    have w0 : IntKind.wrap .i64 (s.index + 1) = s.index + 1 := w64i (by omega)
    have w1 : IntKind.wrap .i64 (31 * s.sum) = 31 * s.sum := w64i (by omega)
    have w2 : IntKind.wrap .i64 (31 * s.sum + e.value) = 31 * s.sum + e.value := w64i (by omega)
    have w3 : IntKind.wrap .i64 (31 * s.sum + e.value + 1) = 31 * s.sum + e.value + 1 := w64i (by omega)
    rw [hn, hr, hf, w0, w1, w2, w3, Int.tmod_eq_emod_of_nonneg (by omega), decide_eq_false (show ¬ (1073741824 ≤ s.index) by omega)]
    simp only [Bool.not_true, cond_false, Bool.cond_decide]
    unfold deedS
    by_cases k1 : e.kind = 1
    · rw [if_pos k1, if_pos k1]
    · rw [if_neg k1, if_neg k1]
      by_cases k2 : e.kind = 2
      · rw [if_pos k2, if_pos k2]
      · rw [if_neg k2, if_neg k2]
        by_cases k3 : e.kind = 3
        · rw [if_pos k3, if_pos k3]
          cases hF : s.final <;> rfl
        · rw [if_neg k3, if_neg k3]
          by_cases k4 : e.kind = 4
          · rw [if_pos k4, if_pos k4]
          · rw [if_neg k4, if_neg k4]
  · have hn : nextS s e = s := by unfold nextS; rw [if_neg hc]
    rw [hn]
    cases hr : rightB e with
    | false => rfl
    | true =>
      cases hf : fineB s with
      | false => rfl
      | true =>
        rw [decide_eq_true (show 1073741824 ≤ s.index by
          have : ¬ (s.index < 1073741824) := fun h => hc ⟨hr, hf, h⟩
          omega)]
        rfl
theorem p_All_l1 (l : List En) (hl : l.length ≤ 1000000) : ∀ (m k n : Nat) (s : St), m = l.length - k → k ≤ l.length → m < n → m_ref06_All_l1 l n k s.index s.term s.sum s.level s.final = some (allS s (l.drop k)) := by
  intro m
  induction m with
  | zero =>
    intro k n s hm hk hn
    obtain ⟨n, rfl⟩ : ∃ n', n = n' + 1 := ⟨n - 1, by omega⟩
    rw [m_ref06_All_l1, List.drop_eq_nil_of_le (by omega)]
    simp only [Bool.cond_decide, if_neg (show ¬ ((k : Int) < (l.length : Int)) by omega)]
    rfl
  | succ m ih =>
    intro k n s hm hk hn
    obtain ⟨n, rfl⟩ : ∃ n', n = n' + 1 := ⟨n - 1, by omega⟩
    obtain ⟨e, he, hd⟩ := drop_step (show k < l.length by omega)
    rw [m_ref06_All_l1, hd]
    simp only [Bool.cond_decide, if_pos (show ((k : Int) < (l.length : Int)) by omega), idx_nat, he, Option.bind_some]
    have : m_ref06_Next ⟨s.index, s.term, s.sum, s.level, s.final⟩ e = some (nextS s e) := p_Next s e
    rw [this, Option.bind_some, w64i (by omega), show ((k : Int) + 1) = ((k + 1 : Nat) : Int) by omega, ih (k + 1) n (nextS s e) (by omega) (by omega) (by omega)]
    rfl
theorem p_All (s : St) (l : List En) (hl : l.length ≤ 1000000) : m_ref06_All s l = some (allS s l) := p_All_l1 l hl l.length 0 fuelN s (by omega) (by omega) (by unfold fuelN; omega)
theorem p_State12 (x : Tu) (i : Int) (h : bdT x) : m_ref12_State x i = m_tuple_State x i := by
  have h1 := h.1
  have h2 := h.2
  unfold m_ref12_State
  rw [p_Last12 x h]
  simp only [Option.bind_some, Bool.cond_decide, Tu.last]
  by_cases h3 : i < x.snap.index
  · rw [if_pos h3, q_State_no x i h (.inl h3)]
  · rw [if_neg h3]
    by_cases h4 : x.snap.index + (x.log.length : Int) < i
    · rw [if_pos h4, q_State_no x i h (.inr h4)]
    · rw [if_neg h4]
      obtain ⟨k, hk⟩ : ∃ k : Nat, i = x.snap.index + (k : Int) := ⟨(i - x.snap.index).toNat, by omega⟩
      have w1 : IntKind.wrap .i64 (i - x.snap.index) = (k : Int) := by rw [w64i (by omega)]; omega
      rw [w1, takeI_nat _ _ (by omega), Option.bind_some, p_All _ _ (by rw [List.length_take]; omega), hk, q_State_yes x k h (by omega)]
      rfl
theorem m_At_eq (x : Tu) (i : Int) : m_tuple_At x i = m_ref12_At x i := rfl
theorem m_TermAt_eq (x : Tu) (i : Int) : m_tuple_TermAt x i = m_ref12_TermAt x i := rfl
theorem p_At (x : Tu) (i : Int) (h : bdT x) : ∃ r, m_ref12_At x i = some r := by
  have := h.1
  have := h.2
  unfold m_ref12_At
  rw [p_Last12 x h]
  simp only [Option.bind_some, Bool.cond_decide, Tu.last]
  by_cases h3 : i ≤ x.snap.index
  · rw [if_pos h3]; exact ⟨_, rfl⟩
  · rw [if_neg h3]
    by_cases h4 : x.snap.index + (x.log.length : Int) < i
    · rw [if_pos h4]; exact ⟨_, rfl⟩
    · rw [if_neg h4]
      obtain ⟨k, hk⟩ : ∃ k : Nat, i = x.snap.index + 1 + (k : Int) := ⟨(i - x.snap.index - 1).toNat, by omega⟩
      have w1 : IntKind.wrap .i64 (i - x.snap.index) = i - x.snap.index := w64i (by omega)
      have w2 : IntKind.wrap .i64 (i - x.snap.index - 1) = (k : Int) := by rw [w64i (by omega)]; omega
      rw [w1, w2, idx_nat]
      obtain ⟨e, he, _⟩ := drop_step (show k < x.log.length by omega)
      rw [he]; exact ⟨_, rfl⟩
theorem p_State (x : Tu) (i : Int) (h : bdT x) : ∃ r, m_tuple_State x i = some r := by
  have := h.1
  by_cases h3 : i < x.snap.index ∨ x.snap.index + x.log.length < i
  · exact ⟨_, q_State_no x i h h3⟩
  · obtain ⟨k, hk⟩ : ∃ k : Nat, i = x.snap.index + (k : Int) := ⟨(i - x.snap.index).toNat, by omega⟩
    rw [hk]
    exact ⟨_, q_State_yes x k h (by omega)⟩
theorem cut_len (x : Tu) (i : Int) : ∀ y, cutR x i = some y → y.log.length ≤ x.log.length := by
  intro y h
  unfold cutR at h
  split at h
  · injection h with h; subst h; dsimp only; rw [List.length_take]; omega
  · cases h
theorem save_len (x : Tu) (s : St) : ∀ y, saveR x s = some y → y.log.length ≤ x.log.length := by
  intro y h
  unfold saveR at h
  split at h
  · injection h with h; subst h; dsimp only; rw [List.length_drop]; omega
  · cases h
theorem chg_len (x : Tu) (res : Option Tu) (n : Nat) (hx : x.log.length ≤ n) (h : ∀ y, res = some y → y.log.length ≤ n) : (chgS x res).log.length ≤ n := by
  have : (chgS x res, chgE x res).1.log.length ≤ n := by
    rw [chg_eq]
    split
    · cases res with
      | none => exact hx
      | some y => dsimp only; split; exact h y rfl; exact hx
    · exact hx
  exact this
theorem p_Tells (x o : Tu) (l : List En) (s : St) (i t v : Int) : m_law12_TupleTells x o l s i t v = some true := by
  simp only [m_law12_TupleTells, m_ref12_Great, p_wakes, Option.bind_some, Bool.cond_decide]
  by_cases g1 : (250 : Int) < (x.log.length : Int)
  · rw [if_pos g1]
  rw [if_neg g1]
  by_cases g2 : (250 : Int) < (o.log.length : Int)
  · rw [if_pos g2]
  rw [if_neg g2]
  by_cases g3 : (100 : Int) < (l.length : Int)
  · rw [if_pos g3]
  rw [if_neg g3]
  by_cases g4 : (1099511627776 : Int) < x.snap.index
  · rw [if_pos g4]
  rw [if_neg g4]
  by_cases g5 : x.snap.index < -1099511627776
  · rw [if_pos g5]
  rw [if_neg g5]
  by_cases g6 : (1099511627776 : Int) < i
  · rw [if_pos g6]
  rw [if_neg g6]
  by_cases g7 : i < -1099511627776
  · rw [if_pos g7]
  rw [if_neg g7]
  by_cases g8 : (1099511627776 : Int) < s.index
  · rw [if_pos g8]
  rw [if_neg g8]
  by_cases g9 : s.index < -1099511627776
  · rw [if_pos g9]
  rw [if_neg g9]
  have hlen : x.log.length ≤ 1000000 := by omega
  have hbd : bdT x := ⟨hlen, by omega, by omega⟩
  obtain ⟨rA, hA⟩ := p_At x i hbd
  obtain ⟨rS, hS⟩ := p_State x i hbd
  have hal : x.log.length ≤ 1000000 ∧ l.length ≤ 300 := ⟨hlen, by omega⟩
  have n1 := chg_len x (some { x with log := x.log ++ l }) 1000000 hlen (fun y h => by injection h with h; subst h; dsimp only; rw [List.length_append]; omega)
  have n2 := chg_len x (cutR x i) 1000000 hlen (fun y h => Nat.le_trans (cut_len x i y h) hlen)
  have n3 := chg_len x (saveR x s) 1000000 hlen (fun y h => Nat.le_trans (save_len x s y h) hlen)
  have n4 := chg_len x (instR x s) 1000000 hlen (fun y h => by
    unfold instR at h
    split at h
    · split at h
      · exact Nat.le_trans (save_len x s y h) hlen
      · injection h with h; subst h; simp
    · cases h)
  have n5 := chg_len x (hardR x t v) 1000000 hlen (fun y h => by
    unfold hardR at h
    split at h
    · injection h with h; subst h; exact hlen
    · cases h)
  have hF : m_tuple_First = some ⟨⟨0, 0, 0, 1, false⟩, [], 0, 0⟩ := rfl
  have hF2 : m_ref12_First = some ⟨⟨0, 0, 0, 1, false⟩, [], 0, 0⟩ := rfl
  simp only [q_Append x l hal, p_Append12 x l hal, q_Cut x i hlen, p_Cut12 x i hbd ⟨by omega, by omega⟩, q_Save x s hlen, p_Save12 x s hbd ⟨by omega, by omega⟩, q_Install x s hlen, p_Install12 x s hbd ⟨by omega, by omega⟩, q_Hard x t v hlen, p_Hard12 x t v hlen, p_Same12 _ _ n1, p_Same12 _ _ n2, p_Same12 _ _ n3, p_Same12 _ _ n4, p_Same12 _ _ n5, p_tTermAt x i hbd, p_TermAt12 x i hbd, m_At_eq, hA, p_State12 x i hbd, hS, q_Right x hbd, p_Right12, p_tLast x hbd, p_Last12 x hbd, hF, hF2, p_tSame x o hlen, p_Same12 x o hlen, p_tOwn x hlen, p_Same12 x x hlen, Option.bind_some, decide_true, Bool.not_true, cond_false, cond_true, snap_eq, en_eq, ne_eq, not_true, decide_false, if_false, if_true]
  rw [p_Same12 _ _ (by simp)]
  simp
end Go.Proofs.Ythngkojbokknfaa
