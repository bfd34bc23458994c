/- Layer 12's statements, in plain terms. -/
import Derived.Test.YthngkojbokknfaaGpTMg
namespace Go.Proofs.Ythngkojbokknfaa
open Go Go.RowKit
theorem q_Cut (x : Tu) (i : Int) (h : x.log.length ≤ 1000000) : m_tuple_Cut x i = some (chgS x (cutR x i), chgE x (cutR x i)) := by unfold m_tuple_Cut; rw [decide_eq_true h]; rfl
theorem q_Append (x : Tu) (l : List En) (h : x.log.length ≤ 1000000 ∧ l.length ≤ 300) : m_tuple_Append x l = some (chgS x (some { x with log := x.log ++ l }), chgE x (some { x with log := x.log ++ l })) := by unfold m_tuple_Append; rw [decide_eq_true h]; rfl
theorem q_Save (x : Tu) (s : St) (h : x.log.length ≤ 1000000) : m_tuple_Save x s = some (chgS x (saveR x s), chgE x (saveR x s)) := by unfold m_tuple_Save; rw [decide_eq_true h]; rfl
theorem q_Install (x : Tu) (s : St) (h : x.log.length ≤ 1000000) : m_tuple_Install x s = some (chgS x (instR x s), chgE x (instR x s)) := by unfold m_tuple_Install; rw [decide_eq_true h]; rfl
theorem q_Hard (x : Tu) (t v : Int) (h : x.log.length ≤ 1000000) : m_tuple_Hard x t v = some (chgS x (hardR x t v), chgE x (hardR x t v)) := by unfold m_tuple_Hard; rw [decide_eq_true h]; rfl
def bdT (x : Tu) : Prop := x.log.length ≤ 1000000 ∧ -2000000000000 ≤ x.snap.index ∧ x.snap.index ≤ 2000000000000
theorem q_Right (x : Tu) (h : bdT x) : m_tuple_Right x = some (tupB x) := by unfold m_tuple_Right; rw [okT_iff.2 h]; rfl
theorem q_State_yes (x : Tu) (k : Nat) (h : bdT x) (hk : k ≤ x.log.length) : m_tuple_State x (x.snap.index + k) = some (allS x.snap (x.log.take k), true) := by
  unfold m_tuple_State
  rw [okT_iff.2 h, decide_eq_true (by omega)]
  have : (x.snap.index + (k : Int) - x.snap.index).toNat = k := by omega
  rw [this]; rfl
theorem q_State_no (x : Tu) (i : Int) (h : bdT x) (hi : i < x.snap.index ∨ x.snap.index + x.log.length < i) : m_tuple_State x i = some (⟨0, 0, 0, 0, false⟩, false) := by
  unfold m_tuple_State
  rw [okT_iff.2 h, decide_eq_false (by omega)]; rfl
theorem p_tLast (x : Tu) (h : bdT x) : m_tuple_Last x = some x.last := by unfold m_tuple_Last Tu.last; obtain ⟨h1, h2, h3⟩ := h; rw [w64i (by omega)]
theorem p_tTermAt (x : Tu) (i : Int) (h : bdT x) : m_tuple_TermAt x i = some ((termAt x i).getD 0, (termAt x i).isSome) := by
  obtain ⟨h1, h2, h3⟩ := h
  unfold m_tuple_TermAt m_tuple_At termAt
  rw [p_tLast x ⟨h1, h2, h3⟩]
  unfold Tu.last
  simp only [Option.bind_some, Bool.cond_decide]
  by_cases hi : i = x.snap.index
  · rw [if_pos hi, if_pos hi]; rfl
  · rw [if_neg hi, if_neg hi]
    by_cases h4 : i ≤ x.snap.index
    · rw [if_pos h4, if_neg (by omega)]; rfl
    · rw [if_neg h4]
      by_cases h5 : x.snap.index + (x.log.length : Int) < i
      · rw [if_pos h5, if_neg (by omega)]; rfl
      · rw [if_neg h5, if_pos (by omega)]
        obtain ⟨k, hk⟩ : ∃ k : Nat, i = x.snap.index + 1 + k := ⟨(i - x.snap.index - 1).toNat, by omega⟩
        have e1 : IntKind.wrap .i64 (i - x.snap.index) = i - x.snap.index := w64i (by omega)
        have e2 : IntKind.wrap .i64 (i - x.snap.index - 1) = (k : Int) := by rw [w64i (by omega)]; omega
        have e3 : (i - x.snap.index - 1).toNat = k := by omega
        rw [e1, e2, e3, idx_nat]
        obtain ⟨e, he, _⟩ := drop_step (show k < x.log.length by omega)
        rw [he]; rfl
theorem p_Cuts (x : Tu) (a : Int) : m_law12_TupleCuts x a = some true := by
  simp only [m_law12_TupleCuts, p_Right12, Option.bind_some, p_wakes]
  cases hT : tupB x with
  | false => rfl
  | true =>
    have hb := tupB_bd x hT
    have hlen : x.log.length ≤ 1000000 := by omega
    have hbd : bdT x := ⟨hlen, hb.1, by omega⟩
    obtain ⟨k, hk, _, h2⟩ := rem_two a x.log.length (by omega)
    have hW : IntKind.wrap .i64 ((x.log.length : Int) + 1) = (x.log.length : Int) + 1 := w64i (by omega)
    rw [hW] at h2
    have hcut := cut_yes x k hT hk
    have hback := append_back x k hT hk
    have hno1 := cut_no x x.snap.index (.inl (Int.le_refl _))
    have hno2 := cut_no x (x.snap.index + x.log.length + 2) (.inr (by omega))
    have w1 : IntKind.wrap .i64 (x.snap.index + 1) = x.snap.index + 1 := w64i (by omega)
    have w2 : IntKind.wrap .i64 (x.snap.index + 1 + (k : Int)) = x.snap.index + 1 + k := w64i (by omega)
    have w3 : IntKind.wrap .i64 (x.snap.index + (x.log.length : Int) + 2) = x.snap.index + x.log.length + 2 := w64i (by omega)
    have w4 : IntKind.wrap .i64 (x.snap.index + (k : Int)) = x.snap.index + k := w64i (by omega)
    have htl : (x.log.take k).length = k := by rw [List.length_take]; omega
    have hl2 : m_tuple_Last { x with log := x.log.take k } = some (x.snap.index + k) := by
      rw [p_tLast { x with log := x.log.take k } ⟨by dsimp only; omega, hbd.2⟩]; unfold Tu.last; dsimp only; rw [htl]
    have ha := q_Append { x with log := x.log.take k } (x.log.drop k) ⟨by dsimp only; omega, by rw [List.length_drop]; omega⟩
    dsimp only at ha hback
    rw [hback.1, hback.2] at ha
    simp only [cond_true, Bool.not_true, cond_false, hW, remI_ok _ _ (show ((x.log.length : Int) + 1) ≠ 0 by omega), h2, Option.bind_some, w1, w2, q_Cut x _ hlen, hcut.1, hcut.2.1, dropI_nat _ _ hk, ha, hno1.1, hno1.2, p_tLast x hbd, Tu.last, w3, hno2.1, hno2.2, decide_true, p_Same12 x x hlen, hl2, w4, takeI_nat _ _ hk, p_Same _ _ (show (x.log.take k).length ≤ 1000000 by omega), Bool.and_true]
theorem p_Saves (x : Tu) (a i : Int) : m_law12_TupleSaves x a i = some true := by
  simp only [m_law12_TupleSaves, p_Right12, Option.bind_some, p_wakes]
  cases hT : tupB x with
  | false => rfl
  | true =>
    have hb := tupB_bd x hT
    have hlen : x.log.length ≤ 1000000 := by omega
    have hbd : bdT x := ⟨hlen, hb.1, by omega⟩
    obtain ⟨k, hk, _, h2⟩ := rem_two a x.log.length (by omega)
    obtain ⟨j, hj, _, h3⟩ := rem_two i x.log.length (by omega)
    have hW : IntKind.wrap .i64 ((x.log.length : Int) + 1) = (x.log.length : Int) + 1 := w64i (by omega)
    rw [hW] at h2 h3
    obtain ⟨hs1, hs2, hs3, hs4⟩ := save_at x k hT hk
    have w1 : IntKind.wrap .i64 (x.snap.index + (k : Int)) = x.snap.index + k := w64i (by omega)
    have w2 : IntKind.wrap .i64 (x.snap.index + (j : Int)) = x.snap.index + j := w64i (by omega)
    simp only [cond_true, Bool.not_true, cond_false, hW, remI_ok _ _ (show ((x.log.length : Int) + 1) ≠ 0 by omega), h2, h3, Option.bind_some, w1, w2, q_State_yes x k hbd hk, q_State_yes x j hbd hj, q_Save x _ hlen, hs1, ne_eq, not_true, decide_false, p_tTermAt x _ hbd, termAt_log x j hj]
    by_cases hbig : 1073740824 < x.snap.index + k
    · have hno := save_no x k hT hk hbig
      simp only [decide_eq_true hbig, cond_true, hno.1, hno.2, decide_true]
    · have hyes := save_yes x k hT hk (by omega)
      have hbd2 : bdT { x with snap := allS x.snap (x.log.take k), log := x.log.drop k } := ⟨by dsimp only; rw [List.length_drop]; omega, by dsimp only; omega, by dsimp only; omega⟩
      have hso := fun h => save_state x k j h
      have hto := fun h => save_term x k j hT h hj
      simp only [decide_eq_false hbig, cond_false, hyes.1, hyes.2, p_tTermAt _ _ hbd2, p_tLast _ hbd2, p_tLast x hbd]
      have hlast : ({ x with snap := allS x.snap (x.log.take k), log := x.log.drop k } : Tu).last = x.last := by
        unfold Tu.last; dsimp only; rw [hs1, List.length_drop]; omega
      by_cases hkj : k ≤ j
      · have hq := q_State_yes { x with snap := allS x.snap (x.log.take k), log := x.log.drop k } (j - k) hbd2 (by dsimp only; rw [List.length_drop]; omega)
        dsimp only at hq
        rw [hs1, show x.snap.index + (k : Int) + ((j - k : Nat) : Int) = x.snap.index + j by omega, hso hkj] at hq
        simp only [hq, hto hkj, hlast, Option.bind_some, snap_eq, decide_true, Bool.not_true, cond_false, ne_eq, not_true, decide_false, Option.getD_some, Option.isSome_some, decide_eq_true (show x.snap.index + (k : Int) ≤ x.snap.index + (j : Int) by omega), decide_eq_false (show ¬ (x.snap.index + (j : Int) < x.snap.index + (k : Int)) by omega), cond_true]
        rw [decide_eq_true hs1]; rfl
      · have hq := q_State_no { x with snap := allS x.snap (x.log.take k), log := x.log.drop k } (x.snap.index + j) hbd2 (by dsimp only; omega)
        have hn := termAt_no { x with snap := allS x.snap (x.log.take k), log := x.log.drop k } (x.snap.index + j) (by dsimp only; omega)
        simp only [hq, hn, hlast, Option.bind_some, snap_eq, decide_true, Bool.not_true, cond_false, ne_eq, not_true, decide_false, Option.getD_some, Option.isSome_some, Option.getD_none, Option.isSome_none, decide_eq_false (show ¬ (x.snap.index + (k : Int) ≤ x.snap.index + (j : Int)) by omega), decide_eq_true (show x.snap.index + (j : Int) < x.snap.index + (k : Int) by omega), cond_true]
        rw [decide_eq_true hs1]; rfl
end Go.Proofs.Ythngkojbokknfaa
