/- Layer 24's statements, in plain terms: levels, one of one. -/
import Derived.Test.YtenagnncpaabdaaGreatMg5
namespace Go.Proofs.YtenagnncpaabdaaGreat
open Go Go.RowKit
set_option maxRecDepth 100000
def errE (x : Co) (k v : Int) : Int := if rightB ⟨x.tuple.term, k, v⟩ = true then (if checkS k x.applied x.caps = 0 then (if x.tuple.log.length < 200 then 0 else 270) else checkS k x.applied x.caps) else 2
theorem p_errE (x : Co) (k v : Int) (h : RightC x) (hr : x.role = 2) : ∃ o, m_commit_Client x k v = some (o, errE x k v) := by
  unfold errE
  by_cases hb : rightB ⟨x.tuple.term, k, v⟩ = true
  · rw [if_pos hb]
    by_cases hc : checkS k x.applied x.caps = 0
    · rw [if_pos hc]
      by_cases hl : x.tuple.log.length < 200
      · rw [if_pos hl]
        obtain ⟨r, h1, _⟩ := cl_ok x k v h hb hr hc hl
        exact ⟨_, h1⟩
      · rw [if_neg hl]; exact ⟨_, cl_full x k v h hb hr hc (by omega)⟩
    · rw [if_neg hc]; exact ⟨_, cl_check x k v h hb hr hc⟩
  · rw [if_neg hb]; exact ⟨_, cl_arg x k v h (by simpa using hb)⟩
theorem applied_fine (x : Co) (h : RightC x) : FineP x.applied := by
  have hs := h.st
  unfold stOf at hs
  split at hs
  · obtain hs := Option.some.inj hs
    rw [← hs]
    exact allS_fine _ _ ((tupB_iff _).1 h.tup).1
  · cases hs
theorem fine_level {s : St} (h : FineP s) : s.level = 1 ∨ s.level = 2 := by
  rcases h with rfl | h
  · exact .inl rfl
  · exact h.2.2.2.2.2.2.1
theorem term_pos (x : Co) (h : RightC x) (hr : x.role = 2) : 0 < x.tuple.term ∧ x.tuple.term ≤ 1073741824 := by
  have h1 := ((tupB_iff _).1 h.tup).2.1.2.2.2.2
  rcases h.lead with h2 | h2
  · omega
  · exact ⟨h2.1, h1⟩
def lv20 (x : Co) : Int := if allTwo x.caps = true then (if x.tuple.log.length < 200 then 0 else 270) else 221
def lv30 (x : Co) : Int := if x.applied.final = true then 222 else (if x.tuple.log.length < 200 then 0 else 270)
def lv40 (x : Co) : Int := if x.applied.final = true then 222 else if x.applied.level = 2 then (if x.tuple.log.length < 200 then 0 else 270) else 223
theorem errs (x : Co) (h : RightC x) (hr : x.role = 2) : errE x 2 0 = lv20 x ∧ errE x 3 0 = lv30 x ∧ errE x 4 0 = lv40 x ∧ errE x 2 1 = 2 ∧ errE x 5 0 = 2 ∧ errE x 0 0 = 2 ∧ ∀ v, errE x 1 v = 2 ↔ (v < 0 ∨ 1073741824 < v) := by
  have ht := term_pos x h hr
  have hk := known_two x.caps (by have := h.lc; have := h.n; omega)
  have r0 : ∀ k, 0 ≤ k ∧ k ≤ 4 → rightB ⟨x.tuple.term, k, 0⟩ = true := fun k hk => decide_eq_true ⟨hk.1, hk.2, ht.1, ht.2, Int.le_refl 0, (by decide : (0 : Int) ≤ 1073741824), .inl rfl⟩
  refine ⟨?_, ?_, ?_, ?_, ?_, ?_, fun v => ?_⟩
  · unfold errE lv20 checkS
    rw [if_pos (r0 2 (by omega)), hk]
    cases allTwo x.caps <;> simp
  · unfold errE lv30 checkS
    rw [if_pos (r0 3 (by omega))]
    cases x.applied.final <;> simp
  · unfold errE lv40 checkS
    rw [if_pos (r0 4 (by omega))]
    cases x.applied.final <;> by_cases hl : x.applied.level = 2 <;> simp [hl]
  · unfold errE
    rw [if_neg (by unfold rightB; simp only [decide_eq_true_eq]; omega)]
  · unfold errE
    rw [if_neg (by unfold rightB; simp only [decide_eq_true_eq]; omega)]
  · unfold errE checkS
    rw [if_pos (r0 0 (by omega))]
    simp
  · unfold errE checkS
    by_cases hv : v < 0 ∨ 1073741824 < v
    · rw [if_neg (by unfold rightB; simp only [decide_eq_true_eq]; omega)]; simp [hv]
    · rw [if_pos (show rightB ⟨x.tuple.term, 1, v⟩ = true from decide_eq_true ⟨by show (0 : Int) ≤ 1; decide, by show (1 : Int) ≤ 4; decide, ht.1, ht.2, by show 0 ≤ v; omega, by show v ≤ 1073741824; omega, .inr rfl⟩)]
      simp only [if_true, hv, iff_false]
      split <;> omega
theorem levels_end (x : Co) (h : RightC x) : ∀ all : Bool, all = allTwo x.caps → ∀ W : Option Bool, W = some true →
    (if decide (lv20 x = 221) ≠ !all then some false else
      cond all (if 200 ≤ (x.tuple.log.length : Int) then
          (cond x.applied.final (if lv30 x = 222 then (if lv40 x = 222 then W else some false) else some false)
            (if decide (lv30 x = 0) = !(decide (200 ≤ (x.tuple.log.length : Int))) then (if decide (lv40 x = 223) = decide (x.applied.level = 1) then W else some false) else some false))
        else
          (if lv20 x ≠ 0 then some false else
           (cond x.applied.final (if lv30 x = 222 then (if lv40 x = 222 then W else some false) else some false)
            (if decide (lv30 x = 0) = !(decide (200 ≤ (x.tuple.log.length : Int))) then (if decide (lv40 x = 223) = decide (x.applied.level = 1) then W else some false) else some false))))
       (cond x.applied.final (if lv30 x = 222 then (if lv40 x = 222 then W else some false) else some false)
            (if decide (lv30 x = 0) = !(decide (200 ≤ (x.tuple.log.length : Int))) then (if decide (lv40 x = 223) = decide (x.applied.level = 1) then W else some false) else some false))) = some true := by
  intro all ha W hW
  subst hW
  have hl := fine_level (applied_fine x h)
  unfold lv20 lv30 lv40
  rw [← ha]
  cases all <;> cases x.applied.final <;> by_cases h1 : x.tuple.log.length < 200 <;> rcases hl with h2 | h2 <;>
    (first | rw [decide_eq_true (show 200 ≤ (x.tuple.log.length : Int) by omega)] | rw [decide_eq_false (show ¬ 200 ≤ (x.tuple.log.length : Int) by omega)] | skip) <;>
    (first | simp [h1, h2, show 200 ≤ (x.tuple.log.length : Int) by omega] | simp [h1, h2, show ¬ 200 ≤ (x.tuple.log.length : Int) by omega] | simp [h1, h2])
theorem levels_l1 (x : Co) (h : RightC x) (a b d w : Co × Int) (ha : a.2 = lv20 x) (hb : b.2 = lv30 x) (hd : d.2 = lv40 x) (hw : w.2 = 2) : ∀ (m j n : Nat), m = x.caps.length - j → j ≤ x.caps.length → m < n → m_law24_CommitLevels_l1 x a b d w n (allTwo (x.caps.take j)) j = some true := by
  have hlc := h.lc
  have hn := h.n
  intro m
  induction m with
  | zero =>
    intro j n hm hj hn'
    obtain ⟨n, rfl⟩ : ∃ n', n = n' + 1 := ⟨n - 1, by omega⟩
    rw [m_law24_CommitLevels_l1, show j = x.caps.length by omega, List.take_length]
    have := levels_end x h (allTwo x.caps) rfl (m_law24_wakes.bind fun r => some r) (by rw [p_wakes24]; rfl)
    simp only [Bool.cond_decide, if_neg (show ¬ (x.caps.length : Int) < x.n by omega), ha, hb, hd, hw, ne_eq, not_true, if_false, Bool.cond_not] at this ⊢
    exact this
  | succ m ih =>
    intro j n hm hj hn'
    obtain ⟨n, rfl⟩ : ∃ n', n = n' + 1 := ⟨n - 1, by omega⟩
    obtain ⟨e, he, _⟩ := drop_step (show j < x.caps.length by omega)
    have hi := ih (j + 1) n (by omega) (by omega) (by omega)
    rw [show ((j + 1 : Nat) : Int) = (j : Int) + 1 by omega, all_take _ _ _ he] at hi
    rw [m_law24_CommitLevels_l1]
    simp only [Bool.cond_decide, if_pos (show (j : Int) < x.n by omega), idx_nat, he, Option.bind_some, w64i (n := (j : Int) + 1) (by omega)]
    cases hv : allTwo (x.caps.take j) with
    | true => rw [hv, Bool.true_and] at hi; exact hi
    | false => rw [hv, Bool.false_and] at hi; exact hi
theorem levels_l2 (x : Co) (h : RightC x) (a b d w : Co × Int) (ha : a.2 = lv20 x) (hb : b.2 = lv30 x) (hd : d.2 = lv40 x) (hw : w.2 = 2) : ∀ (m j n : Nat), m = x.caps.length - j → j ≤ x.caps.length → m < n → m_law24_CommitLevels_l2 x a b d w n (allTwo (x.caps.take j)) j = some true := by
  have hlc := h.lc
  have hn := h.n
  intro m
  induction m with
  | zero =>
    intro j n hm hj hn'
    obtain ⟨n, rfl⟩ : ∃ n', n = n' + 1 := ⟨n - 1, by omega⟩
    rw [m_law24_CommitLevels_l2, show j = x.caps.length by omega, List.take_length]
    have := levels_end x h (allTwo x.caps) rfl (m_law24_wakes.bind fun r => some r) (by rw [p_wakes24]; rfl)
    simp only [Bool.cond_decide, if_neg (show ¬ (x.caps.length : Int) < x.n by omega), ha, hb, hd, hw, ne_eq, not_true, if_false, Bool.cond_not] at this ⊢
    exact this
  | succ m ih =>
    intro j n hm hj hn'
    obtain ⟨n, rfl⟩ : ∃ n', n = n' + 1 := ⟨n - 1, by omega⟩
    obtain ⟨e, he, _⟩ := drop_step (show j < x.caps.length by omega)
    have hi := ih (j + 1) n (by omega) (by omega) (by omega)
    rw [show ((j + 1 : Nat) : Int) = (j : Int) + 1 by omega, all_take _ _ _ he] at hi
    rw [m_law24_CommitLevels_l2]
    simp only [Bool.cond_decide, if_pos (show (j : Int) < x.n by omega), idx_nat, he, Option.bind_some, w64i (n := (j : Int) + 1) (by omega)]
    cases hv : allTwo (x.caps.take j) with
    | true => rw [hv, Bool.true_and] at hi; exact hi
    | false => rw [hv, Bool.false_and] at hi; exact hi
theorem p_CommitLevels (x : Co) (v : Int) : m_law24_CommitLevels x v = some true := by
  obtain ⟨g, hg, hgb⟩ := p_great24 x
  unfold m_law24_CommitLevels
  rw [hg]
  cases g with
  | true => simp only [Option.bind_some, p_wakes24, cond_true]
  | false =>
  have hbd := hgb rfl
  simp only [Option.bind_some, cond_false, p_Right20 x hbd]
  unfold rightC
  by_cases h : RightC x
  case neg => rw [cdec_f h]; simp only [Bool.not_false, cond_true, p_wakes24, Option.bind_some]
  rw [cdec_t h]
  by_cases hr : x.role = 2
  case neg => simp only [Bool.not_true, cond_false, Bool.cond_decide, if_pos hr, p_wakes24, Option.bind_some]
  obtain ⟨e1, e2, e3, e4, e5, e6, e7⟩ := errs x h hr
  obtain ⟨o1, c1⟩ := p_errE x 2 0 h hr
  obtain ⟨o2, c2⟩ := p_errE x 3 0 h hr
  obtain ⟨o3, c3⟩ := p_errE x 4 0 h hr
  obtain ⟨o4, c4⟩ := p_errE x 2 1 h hr
  obtain ⟨o5, c5⟩ := p_errE x 5 0 h hr
  obtain ⟨o6, c6⟩ := p_errE x 0 0 h hr
  obtain ⟨o7, c7⟩ := p_errE x 1 v h hr
  have hlc := hbd.lc
  have l1 := levels_l1 x h (o1, errE x 2 0) (o2, errE x 3 0) (o3, errE x 4 0) (o6, errE x 0 0) e1 e2 e3 e6 x.caps.length 0 fuelN (by omega) (by omega) (by unfold fuelN; omega)
  have l2 := levels_l2 x h (o1, errE x 2 0) (o2, errE x 3 0) (o3, errE x 4 0) (o6, errE x 0 0) e1 e2 e3 e6 x.caps.length 0 fuelN (by omega) (by omega) (by unfold fuelN; omega)
  rw [List.take_zero, show ((0 : Nat) : Int) = 0 from rfl, show allTwo [] = true from rfl] at l1 l2
  simp only [Bool.not_true, cond_false, Bool.cond_decide, if_neg (show ¬ x.role ≠ 2 from fun h => h hr), c1, c2, c3, c4, c5, c6, c7, Option.bind_some, e4, e5, ne_eq, not_true, if_false, l1, l2]
  have e8 := e7 v
  by_cases hv : v < 0
  · rw [if_pos hv, if_neg (by rw [decide_eq_true (e8.2 (.inl hv))]; simp)]
  · rw [if_neg hv]
    by_cases hv2 : 1073741824 < v
    · rw [if_neg (by rw [decide_eq_true (e8.2 (.inr hv2)), decide_eq_true hv2]; simp)]
    · rw [if_neg (by rw [decide_eq_false (fun h => by have := e8.1 h; omega), decide_eq_false hv2]; simp)]
/-! ### One of one -/
structure Alone (x : Co) (b : Int) (j : Nat) : Prop where
  right : RightC x
  role : x.role = 2
  n : x.n = 1
  term : x.tuple.term = 1
  com : x.commit = x.tuple.last
  len : x.tuple.log.length = j
  bin : x.binary = b
theorem Alone.applied {x : Co} {b : Int} {j : Nat} (A : Alone x b j) : x.applied = allS x.tuple.snap x.tuple.log := by
  have hs := A.right.st
  have hcb := commit_bd A.right
  have hl : x.tuple.last = x.tuple.snap.index + x.tuple.log.length := rfl
  unfold stOf at hs
  rw [if_pos hcb, A.com, List.take_of_length_le (by omega)] at hs
  exact (Option.some.inj hs).symm
theorem Alone.index {x : Co} {b : Int} {j : Nat} (A : Alone x b j) : x.applied.index = x.commit ∧ 0 ≤ x.commit ∧ x.commit < 1073741824 := by
  obtain ⟨h1, h2, h3, _⟩ := (tupB_iff _).1 A.right.tup
  have hb := tupB_bd _ A.right.tup
  have hl : x.tuple.last = x.tuple.snap.index + x.tuple.log.length := rfl
  have hc := A.com
  have := (allS_log x.tuple.snap x.tuple.log h1 h3 (by omega)).1
  rw [← A.applied] at this
  omega
theorem Alone.lists {x : Co} {b : Int} {j : Nat} (A : Alone x b j) : x.id = 1 ∧ x.caps = [b] ∧ ∃ a, x.mtch = [a] := by
  have hi := A.right.id
  have hn := A.n
  have h1 := A.right.lc
  have h2 := A.right.lm
  have h3 := A.right.own
  have hid : x.id = 1 := by omega
  obtain ⟨c, hc⟩ := List.length_eq_one_iff.1 (show x.caps.length = 1 by omega)
  obtain ⟨a, ha⟩ := List.length_eq_one_iff.1 (show x.mtch.length = 1 by omega)
  rw [hc, hid, A.bin] at h3
  refine ⟨hid, ?_, a, ha⟩
  rw [hc]
  have : some c = some b := h3
  rw [Option.some.inj this]
theorem alone_step {x : Co} {b : Int} {j : Nat} (A : Alone x b j) (k v : Int) (hb : rightB ⟨1, k, v⟩ = true) (hc : checkS k x.applied x.caps = 0) (hj : j < 200) :
    ∃ o, m_commit_Client x k v = some (o, 0) ∧ Alone o b (j + 1) ∧ o.commit = x.commit + 1 ∧ o.applied = nextS x.applied ⟨1, k, v⟩ := by
  have hlen := A.len
  have ht := A.term
  obtain ⟨hid, hcaps, a, ha⟩ := A.lists
  have hl : x.tuple.last = x.tuple.snap.index + x.tuple.log.length := rfl
  have hcom := A.com
  obtain ⟨r, h1, hm⟩ := cl_ok x k v A.right (by rw [ht]; exact hb) A.role hc (by omega)
  have hR := add_right x ⟨x.tuple.term, k, v⟩ A.right (by rw [ht]; exact hb) rfl (by omega)
  rw [ht] at h1 hm hR
  obtain ⟨y, hy⟩ : ∃ y, y = addC x ⟨1, k, v⟩ := ⟨_, rfl⟩
  rw [← hy] at h1 hm hR
  have ym : y.mtch = [x.tuple.last + 1] := by rw [hy]; unfold addC; dsimp only; rw [ha, hid]; rfl
  have ytup : y.tuple = { x.tuple with log := x.tuple.log ++ [⟨1, k, v⟩] } := by rw [hy]; rfl
  have ylast : y.tuple.last = x.tuple.last + 1 := by rw [ytup]; unfold Tu.last; dsimp only; rw [List.length_append]; simp only [List.length_cons, List.length_nil]; omega
  have yn : y.n = 1 := by rw [hy]; exact A.n
  have yc : y.commit = x.commit := by rw [hy]; rfl
  have hN : hadN y (x.tuple.last + 1) = 1 := by unfold hadN; rw [ym]; simp
  have hT : termAt y.tuple (x.tuple.last + 1) = some 1 := by
    unfold termAt
    rw [ylast, ytup]
    dsimp only
    rw [if_neg (by omega), if_pos (by omega), show (x.tuple.last + 1 - x.tuple.snap.index - 1).toNat = x.tuple.log.length by omega, List.getElem?_append_right (Nat.le_refl _), Nat.sub_self]
    rfl
  have hP : MayP y (x.tuple.last + 1) := ⟨by rw [hT, ytup]; dsimp only; rw [ht], by rw [hN, yn]; decide⟩
  have hr : r = x.tuple.last + 1 := by
    have h3 := hm.hi
    by_cases h4 : r < x.tuple.last + 1
    · exact (hm.no _ h4 (Int.le_refl _) hP).elim
    · rcases h3 with h3 | h3 <;> omega
  subst hr
  have htc : toC y (x.tuple.last + 1) = { y with commit := min (x.tuple.last + 1) y.tuple.last, applied := (stOf y.tuple (min (x.tuple.last + 1) y.tuple.last)).getD ⟨0, 0, 0, 0, false⟩ } := by unfold toC; rw [if_pos (by omega)]
  have hmin : min (x.tuple.last + 1) y.tuple.last = x.tuple.last + 1 := by omega
  have hst : stOf y.tuple (x.tuple.last + 1) = some (nextS x.applied ⟨1, k, v⟩) := by
    unfold stOf
    rw [ylast, ytup]
    dsimp only
    rw [if_pos (by omega), List.take_of_length_le (by rw [List.length_append]; simp only [List.length_cons, List.length_nil]; omega), allS_snoc, A.applied]
  rw [hmin, hst] at htc
  refine ⟨_, h1, ⟨to_right y _ hR, ?_, ?_, ?_, ?_, ?_, ?_⟩, ?_, ?_⟩
  · rw [to_role, hy]; exact A.role
  · rw [htc]; exact yn
  · rw [to_tuple, ytup]; exact ht
  · rw [to_tuple, htc, ylast]
  · rw [to_tuple, ytup]; dsimp only; rw [List.length_append]; simp only [List.length_cons, List.length_nil]; omega
  · rw [htc]; dsimp only; rw [hy]; exact A.bin
  · rw [htc]; dsimp only; omega
  · rw [htc]; rfl
theorem next_d24 (s : St) (v : Int) : (nextS s ⟨1, 1, v⟩).level = s.level ∧ (nextS s ⟨1, 1, v⟩).final = s.final := by
  unfold nextS deedS
  split <;> simp
theorem next_other (s : St) (k : Int) (hs : FineP s) (hi : s.index < 1073741824) (hk : 0 ≤ k ∧ k ≤ 4) : nextS s ⟨1, k, 0⟩ = deedS k 0 { s with index := s.index + 1, term := 1 } := by
  unfold nextS
  rw [if_pos ⟨decide_eq_true ⟨hk.1, hk.2, (by decide : (0 : Int) < 1), (by decide : (1 : Int) ≤ 1073741824), Int.le_refl 0, (by decide : (0 : Int) ≤ 1073741824), .inl rfl⟩, (fineB_iff _).2 hs, hi⟩]
theorem p_Format (x : Co) : m_commit_Format x = some (min (max x.binary 1) (min (IntKind.wrap .i64 (1 + (if x.applied.level ≠ 2 then 0 else if x.applied.final = true then 2 else 1))) 2)) := by
  unfold m_commit_Format m_level_Format m_level_Stage
  by_cases h : x.applied.level = 2
  · cases h2 : x.applied.final <;> simp [h]
  · simp [h]
theorem alone_end (x : Co) (b : Int) (j : Nat) (hb : b = 1 ∨ b = 2) (A : Alone x b j) (hj : j < 100) (hl : x.applied.level = 1) (hf : x.applied.final = false) :
    ((m_commit_Client x 2 0).bind fun r196 => if b = 1 then (if r196.2 = 221 then ((m_commit_Format x).bind fun r223 => if r223 = 1 then some true else some false) else some false) else
      (m_commit_Client r196.1 4 0).bind fun r228 => (m_commit_Client r228.1 3 0).bind fun r253 => if r196.2 = 0 then ((m_commit_Format r196.1).bind fun r278 => if r278 = 2 then (if r228.2 = 0 then cond r228.1.applied.final (if r253.2 = 222 then some true else some false) (some false) else some false) else some false) else some false) = some true := by
  have hcaps := A.lists.2.1
  have rk : ∀ k, 0 ≤ k ∧ k ≤ 4 → rightB ⟨1, k, 0⟩ = true := fun k hk => decide_eq_true ⟨hk.1, hk.2, (by decide : (0 : Int) < 1), (by decide : (1 : Int) ≤ 1073741824), Int.le_refl 0, (by decide : (0 : Int) ≤ 1073741824), .inl rfl⟩
  rcases hb with rfl | rfl
  · have hc : checkS 2 x.applied x.caps = 221 := by rw [hcaps]; unfold checkS; rfl
    have h1 := cl_check x 2 0 A.right (by rw [A.term]; exact rk 2 (by omega)) A.role (by rw [hc]; decide)
    rw [h1, hc, p_Format, hl, A.bin]
    rfl
  · have hc : checkS 2 x.applied x.caps = 0 := by rw [hcaps]; unfold checkS; rfl
    obtain ⟨p, h1, A1, c1, a1⟩ := alone_step A 2 0 (rk 2 (by omega)) hc (by omega)
    rw [next_other _ _ (applied_fine x A.right) (by have := A.index; omega) (by omega)] at a1
    have pl : p.applied.level = 2 := by rw [a1]; rfl
    have pf : p.applied.final = false := by rw [a1]; exact hf
    have hc2 : checkS 4 p.applied p.caps = 0 := by unfold checkS; rw [pf, pl]; rfl
    obtain ⟨q, h2, A2, c2, a2⟩ := alone_step A1 4 0 (rk 4 (by omega)) hc2 (by omega)
    rw [next_other _ _ (applied_fine p A1.right) (by have := A1.index; omega) (by omega)] at a2
    have qf : q.applied.final = true := by rw [a2]; unfold deedS; simp [pl]
    have hc3 : checkS 3 q.applied q.caps = 222 := by unfold checkS; rw [qf]; rfl
    have h3 := cl_check q 3 0 A2.right (by rw [A2.term]; exact rk 3 (by omega)) A2.role (by rw [hc3]; decide)
    rw [h1, Option.bind_some, if_neg (by decide)]
    dsimp only
    rw [h2, Option.bind_some]
    dsimp only
    rw [h3, hc3, Option.bind_some, if_pos rfl, p_Format, pl, pf, A1.bin]
    dsimp only
    rw [qf]
    rfl
theorem alone_l1 (l : List Int) (b : Int) (hb : b = 1 ∨ b = 2) (hl : l.length ≤ 30) : ∀ (m j n : Nat) (vv : Bool) (x : Co), Alone x b (j + 1) → x.applied.level = 1 → x.applied.final = false → m = l.length - j → j ≤ l.length → m < n →
    m_law24_CommitAlone_l1 l b n vv j x.id x.n x.role x.binary x.tuple.snap.index x.tuple.snap.term x.tuple.snap.sum x.tuple.snap.level x.tuple.snap.final x.tuple.log x.tuple.term x.tuple.vote x.commit x.applied.index x.applied.term x.applied.sum x.applied.level x.applied.final x.votes x.next x.mtch x.caps = some true := by
  intro m
  induction m with
  | zero =>
    intro j n vv x A hlv hf hm hj hn
    obtain ⟨n, rfl⟩ : ∃ n', n = n' + 1 := ⟨n - 1, by omega⟩
    rw [m_law24_CommitAlone_l1]
    have := alone_end x b (j + 1) hb A (by omega) hlv hf
    simp only [Bool.cond_decide, if_neg (show ¬ (j : Int) < (l.length : Int) by omega), p_wakes24, Option.bind_some] at this ⊢
    exact this
  | succ m ih =>
    intro j n vv x A hlv hf hm hj hn
    obtain ⟨n, rfl⟩ : ∃ n', n = n' + 1 := ⟨n - 1, by omega⟩
    obtain ⟨e, he, _⟩ := drop_step (show j < l.length by omega)
    rw [m_law24_CommitAlone_l1]
    simp only [Bool.cond_decide, if_pos (show (j : Int) < (l.length : Int) by omega), idx_nat, he, Option.bind_some, p_wakes24]
    by_cases h1 : e < 0
    · rw [if_pos h1]
    rw [if_neg h1]
    by_cases h2 : 1073741824 < e
    · rw [if_pos h2]
    rw [if_neg h2]
    have hr : rightB ⟨1, 1, e⟩ = true := decide_eq_true ⟨(by decide : (0 : Int) ≤ 1), (by decide : (1 : Int) ≤ 4), (by decide : (0 : Int) < 1), (by decide : (1 : Int) ≤ 1073741824), by show 0 ≤ e; omega, by show e ≤ 1073741824; omega, .inr rfl⟩
    obtain ⟨o, c1, A1, hc, ha⟩ := alone_step A 1 e hr (by unfold checkS; rfl) (by omega)
    have hi := A.index
    have hi1 := A1.index
    have hd := next_d24 x.applied e
    have hx : (⟨x.id, x.n, x.role, x.binary, ⟨⟨x.tuple.snap.index, x.tuple.snap.term, x.tuple.snap.sum, x.tuple.snap.level, x.tuple.snap.final⟩, x.tuple.log, x.tuple.term, x.tuple.vote⟩, x.commit, ⟨x.applied.index, x.applied.term, x.applied.sum, x.applied.level, x.applied.final⟩, x.votes, x.next, x.mtch, x.caps⟩ : Co) = x := rfl
    have hs : (⟨x.applied.index, x.applied.term, x.applied.sum, x.applied.level, x.applied.final⟩ : St) = x.applied := rfl
    have hi2 := ih (j + 1) n vv o A1 (by rw [ha, hd.1]; exact hlv) (by rw [ha, hd.2]; exact hf) (by omega) (by omega) (by omega)
    rw [show ((j + 1 : Nat) : Int) = (j : Int) + 1 by omega] at hi2
    have hcw : o.commit = IntKind.wrap .i64 (x.commit + 1) := by rw [hc, w64i (by omega)]
    have e0 : decide (o.applied = nextS x.applied ⟨1, 1, e⟩) = true := decide_eq_true ha
    simp only [hx, c1, Option.bind_some, ne_eq, eq_true hcw, eq_true hi1.1, not_true, if_false, hs, p_Next, snap_eq, Bool.cond_not, e0, cond_true, w64i (n := (j : Int) + 1) (by omega), hi2]
theorem alone_first (b : Int) (hb : b = 1 ∨ b = 2) : ∃ x, (m_ref12_First.bind fun r14 => (m_ref20_New 1 1 b r14).bind fun r20 => (m_ref22_Timeout r20).bind fun r42 => m_commit_Advance r42.1) = some x ∧ Alone x b 1 ∧ x.applied.level = 1 ∧ x.applied.final = false := by
  have hR : ∀ b, b = 1 ∨ b = 2 → RightC ⟨1, 1, 2, b, ⟨⟨0, 0, 0, 1, false⟩, [⟨1, 0, 0⟩], 1, 1⟩, 1, ⟨1, 1, 0, 1, false⟩, [true], [2], [1], [b]⟩ := fun b hb => by
    have hbd : BdC ⟨1, 1, 2, b, ⟨⟨0, 0, 0, 1, false⟩, [⟨1, 0, 0⟩], 1, 1⟩, 1, ⟨1, 1, 0, 1, false⟩, [true], [2], [1], [b]⟩ := ⟨⟨by show 1 ≤ 1000000; decide, by show (-2000000000000 : Int) ≤ 0; decide, by show (0 : Int) ≤ 2000000000000; decide⟩, by simp, by simp, by simp, by simp⟩
    have h1 := p_mRight _ hbd
    have h2 : m_msg_Right ⟨1, 1, 2, b, ⟨⟨0, 0, 0, 1, false⟩, [⟨1, 0, 0⟩], 1, 1⟩, 1, ⟨1, 1, 0, 1, false⟩, [true], [2], [1], [b]⟩ = some true := by
      rcases hb with rfl | rfl <;> decide +kernel
    rw [h2] at h1
    exact cdec_iff.1 (Option.some.inj h1).symm
  refine ⟨⟨1, 1, 2, b, ⟨⟨0, 0, 0, 1, false⟩, [⟨1, 0, 0⟩], 1, 1⟩, 1, ⟨1, 1, 0, 1, false⟩, [true], [2], [1], [b]⟩, ?_, ⟨hR b hb, rfl, rfl, rfl, rfl, rfl, rfl⟩, rfl, rfl⟩
  rcases hb with rfl | rfl <;> decide +kernel
theorem p_CommitAlone (l : List Int) (b : Int) : m_law24_CommitAlone l b = some true := by
  unfold m_law24_CommitAlone
  simp only [Bool.cond_decide, p_wakes24, Option.bind_some]
  by_cases h1 : (30 : Int) < (l.length : Int)
  · rw [if_pos h1]
  rw [if_neg h1]
  by_cases h2 : b < 1
  · rw [if_pos h2]
  rw [if_neg h2]
  by_cases h3 : 2 < b
  · rw [if_pos h3]
  rw [if_neg h3]
  have hb : b = 1 ∨ b = 2 := by omega
  obtain ⟨x, hx, A, hl, hf⟩ := alone_first b hb
  have := alone_l1 l b hb (by omega) l.length 0 fuelN false x A hl hf (by omega) (by omega) (by unfold fuelN; omega)
  rw [show ((0 : Nat) : Int) = 0 from rfl] at this
  cases h4 : m_ref12_First with
  | none => rw [h4] at hx; cases hx
  | some t =>
    rw [h4, Option.bind_some] at hx
    rw [Option.bind_some]
    cases h5 : m_ref20_New 1 1 b t with
    | none => rw [h5] at hx; cases hx
    | some c =>
      rw [h5, Option.bind_some] at hx
      rw [Option.bind_some]
      cases h6 : m_ref22_Timeout c with
      | none => rw [h6] at hx; cases hx
      | some q =>
        rw [h6, Option.bind_some] at hx
        rw [Option.bind_some, hx, Option.bind_some]
        exact this
end Go.Proofs.YtenagnncpaabdaaGreat
