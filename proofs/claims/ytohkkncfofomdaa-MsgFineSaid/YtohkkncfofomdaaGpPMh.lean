/- Layer 20's statements, in plain terms: messages that may be, what is told back. -/
import Derived.Test.YtohkkncfofomdaaMh6
namespace Go.Proofs.Ytohkkncfofomdaa
open Go Go.RowKit
set_option maxRecDepth 100000
theorem p_number20 (x : Int) : m_ref20_number x = some (numB x) := by
  unfold m_ref20_number numB
  by_cases h : 0 ≤ x <;> simp [h]
theorem p_entries20_l1 (x : Ms) (h : x.entries.length ≤ 1000000) : ∀ (m k n : Nat) (v : Bool) (last : Int), m = x.entries.length - k → k ≤ x.entries.length → m < n → m_ref20_entries_l1 x n v last k = some (cdec (entB last x.term (x.entries.drop k) ∧ x.entries.length ≤ 4)) := by
  intro m
  induction m with
  | zero =>
    intro k n v last hm hk hn
    obtain ⟨n, rfl⟩ : ∃ n', n = n' + 1 := ⟨n - 1, by omega⟩
    rw [m_ref20_entries_l1, List.drop_eq_nil_of_le (by omega)]
    simp only [Bool.cond_decide, if_neg (show ¬ ((k : Int) < (x.entries.length : Int)) by omega)]
    rw [dec_cdec]; congr 1
    exact cdec_congr ⟨fun h => ⟨trivial, by omega⟩, fun h => by have := h.2; omega⟩
  | succ m ih =>
    intro k n v last hm hk hn
    obtain ⟨n, rfl⟩ : ∃ n', n = n' + 1 := ⟨n - 1, by omega⟩
    obtain ⟨e, he, hd⟩ := drop_step (show k < x.entries.length by omega)
    rw [m_ref20_entries_l1, hd]
    simp only [Bool.cond_decide, if_pos (show ((k : Int) < (x.entries.length : Int)) by omega), idx_nat, he, Option.bind_some, p_Right]
    rw [w64i (by omega), show ((k : Int) + 1) = ((k + 1 : Nat) : Int) by omega, ih (k + 1) n v e.term (by omega) (by omega) (by omega)]
    cases c1 : rightB e with
    | false => rw [cdec_f (p := entB last x.term (e :: x.entries.drop (k + 1)) ∧ x.entries.length ≤ 4) fun h => by have h2 := h.1.1; rw [c1] at h2; cases h2]; rfl
    | true =>
      simp only [Bool.not_true, cond_false]
      by_cases c2 : e.term < last
      · rw [if_pos c2, cdec_f (p := entB last x.term (e :: x.entries.drop (k + 1)) ∧ x.entries.length ≤ 4) fun h => by have h2 := h.1.2.1; omega]
      rw [if_neg c2]
      by_cases c3 : x.term < e.term
      · rw [if_pos c3, cdec_f (p := entB last x.term (e :: x.entries.drop (k + 1)) ∧ x.entries.length ≤ 4) fun h => by have h2 := h.1.2.1; omega]
      rw [if_neg c3]
      congr 1
      exact cdec_congr ⟨fun h => ⟨⟨c1, ⟨by omega, by omega⟩, h.1⟩, h.2⟩, fun h => ⟨h.1.2.2, h.2⟩⟩
theorem p_entries20 (x : Ms) (h : x.entries.length ≤ 1000000) : m_ref20_entries x = some (cdec (entB x.lastTerm x.term x.entries ∧ x.entries.length ≤ 4)) := by
  have := p_entries20_l1 x h x.entries.length 0 fuelN false x.lastTerm (by omega) (by omega) (by unfold fuelN; omega)
  unfold m_ref20_entries
  simpa using this
theorem numB_no {x : Int} (h : numB x = false) : ¬ (0 ≤ x ∧ x ≤ 1073741824) := fun h2 => by rw [numB, decide_eq_true h2] at h; cases h
theorem numB_yes {x : Int} (h : numB x = true) : 0 ≤ x ∧ x ≤ 1073741824 := of_decide_eq_true h
theorem p_Fine20 (m : Ms) (n : Int) (h : BdM m) : m_ref20_Fine m n = some (fineM m n) := by
  simp only [m_ref20_Fine, p_number20, p_entries20 m h.ents, p_Fine, Option.bind_some, st_zero, Bool.cond_decide]
  unfold fineM
  by_cases c0 : n < 1
  · rw [if_pos c0, cdec_f (p := FineM m n) fun h => by have := h.many; omega]
  rw [if_neg c0]
  by_cases c1 : 5 < n
  · rw [if_pos c1, cdec_f (p := FineM m n) fun h => by have := h.many; omega]
  rw [if_neg c1]
  by_cases c2 : m.frm < 1
  · rw [if_pos c2, cdec_f (p := FineM m n) fun h => by have := h.frm; omega]
  rw [if_neg c2]
  by_cases c3 : n < m.frm
  · rw [if_pos c3, cdec_f (p := FineM m n) fun h => by have := h.frm; omega]
  rw [if_neg c3]
  by_cases c4 : m.dst < 1
  · rw [if_pos c4, cdec_f (p := FineM m n) fun h => by have := h.dst; omega]
  rw [if_neg c4]
  by_cases c5 : n < m.dst
  · rw [if_pos c5, cdec_f (p := FineM m n) fun h => by have := h.dst; omega]
  rw [if_neg c5]
  by_cases c6 : m.frm = m.dst
  · rw [if_pos c6, cdec_f (p := FineM m n) fun h => h.ne c6]
  rw [if_neg c6]
  by_cases c7 : m.kind < 1
  · rw [if_pos c7, cdec_f (p := FineM m n) fun h => by have := h.kind; omega]
  rw [if_neg c7]
  by_cases c8 : 6 ≤ m.kind
  · rw [if_pos c8, cdec_f (p := FineM m n) fun h => by have := h.kind; omega]
  rw [if_neg c8]
  by_cases c9 : m.term < 1
  · rw [if_pos c9, cdec_f (p := FineM m n) fun h => by have := h.term; omega]
  rw [if_neg c9]
  by_cases c10 : 1073741824 < m.term
  · rw [if_pos c10, cdec_f (p := FineM m n) fun h => by have := h.term; omega]
  rw [if_neg c10]
  by_cases c11 : m.cap < 1
  · rw [if_pos c11, cdec_f (p := FineM m n) fun h => by have := h.cap; omega]
  rw [if_neg c11]
  by_cases c12 : 2 < m.cap
  · rw [if_pos c12, cdec_f (p := FineM m n) fun h => by have := h.cap; omega]
  rw [if_neg c12]
  cases d0 : numB m.last with
  | false => rw [cdec_f (p := FineM m n) fun h => numB_no d0 h.last]; rfl
  | true =>
  have d0' := numB_yes d0
  cases d1 : numB m.lastTerm with
  | false => rw [cdec_f (p := FineM m n) fun h => numB_no d1 h.lastTerm]; rfl
  | true =>
  have d1' := numB_yes d1
  cases d2 : numB m.commit with
  | false => rw [cdec_f (p := FineM m n) fun h => numB_no d2 h.commit]; rfl
  | true =>
  have d2' := numB_yes d2
  by_cases c20 : entB m.lastTerm m.term m.entries ∧ m.entries.length ≤ 4
  case neg => rw [cdec_f c20, cdec_f (p := FineM m n) fun h => c20 ⟨h.ents, h.few⟩]; rfl
  rw [cdec_t c20]
  simp only [Bool.not_true, cond_false]
  have yes : ∀ (d1 : m.kind ≠ 3 → m.entries.length = 0 ∧ m.commit = 0) (d2 : m.okk = true → m.kind = 2 ∨ m.kind = 4), (if m.kind = 5 then (cond (fineB m.snap) (some (decide (0 < m.snap.index))) (some false)) else some (decide (m.snap = ⟨0, 0, 0, 0, false⟩))) = some (cdec (FineM m n)) := by
    intro d1 d2
    have mk : (m.kind = 5 → 0 < m.snap.index ∧ fineB m.snap = true) → (m.kind ≠ 5 → m.snap = ⟨0, 0, 0, 0, false⟩) → FineM m n := fun s1 s2 =>
      ⟨⟨by omega, by omega⟩, ⟨by omega, by omega⟩, ⟨by omega, by omega⟩, c6, ⟨by omega, by omega⟩, ⟨by omega, by omega⟩, ⟨by omega, by omega⟩, d0', d1', d2', c20.1, c20.2, d1, d2, s1, s2⟩
    by_cases e1 : m.kind = 5
    · rw [if_pos e1]
      cases e3 : fineB m.snap with
      | true =>
        simp only [cond_true]
        rw [dec_cdec]
        congr 1
        exact cdec_congr ⟨fun e2 => mk (fun _ => ⟨e2, e3⟩) (fun h => (h e1).elim), fun h => (h.snap e1).1⟩
      | false => rw [cdec_f (p := FineM m n) fun h => by have h2 := (h.snap e1).2; rw [e3] at h2; cases h2]; rfl
    · rw [if_neg e1, dec_cdec]
      congr 1
      exact cdec_congr ⟨fun e2 => mk (fun h => (e1 h).elim) (fun _ => e2), fun h => h.nosnap e1⟩
  by_cases e1 : m.kind = 3
  · rw [if_neg (fun h => h e1)]
    cases e2 : m.okk with
    | false => exact yes (fun h => (h e1).elim) (fun h => by rw [e2] at h; cases h)
    | true =>
      simp only [cond_true]
      rw [if_pos (by omega), if_pos (by omega), cdec_f (p := FineM m n) fun h => by have := h.okk e2; omega]
  · rw [if_pos e1]
    by_cases e3 : (0 : Int) < (m.entries.length : Int)
    · rw [if_pos e3, cdec_f (p := FineM m n) fun h => by have := (h.app e1).1; omega]
    rw [if_neg e3]
    by_cases e4 : 0 < m.commit
    · rw [if_pos e4, cdec_f (p := FineM m n) fun h => by have := (h.app e1).2; omega]
    rw [if_neg e4]
    have e5 : m.kind ≠ 3 → m.entries.length = 0 ∧ m.commit = 0 := fun _ => ⟨by omega, by omega⟩
    cases e2 : m.okk with
    | false => exact yes e5 (fun h => by rw [e2] at h; cases h)
    | true =>
      simp only [cond_true]
      by_cases e6 : m.kind = 2
      · rw [if_neg (fun h => h e6)]; exact yes e5 (fun _ => .inl e6)
      · rw [if_pos e6]
        by_cases e7 : m.kind = 4
        · rw [if_neg (fun h => h e7)]; exact yes e5 (fun _ => .inr e7)
        · rw [if_pos e7, cdec_f (p := FineM m n) fun h => by have := h.okk e2; omega]
/-! ### Back -/
theorem p_MsgBack (x : Co) (m : Ms) (ok : Bool) (last : Int) (hk : 0 ≤ m.kind ∧ m.kind ≤ 255) : m_law20_MsgBack x m ok last = some true := by
  obtain ⟨g, hg⟩ := p_Great_some x
  unfold m_law20_MsgBack
  rw [hg]
  simp only [p_wakes20, Option.bind_some]
  cases g with
  | true => rfl
  | false =>
  have hbd := (p_Great_no x hg).1
  simp only [cond_false, p_Right20 x hbd, Option.bind_some]
  unfold rightC
  by_cases h : RightC x
  case neg => rw [cdec_f h]; rfl
  rw [cdec_t h]
  simp only [Bool.not_true, cond_false, Bool.cond_decide]
  by_cases c : (4 : Int) < (m.entries.length : Int)
  · rw [if_pos c]
  rw [if_neg c]
  have hm : BdM m := ⟨hk, by omega⟩
  rw [p_Fine20 m x.n hm, Option.bind_some]
  unfold fineM
  by_cases hf : FineM m x.n
  case neg => rw [cdec_f hf]; rfl
  rw [cdec_t hf]
  simp only [Bool.not_true, cond_false]
  by_cases c1 : m.dst = x.id
  case neg => rw [if_pos c1]
  rw [if_neg (fun h => h c1)]
  by_cases c2 : last < 0
  · rw [if_pos c2]
  by_cases c3 : 1073741824 < last
  · rw [if_neg c2, if_pos c3]
  rw [if_neg c2, if_neg c3]
  have htm := ((tupB_iff _).1 h.tup).2.1.2.2.2.2
  have key : ∀ k : Int, k = 2 ∨ k = 4 → m_msg_Fine ⟨k, x.id, m.frm, x.tuple.term, x.binary, last, 0, 0, ok, [], ⟨0, 0, 0, 0, false⟩⟩ x.n = some (decide (1 ≤ x.tuple.term)) := by
    intro k hk2
    rw [p_mFine _ _ ⟨by dsimp only; omega, by simp⟩]
    unfold fineM
    rw [dec_cdec]
    congr 1
    exact cdec_congr ⟨fun f => f.term.1, fun ht => ⟨h.n, h.id, hf.frm, fun e => hf.ne (e.symm.trans c1.symm), by dsimp only; omega, ⟨ht, htm⟩, h.bin, ⟨by dsimp only; omega, by dsimp only; omega⟩, ⟨Int.le_refl 0, (by decide : (0 : Int) ≤ 1073741824)⟩, ⟨Int.le_refl 0, (by decide : (0 : Int) ≤ 1073741824)⟩, trivial, by simp, fun _ => ⟨rfl, rfl⟩, fun _ => hk2, fun h5 => by dsimp only at h5; omega, fun _ => rfl⟩⟩
  simp only [m_msg_Back, Option.bind_some, key 2 (.inl rfl), key 4 (.inr rfl), if_true]
/-! ### One thing that may not be -/
theorem p_MsgFine (m : Ms) (n : Int) (e : En) (hk : 0 ≤ m.kind ∧ m.kind ≤ 255) : m_law20_MsgFine m n e = some true := by
  unfold m_law20_MsgFine
  simp only [p_wakes20, Option.bind_some, Bool.cond_decide]
  by_cases c : (4 : Int) < (m.entries.length : Int)
  · rw [if_pos c]
  rw [if_neg c]
  have hm : BdM m := ⟨hk, by omega⟩
  rw [p_Fine20 m n hm, Option.bind_some]
  have bad : ∀ m' n', BdM m' → ¬ FineM m' n' → m_msg_Fine m' n' = some false := fun m' n' hb hf => by rw [p_mFine m' n' hb]; unfold fineM; rw [cdec_f hf]
  by_cases hf : FineM m n
  case neg => unfold fineM; rw [cdec_f hf]; rfl
  have hy : m_msg_Fine m n = some true := by rw [p_mFine m n hm]; unfold fineM; rw [cdec_t hf]
  have hy2 : fineM m n = true := by unfold fineM; rw [cdec_t hf]
  have hmany := hf.many
  have ents : ∀ l t1 t2, entB t1 t2 (l ++ [⟨1, 5, 0⟩]) → False := by
    intro l
    induction l with
    | nil => intro t1 t2 h; have := h.1; revert this; decide
    | cons a l ih => intro t1 t2 h; exact ih _ _ h.2.2
  have b1 := bad m 0 hm (fun h => by have := h.many; omega)
  have b2 := bad m 6 hm (fun h => by have := h.many; omega)
  have f0 := bad ⟨m.kind, m.frm, m.frm, m.term, m.cap, m.last, m.lastTerm, m.commit, m.okk, m.entries, m.snap⟩ n ⟨hk, hm.ents⟩ (fun h => h.ne rfl)
  have f1 := bad ⟨m.kind, n + 1, m.dst, m.term, m.cap, m.last, m.lastTerm, m.commit, m.okk, m.entries, m.snap⟩ n ⟨hk, hm.ents⟩ (fun h => by have := h.frm; dsimp only at this; omega)
  have f2 := bad ⟨6, m.frm, m.dst, m.term, m.cap, m.last, m.lastTerm, m.commit, m.okk, m.entries, m.snap⟩ n ⟨by show (0 : Int) ≤ 6 ∧ (6 : Int) ≤ 255; decide, hm.ents⟩ (fun h => by have := h.kind; dsimp only at this; omega)
  have f3 := bad ⟨m.kind, m.frm, m.dst, 0, m.cap, m.last, m.lastTerm, m.commit, m.okk, m.entries, m.snap⟩ n ⟨hk, hm.ents⟩ (fun h => by have := h.term; dsimp only at this; omega)
  have f4 := bad ⟨m.kind, m.frm, m.dst, m.term, 3, m.last, m.lastTerm, m.commit, m.okk, m.entries, m.snap⟩ n ⟨hk, hm.ents⟩ (fun h => by have := h.cap; dsimp only at this; omega)
  have f5 := bad ⟨m.kind, m.frm, m.dst, m.term, m.cap, -1, m.lastTerm, m.commit, m.okk, m.entries, m.snap⟩ n ⟨hk, hm.ents⟩ (fun h => by have := h.last; dsimp only at this; omega)
  have f6 := bad ⟨m.kind, m.frm, m.dst, m.term, m.cap, m.last, 1073741825, m.commit, m.okk, m.entries, m.snap⟩ n ⟨hk, hm.ents⟩ (fun h => by have := h.lastTerm; dsimp only at this; omega)
  have f7 := bad ⟨m.kind, m.frm, m.dst, m.term, m.cap, m.last, m.lastTerm, m.commit, m.okk, m.entries ++ [⟨1, 5, 0⟩], m.snap⟩ n ⟨hk, by dsimp only; rw [List.length_append]; simp only [List.length_cons, List.length_nil]; omega⟩ (fun h => ents _ _ _ h.ents)
  have f8 := bad ⟨m.kind, m.frm, m.dst, m.term, m.cap, m.last, m.lastTerm, m.commit, m.okk, m.entries, ⟨-1, 0, 0, 0, false⟩⟩ n ⟨hk, hm.ents⟩ (fun h => by
    by_cases h5 : m.kind = 5
    · have := (h.snap h5).1; dsimp only at this; omega
    · have := congrArg St.index (h.nosnap h5); dsimp only at this; omega)
  have hlen : (e :: m.entries).length ≤ 1000000 := by rw [List.length_cons]; omega
  have g1 : m.kind ≠ 3 → m_msg_Fine ⟨m.kind, m.frm, m.dst, m.term, m.cap, m.last, m.lastTerm, m.commit, m.okk, e :: m.entries, m.snap⟩ n = some false := fun h3 => bad _ n ⟨hk, hlen⟩ (fun h => by have := (h.app h3).1; dsimp only at this; rw [List.length_cons] at this; omega)
  have g2 : rightB e = false → m_msg_Fine ⟨m.kind, m.frm, m.dst, m.term, m.cap, m.last, m.lastTerm, m.commit, m.okk, e :: m.entries, m.snap⟩ n = some false := fun h3 => bad _ n ⟨hk, hlen⟩ (fun h => by have := h.ents.1; rw [h3] at this; cases this)
  simp only [hy, hy2, Bool.not_true, cond_false, Option.bind_some, b1, b2, List.nil_append, fewI_ok m.entries (by omega), fewI_ok (m.entries ++ [(⟨1, 5, 0⟩ : En)]) (by rw [List.length_append]; simp only [List.length_cons, List.length_nil]; omega), f0, f1, f2, f3, f4, f5, f6, f7, f8, w64i (n := n + 1) (by omega), List.singleton_append, fewI_ok (e :: m.entries) (by omega), p_Right]
  cases hr : rightB e with
  | true =>
    simp only [cond_true]
    by_cases h3 : m.kind = 3
    · rw [if_pos h3]
    · rw [if_neg h3, g1 h3]; rfl
  | false =>
    simp only [cond_false, g2 hr, Option.bind_some, Bool.not_false, cond_true]
    by_cases h3 : m.kind = 3
    · rw [if_pos h3]
    · rw [if_neg h3]
end Go.Proofs.Ytohkkncfofomdaa
