/- Texts of one claim put together. -/
import Derived.Test.YtenagnncpaabdaaMk6
namespace Go.Proofs.Ytenagnncpaabdaa
open Go Go.RowKit
set_option maxRecDepth 100000
theorem role_right (y : Co) (h : RightC y) : RightC { y with role := 0 } := ⟨h.n, h.id, by show (0 : Int) ≤ 2; decide, h.bin, h.tup, h.st, h.lv, h.ln, h.lm, h.lc, h.next, h.mtch, h.caps, h.own, .inl rfl⟩
inductive SnapR (x : Co) (m : Ms) : Co → List Ms → Prop
 | old (h : m.term < (Yw x m).tuple.term) : SnapR x m (Yw x m) [Zbm (Yw x m) m 4 false x.tuple.last]
 | lead (h : m.term = (Yw x m).tuple.term) (hr : (Yw x m).role = 2) : SnapR x m (Yw x m) []
 | had (h : m.term = (Yw x m).tuple.term) (hr : (Yw x m).role ≠ 2) (hi : m.snap.index ≤ x.commit) : SnapR x m { Yw x m with role := 0 } [Zbm (Yw x m) m 4 true x.commit]
 | no (h : m.term = (Yw x m).tuple.term) (hr : (Yw x m).role ≠ 2) (hi : x.commit < m.snap.index) (he : chgE (Yw x m).tuple (Zcb (Yw x m).tuple m.snap) ≠ 0) : SnapR x m { Yw x m with role := 0 } [Zbm (Yw x m) m 4 false x.tuple.last]
 | yes (t : Tu) (h : m.term = (Yw x m).tuple.term) (hr : (Yw x m).role ≠ 2) (hi : x.commit < m.snap.index) (hs : Zcb (Yw x m).tuple m.snap = some t) (ht : J8 t = true) : SnapR x m (fitC { Yw x m with role := 0, tuple := t, commit := m.snap.index, applied := m.snap }) [Zbm { Yw x m with tuple := t } m 4 true m.snap.index]
theorem p_Snap_no (x : Co) (m : Ms) (hx : BdC x) (hm : BdM m) (h : ¬ (ToC x m ∧ m.kind = 5)) : X2 x m = some (x, []) := by
 simp only [X2, p_To x m hx hm, p_mOwn x hx, Option.bind_some, Bool.cond_decide]
 by_cases c1 : ToC x m
 case neg => rw [Yi c1]; rfl
 rw [X3 c1]
 simp only [Bool.not_true, cond_false]
 rw [if_pos (fun h2 => h ⟨c1, h2⟩)]
theorem chg_cases (x : Tu) (res : Option Tu) (hx : J8 x = true) : (chgE x res = 2 ∧ Zb6 x res = x) ∨ (∃ t, res = some t ∧ J8 t = true ∧ chgE x res = 0 ∧ Zb6 x res = t) := by
 cases res with
 | none => left; have := chg_no x none (fun y h => by cases h); exact ⟨this.2, this.1⟩
 | some y =>
  cases hy : J8 y with
  | false => left; have := chg_no x (some y) (fun z h => by cases h; exact hy); exact ⟨this.2, this.1⟩
  | true => right; have := chg_yes x y (some y) hx rfl hy; exact ⟨y, rfl, hy, this.2, this.1⟩
theorem inst_parts (x : Tu) (s : St) (y : Tu) (h : Zcb x s = some y) : y.term = x.term ∧ y.vote = x.vote ∧ y.snap = s ∧ x.snap.index < s.index := by
 unfold Zcb at h
 split at h
 ·rename_i h0
  split at h
  ·unfold Zei at h
   split at h
   ·injection h with h; subst h; exact ⟨rfl, rfl, rfl, h0.1⟩
   ·cases h
  ·injection h with h; subst h; exact ⟨rfl, rfl, rfl, h0.1⟩
 ·cases h
theorem inst_right (y : Co) (s : St) (t : Tu) (h : RightC y) (ht : J8 t = true) (hs : t.snap = s) : RightC (fitC { y with role := 0, tuple := t, commit := s.index, applied := s }) := by
 have hb := Zff _ ht
 have hl : t.last = t.snap.index + t.log.length := rfl
 refine ⟨h.n, h.id, by show (0 : Int) ≤ 2; decide, h.bin, ht, ?_, h.lv, ?_, ?_, h.lc, ?_, ?_, h.caps, h.own, .inl rfl⟩
 ·show stOf t s.index = some s
  unfold stOf
  rw [hs, if_pos (by rw [hs] at hl; omega), Int.sub_self]
  subst hs
  rfl
 ·show (((y.next.map _).length : Nat) : Int) = _; rw [List.length_map]; exact h.ln
 ·show (((y.mtch.map _).length : Nat) : Int) = _; rw [List.length_map]; exact h.lm
 ·exact map_min_in h.next (by show (1 : Int) ≤ t.last + 1; omega)
 ·exact map_min_in h.mtch (by show (0 : Int) ≤ t.last; omega)
theorem p_Snap (x : Co) (m : Ms) (hm : BdM m) (h : ToC x m) (hk : m.kind = 5) : ∃ d l, X2 x m = some (d, l) ∧ SnapR x m d l := by
 have hx := h.2.1.bd
 have hy := meet_right x m h.2.1
 have hf := meet_f x m
 have hbd := hy.bd
 have hge := meet_ge x m h
 simp only [X2, p_To x m hx hm, p_mOwn x hx, p_Meet x m hx hm, p_tLast _ hbd.tup, hf.last, Zcp, Option.bind_some, Bool.cond_decide, X3 h, Bool.not_true, cond_false, if_neg (show ¬ m.kind ≠ 5 from fun h => h hk), q_Install _ m.snap hbd.tup.1]
 by_cases c1 : m.term < (Yw x m).tuple.term
 ·rw [if_pos c1]; exact ⟨_, _, rfl, .old c1⟩
 rw [if_neg c1]
 have c1' : m.term = (Yw x m).tuple.term := by omega
 by_cases c2 : (Yw x m).role = 2
 ·rw [if_pos c2]; exact ⟨_, _, rfl, .lead c1' c2⟩
 rw [if_neg c2]
 by_cases c3 : m.snap.index ≤ (Yw x m).commit
 ·rw [if_pos c3, hf.commit]
  have := SnapR.had c1' c2 (by rw [← hf.commit]; exact c3)
  refine ⟨_, _, rfl, ?_⟩
  have e : ({ Yw x m with role := 0 } : Co) = ⟨(Yw x m).id, (Yw x m).n, 0, (Yw x m).binary, (Yw x m).tuple, x.commit, (Yw x m).applied, (Yw x m).votes, (Yw x m).next, (Yw x m).mtch, (Yw x m).caps⟩ := by rw [← hf.commit]
  rw [← e]
  exact this
 rw [if_neg c3]
 have c3' : x.commit < m.snap.index := by rw [← hf.commit]; omega
 rcases chg_cases (Yw x m).tuple (Zcb (Yw x m).tuple m.snap) hy.tup with ⟨he, hs⟩ | ⟨t, hs, ht, he, hc⟩
 ·rw [if_pos (show chgE (Yw x m).tuple (Zcb (Yw x m).tuple m.snap) ≠ 0 by rw [he]; decide)]
  exact ⟨_, _, rfl, .no c1' c2 c3' (by rw [he]; decide)⟩
 ·rw [if_neg (show ¬ chgE (Yw x m).tuple (Zcb (Yw x m).tuple m.snap) ≠ 0 from fun h => h he), hc]
  have hR := inst_right (Yw x m) m.snap t hy ht (inst_parts _ _ _ hs).2.2.1
  have hb : BdC ⟨(Yw x m).id, (Yw x m).n, 0, (Yw x m).binary, t, m.snap.index, m.snap, (Yw x m).votes, (Yw x m).next, (Yw x m).mtch, (Yw x m).caps⟩ := ⟨hR.bd.tup, hbd.lv, hbd.ln, hbd.lm, hbd.lc⟩
  rw [p_Fit _ hb]
  exact ⟨_, _, rfl, .yes t c1' c2 c3' hs ht⟩
theorem snap_right (x : Co) (m : Ms) (d : Co) (l : List Ms) (h : ToC x m) (s : SnapR x m d l) : RightC d ∧ d.id = x.id ∧ d.n = x.n ∧ d.caps = x.caps.set (m.frm - 1).toNat m.cap ∧ m.term ≤ d.tuple.term ∧ x.tuple.term ≤ d.tuple.term ∧ x.commit ≤ d.commit := by
 have hy := meet_right x m h.2.1
 have hf := meet_f x m
 have hc := meet_caps x m h
 have hg := meet_ge x m h
 have hcm := hf.commit
 cases s with
 | old h1 => exact ⟨hy, hf.id, hf.n, hc, hg, hf.term, by omega⟩
 | lead h1 hr => exact ⟨hy, hf.id, hf.n, hc, hg, hf.term, by omega⟩
 | had h1 hr hi => exact ⟨role_right _ hy, hf.id, hf.n, hc, hg, hf.term, by dsimp only; omega⟩
 | no h1 hr hi he => exact ⟨role_right _ hy, hf.id, hf.n, hc, hg, hf.term, by dsimp only; omega⟩
 | yes t h1 hr hi hs ht =>
  have hp := inst_parts _ _ _ hs
  exact ⟨inst_right _ _ t hy ht hp.2.2.1, hf.id, hf.n, hc, by show m.term ≤ t.term; rw [hp.1]; exact hg, by show x.tuple.term ≤ t.term; rw [hp.1]; exact hf.term, by show x.commit ≤ m.snap.index; omega⟩
theorem snap_again (x : Co) (m : Ms) (d : Co) (l : List Ms) (hm : BdM m) (h : ToC x m) (hk : m.kind = 5) (s : SnapR x m d l) (hl : l ≠ []) : X2 d m = some (d, l) := by
 obtain ⟨hR, hid, hn, hc, hg, _, _⟩ := snap_right x m d l h s
 have hto := to_again x d m h hR hid hn
 have hme : Yw d m = d := meet_again d m hg (fun _ => by rw [hc]; exact caps_met x m h)
 have hf := meet_f x m
 obtain ⟨d2, l2, h1, s2⟩ := p_Snap d m hm hto hk
 rw [h1]
 have hcm := hf.commit
 have hla := hf.last
 cases s with
 | old g1 =>
  cases s2 with
  | old k1 => rw [hme, hla]
  | lead k1 => rw [hme] at k1; omega
  | had k1 => rw [hme] at k1; omega
  | no k1 => rw [hme] at k1; omega
  | yes t k1 => rw [hme] at k1; omega
 | lead g1 gr => exact (hl rfl).elim
 | had g1 gr gi =>
  cases s2 with
  | old k1 => rw [hme] at k1; dsimp only at k1; omega
  | lead k1 kr => rw [hme] at kr; cases kr
  | had k1 kr ki => rw [hme]; dsimp only; rw [hcm]; rfl
  | no k1 kr ki => dsimp only at ki; omega
  | yes t k1 kr ki => dsimp only at ki; omega
 | no g1 gr gi ge =>
  cases s2 with
  | old k1 => rw [hme] at k1; dsimp only at k1; omega
  | lead k1 kr => rw [hme] at kr; cases kr
  | had k1 kr ki => dsimp only at ki; omega
  | no k1 kr ki => rw [hme]; dsimp only; rw [hla]; rfl
  | yes t k1 kr ki ks kt =>
   rw [hme] at ks
   dsimp only at ks
   have := chg_yes _ _ _ (meet_right x m h.2.1).tup ks kt
   exact (ge this.2).elim
 | yes t g1 gr gi gs gt =>
  have hp := inst_parts _ _ _ gs
  have e0 : (fitC { Yw x m with role := 0, tuple := t, commit := m.snap.index, applied := m.snap }).tuple = t := rfl
  have e1 : (fitC { Yw x m with role := 0, tuple := t, commit := m.snap.index, applied := m.snap }).commit = m.snap.index := rfl
  have e2 : (fitC { Yw x m with role := 0, tuple := t, commit := m.snap.index, applied := m.snap }).role = 0 := rfl
  cases s2 with
  | old k1 => rw [hme, e0] at k1; omega
  | lead k1 kr => rw [hme, e2] at kr; cases kr
  | had k1 kr ki => rw [hme]; rfl
  | no k1 kr ki => rw [e1] at ki; omega
  | yes t k1 kr ki => rw [e1] at ki; omega
end Go.Proofs.Ytenagnncpaabdaa
namespace Go.Proofs.Ytenagnncpaabdaa
open Go Go.RowKit
set_option maxRecDepth 100000
theorem p_Alike_self (a : Ms) (h : a.entries.length ≤ 1000000) : Zcc a a = some true := by
 unfold Zcc
 simp only [decide_true, cond_true, Bool.and_true, p_Same a.entries a.entries h, Option.bind_some]
theorem p_number20 (x : Int) : J5 x = some (numB x) := by
 unfold J5 numB
 by_cases h : 0 ≤ x <;> simp [h]
theorem p_entries20_l1 (x : Ms) (h : x.entries.length ≤ 1000000) : ∀ (m k n : Nat) (v : Bool) (last : Int), m = x.entries.length - k → k ≤ x.entries.length → m < n → V2 x n v last k = some (cdec (entB last x.term (x.entries.drop k) ∧ x.entries.length ≤ 4)) := by
 intro m
 induction m with
 | zero =>
  intro k n v last hm hk hn
  obtain ⟨n, rfl⟩ : ∃ n', n = n' + 1 := ⟨n - 1, by omega⟩
  rw [V2, List.drop_eq_nil_of_le (by omega)]
  simp only [Bool.cond_decide, if_neg (show ¬ ((k : Int) < (x.entries.length : Int)) by omega)]
  rw [Zea]; congr 1
  exact Vx ⟨fun h => ⟨trivial, by omega⟩, fun h => by have := h.2; omega⟩
 | succ m ih =>
  intro k n v last hm hk hn
  obtain ⟨n, rfl⟩ : ∃ n', n = n' + 1 := ⟨n - 1, by omega⟩
  obtain ⟨e, he, hd⟩ := Xw (show k < x.entries.length by omega)
  rw [V2, hd]
  simp only [Bool.cond_decide, if_pos (show ((k : Int) < (x.entries.length : Int)) by omega), Za9, he, Option.bind_some, p_Right]
  rw [Zcr (by omega), show ((k : Int) + 1) = ((k + 1 : Nat) : Int) by omega, ih (k + 1) n v e.term (by omega) (by omega) (by omega)]
  cases c1 : Jj e with
  | false => rw [Yi (p := entB last x.term (e :: x.entries.drop (k + 1)) ∧ x.entries.length ≤ 4) fun h => by have h2 := h.1.1; rw [c1] at h2; cases h2]; rfl
  | true =>
   simp only [Bool.not_true, cond_false]
   by_cases c2 : e.term < last
   ·rw [if_pos c2, Yi (p := entB last x.term (e :: x.entries.drop (k + 1)) ∧ x.entries.length ≤ 4) fun h => by have h2 := h.1.2.1; omega]
   rw [if_neg c2]
   by_cases c3 : x.term < e.term
   ·rw [if_pos c3, Yi (p := entB last x.term (e :: x.entries.drop (k + 1)) ∧ x.entries.length ≤ 4) fun h => by have h2 := h.1.2.1; omega]
   rw [if_neg c3]
   congr 1
   exact Vx ⟨fun h => ⟨⟨c1, ⟨by omega, by omega⟩, h.1⟩, h.2⟩, fun h => ⟨h.1.2.2, h.2⟩⟩
theorem p_entries20 (x : Ms) (h : x.entries.length ≤ 1000000) : Zbc x = some (cdec (entB x.lastTerm x.term x.entries ∧ x.entries.length ≤ 4)) := by
 have := p_entries20_l1 x h x.entries.length 0 Xz false x.lastTerm (by omega) (by omega) (by unfold Xz; omega)
 unfold Zbc
 simpa using this
theorem numB_no {x : Int} (h : numB x = false) : ¬ (0 ≤ x ∧ x ≤ 1073741824) := fun h2 => by rw [numB, decide_eq_true h2] at h; cases h
theorem numB_yes {x : Int} (h : numB x = true) : 0 ≤ x ∧ x ≤ 1073741824 := of_decide_eq_true h
theorem p_Fine20 (m : Ms) (n : Int) (h : BdM m) : Zdf m n = some (fineM m n) := by
 simp only [Zdf, p_number20, p_entries20 m h.ents, p_Fine, Option.bind_some, st_zero, Bool.cond_decide]
 unfold fineM
 by_cases c0 : n < 1
 ·rw [if_pos c0, Yi (p := FineM m n) fun h => by have := h.many; omega]
 rw [if_neg c0]
 by_cases c1 : 5 < n
 ·rw [if_pos c1, Yi (p := FineM m n) fun h => by have := h.many; omega]
 rw [if_neg c1]
 by_cases c2 : m.frm < 1
 ·rw [if_pos c2, Yi (p := FineM m n) fun h => by have := h.frm; omega]
 rw [if_neg c2]
 by_cases c3 : n < m.frm
 ·rw [if_pos c3, Yi (p := FineM m n) fun h => by have := h.frm; omega]
 rw [if_neg c3]
 by_cases c4 : m.dst < 1
 ·rw [if_pos c4, Yi (p := FineM m n) fun h => by have := h.dst; omega]
 rw [if_neg c4]
 by_cases c5 : n < m.dst
 ·rw [if_pos c5, Yi (p := FineM m n) fun h => by have := h.dst; omega]
 rw [if_neg c5]
 by_cases c6 : m.frm = m.dst
 ·rw [if_pos c6, Yi (p := FineM m n) fun h => h.ne c6]
 rw [if_neg c6]
 by_cases c7 : m.kind < 1
 ·rw [if_pos c7, Yi (p := FineM m n) fun h => by have := h.kind; omega]
 rw [if_neg c7]
 by_cases c8 : 6 ≤ m.kind
 ·rw [if_pos c8, Yi (p := FineM m n) fun h => by have := h.kind; omega]
 rw [if_neg c8]
 by_cases c9 : m.term < 1
 ·rw [if_pos c9, Yi (p := FineM m n) fun h => by have := h.term; omega]
 rw [if_neg c9]
 by_cases c10 : 1073741824 < m.term
 ·rw [if_pos c10, Yi (p := FineM m n) fun h => by have := h.term; omega]
 rw [if_neg c10]
 by_cases c11 : m.cap < 1
 ·rw [if_pos c11, Yi (p := FineM m n) fun h => by have := h.cap; omega]
 rw [if_neg c11]
 by_cases c12 : 2 < m.cap
 ·rw [if_pos c12, Yi (p := FineM m n) fun h => by have := h.cap; omega]
 rw [if_neg c12]
 cases d0 : numB m.last with
 | false => rw [Yi (p := FineM m n) fun h => numB_no d0 h.last]; rfl
 | true =>
 have d0' := numB_yes d0
 cases d1 : numB m.lastTerm with
 | false => rw [Yi (p := FineM m n) fun h => numB_no d1 h.lastTerm]; rfl
 | true =>
 have d1' := numB_yes d1
 cases d2 : numB m.commit with
 | false => rw [Yi (p := FineM m n) fun h => numB_no d2 h.commit]; rfl
 | true =>
 have d2' := numB_yes d2
 by_cases c20 : entB m.lastTerm m.term m.entries ∧ m.entries.length ≤ 4
 case neg => rw [Yi c20, Yi (p := FineM m n) fun h => c20 ⟨h.ents, h.few⟩]; rfl
 rw [X3 c20]
 simp only [Bool.not_true, cond_false]
 have yes : ∀ (d1 : m.kind ≠ 3 → m.entries.length = 0 ∧ m.commit = 0) (d2 : m.okk = true → m.kind = 2 ∨ m.kind = 4), (if m.kind = 5 then (cond (J9 m.snap) (some (decide (0 < m.snap.index))) (some false)) else some (decide (m.snap = ⟨0, 0, 0, 0, false⟩))) = some (cdec (FineM m n)) := by
  intro d1 d2
  have mk : (m.kind = 5 → 0 < m.snap.index ∧ J9 m.snap = true) → (m.kind ≠ 5 → m.snap = ⟨0, 0, 0, 0, false⟩) → FineM m n := fun s1 s2 =>
   ⟨⟨by omega, by omega⟩, ⟨by omega, by omega⟩, ⟨by omega, by omega⟩, c6, ⟨by omega, by omega⟩, ⟨by omega, by omega⟩, ⟨by omega, by omega⟩, d0', d1', d2', c20.1, c20.2, d1, d2, s1, s2⟩
  by_cases e1 : m.kind = 5
  ·rw [if_pos e1]
   cases e3 : J9 m.snap with
   | true =>
    simp only [cond_true]
    rw [Zea]
    congr 1
    exact Vx ⟨fun e2 => mk (fun _ => ⟨e2, e3⟩) (fun h => (h e1).elim), fun h => (h.snap e1).1⟩
   | false => rw [Yi (p := FineM m n) fun h => by have h2 := (h.snap e1).2; rw [e3] at h2; cases h2]; rfl
  ·rw [if_neg e1, Zea]
   congr 1
   exact Vx ⟨fun e2 => mk (fun h => (e1 h).elim) (fun _ => e2), fun h => h.nosnap e1⟩
 by_cases e1 : m.kind = 3
 ·rw [if_neg (fun h => h e1)]
  cases e2 : m.okk with
  | false => exact yes (fun h => (h e1).elim) (fun h => by rw [e2] at h; cases h)
  | true =>
   simp only [cond_true]
   rw [if_pos (by omega), if_pos (by omega), Yi (p := FineM m n) fun h => by have := h.okk e2; omega]
 ·rw [if_pos e1]
  by_cases e3 : (0 : Int) < (m.entries.length : Int)
  ·rw [if_pos e3, Yi (p := FineM m n) fun h => by have := (h.app e1).1; omega]
  rw [if_neg e3]
  by_cases e4 : 0 < m.commit
  ·rw [if_pos e4, Yi (p := FineM m n) fun h => by have := (h.app e1).2; omega]
  rw [if_neg e4]
  have e5 : m.kind ≠ 3 → m.entries.length = 0 ∧ m.commit = 0 := fun _ => ⟨by omega, by omega⟩
  cases e2 : m.okk with
  | false => exact yes e5 (fun h => by rw [e2] at h; cases h)
  | true =>
   simp only [cond_true]
   by_cases e6 : m.kind = 2
   ·rw [if_neg (fun h => h e6)]; exact yes e5 (fun _ => .inl e6)
   ·rw [if_pos e6]
    by_cases e7 : m.kind = 4
    ·rw [if_neg (fun h => h e7)]; exact yes e5 (fun _ => .inr e7)
    ·rw [if_pos e7, Yi (p := FineM m n) fun h => by have := h.okk e2; omega]
end Go.Proofs.Ytenagnncpaabdaa
namespace Go.Proofs.Ytenagnncpaabdaa
open Go Go.RowKit
set_option maxRecDepth 100000
theorem p_wakes25 : Xb = some true := by decide +kernel
theorem p_great25 (x : Co) (m : Ms) : ∃ b, Zce x m = some b ∧ (b = false → BdC x ∧ m.entries.length ≤ 20) := by
 obtain ⟨g, hg⟩ := p_Great_some x
 unfold Zce
 rw [hg]
 cases g with
 | true => exact ⟨true, rfl, fun h => by cases h⟩
 | false =>
  refine ⟨decide ((20 : Int) < (m.entries.length : Int)), rfl, fun h => ⟨(p_Great_no x hg).1, ?_⟩⟩
  have := of_decide_eq_false h
  omega
theorem idx_one (a : Ms) : idx [a] 0 = some a := rfl
theorem back_bd (y : Co) (m : Ms) (k : Int) (hk : 0 ≤ k ∧ k ≤ 255) (ok : Bool) (l : Int) : BdM (Zbm y m k ok l) := ⟨hk, by show (0 : Nat) ≤ 1000000; omega⟩
theorem back_all (a : Ms) (h : a.entries.length ≤ 1000000) : Zaf [a] [a] = some true := by
 have e : Xz = Xz - 2 + 1 + 1 := by unfold Xz; rfl
 unfold Zaf
 rw [e, Zay, Zay]
 have h0 : idx [a] 0 = some a := rfl
 have w1 : IntKind.wrap .i64 1 = 1 := Zcr (by omega)
 simp [h0, p_Alike_self a h, w1]
theorem p_At12 (t : Tu) (h : bdT t) (k : Nat) (e : En) (he : t.log[k]? = some e) : Vo t (t.snap.index + 1 + k) = some (e, true) := by
 obtain ⟨h1, h2, h3⟩ := h
 have hk := (List.getElem?_eq_some_iff.1 he).1
 simp only [Vo, Zfw t ⟨h1, h2, h3⟩, Option.bind_some, Bool.cond_decide, if_neg (show ¬ t.snap.index + 1 + (k : Int) ≤ t.snap.index by omega), Tu.last, if_neg (show ¬ t.snap.index + (t.log.length : Int) < t.snap.index + 1 + (k : Int) by omega), Zcr (n := t.snap.index + 1 + (k : Int) - t.snap.index) (by omega), Zcr (n := t.snap.index + 1 + (k : Int) - t.snap.index - 1) (by omega), show t.snap.index + 1 + (k : Int) - t.snap.index - 1 = (k : Int) by omega, Zcr (n := (k : Int)) (by omega), Za9, he]
structure Tail (x y : Tu) (i : Int) : Prop where
 bx : bdT x
 bY : bdT y
 lo : x.snap.index ≤ i
 eq : y.snap.index = i
 log : y.log = x.log.drop (i - x.snap.index).toNat
 le : i ≤ x.last
theorem Tail.last {x y : Tu} {i : Int} (h : Tail x y i) : y.last = x.last := by
 have := h.le
 have h1 := h.lo
 unfold Tu.last at *
 rw [h.log, List.length_drop, h.eq]
 omega
theorem Tail.at_ {x y : Tu} {i : Int} (h : Tail x y i) (k : Nat) (hk : i + 1 + k ≤ x.last) : ∃ e, Vo x (i + 1 + k) = some (e, true) ∧ Vo y (i + 1 + k) = some (e, true) := by
 have h1 := h.lo
 have hb := h.bx.2
 have hl : x.last = x.snap.index + x.log.length := rfl
 obtain ⟨q, hq⟩ : ∃ q : Nat, i = x.snap.index + (q : Int) := ⟨(i - x.snap.index).toNat, by omega⟩
 obtain ⟨e, he, _⟩ := Xw (show q + k < x.log.length by omega)
 refine ⟨e, ?_, ?_⟩
 ·have := p_At12 x h.bx (q + k) e he
  rw [show i + 1 + (k : Int) = x.snap.index + 1 + ((q + k : Nat) : Int) by omega]
  exact this
 ·have hy : y.log[k]? = some e := by
   rw [h.log, List.getElem?_drop, show (i - x.snap.index).toNat = q by omega]; exact he
  have := p_At12 y h.bY k e hy
  rw [h.eq] at this
  exact this
theorem tail_loop (L : Nat → Bool → Int → Option Bool) (x y : Tu) (i : Int) (h : Tail x y i)
  (h0 : ∀ n v j, ¬ j ≤ x.last → L (n + 1) v j = some true)
  (h1 : ∀ n v j e, j ≤ x.last → Vo x j = some (e, true) → Vo y j = some (e, true) → L (n + 1) v j = L n v (IntKind.wrap .i64 (j + 1))) :
  ∀ (q k n : Nat) (v : Bool), (q : Int) = x.last - (i + k) → q < n → L n v (i + 1 + k) = some true := by
 have hlb := last_bd h.bx
 have hlo := h.lo
 have hbx := h.bx.2
 intro q
 induction q with
 | zero =>
  intro k n v hq hn
  obtain ⟨n, rfl⟩ : ∃ n', n = n' + 1 := ⟨n - 1, by omega⟩
  exact h0 n v _ (by omega)
 | succ q ih =>
  intro k n v hq hn
  obtain ⟨n, rfl⟩ : ∃ n', n = n' + 1 := ⟨n - 1, by omega⟩
  obtain ⟨e, g1, g2⟩ := h.at_ k (by omega)
  rw [h1 n v _ e (by omega) g1 g2, Zcr (n := i + 1 + (k : Int) + 1) (by omega), show i + 1 + (k : Int) + 1 = i + 1 + ((k + 1 : Nat) : Int) by omega]
  exact ih (k + 1) n v (by omega) (by omega)
theorem st_same (s t : St) : (decide (s.index = t.index) && (decide (s.term = t.term) && (decide (s.sum = t.sum) && (decide (s.level = t.level) && decide (s.final = t.final))))) = decide (s = t) := snap_eq s t
theorem p_InstallKeeps (x : Co) (m : Ms) (hk : 0 ≤ m.kind ∧ m.kind ≤ 255) : Zag x m = some true := by
 obtain ⟨g, hg, hgb⟩ := p_great25 x m
 unfold Zag
 simp only [hg, p_wakes25, Option.bind_some]
 cases g with
 | true => rfl
 | false =>
 obtain ⟨hbd, hme⟩ := hgb rfl
 have hm : BdM m := ⟨hk, by omega⟩
 simp only [cond_false, p_Right20 x hbd, Option.bind_some]
 unfold Zfm
 by_cases h : RightC x
 case neg => rw [Yi h]; rfl
 rw [X3 h]
 simp only [Bool.not_true, cond_false]
 have hx0 := Zfw x.tuple hbd.tup
 by_cases c1 : ToC x m ∧ m.kind = 5
 case neg =>
  rw [p_Snap_no x m hbd hm c1]
  simp only [Option.bind_some, p_Right20 x hbd, Zfm, X3 h, Bool.not_true, cond_false, Bool.cond_decide, if_neg (show ¬ x.commit < x.commit by omega), if_neg (show ¬ x.tuple.term < x.tuple.term by omega), List.length_nil, if_neg (show ¬ (1 : Int) < ((0 : Nat) : Int) by omega), if_pos (show ((0 : Nat) : Int) = 0 from rfl), if_true, hx0, decide_true, Bool.and_true, cond_true]
 obtain ⟨c1, c2⟩ := c1
 obtain ⟨d, l, h1, s⟩ := p_Snap x m hm c1 c2
 obtain ⟨hR, hid, hn, hc, hg2, htm, hcm⟩ := snap_right x m d l c1 s
 have hagain := snap_again x m d l hm c1 c2 s
 have hb2 := hR.bd
 have hd0 := Zfw d.tuple hb2.tup
 have hsame := p_Same20 d d hb2
 rw [decide_eq_true rfl] at hsame
 have hf := meet_f x m
 have hmr := meet_right x m h
 have hmt1 : 1 ≤ m.term := c1.2.2.term.1
 have hxb := Zff _ h.tup
 have hlast : 0 ≤ x.tuple.last ∧ x.tuple.last ≤ 1073741824 := by
  have := (tupB_iff _).1 h.tup
  have h2 := this.2.1
  unfold Tu.last
  omega
 have hcb := commit_bd h
 have hge := meet_ge x m c1
 have htb : 1 ≤ (Yw x m).tuple.term ∧ (Yw x m).tuple.term ≤ 1073741824 := ⟨by omega, ((tupB_iff _).1 hmr.tup).2.1.2.2.2.2⟩
 rw [h1]
 simp only [Option.bind_some, p_Right20 d hb2, Zfm, X3 hR, Bool.not_true, cond_false, Bool.cond_decide, if_neg (show ¬ d.commit < x.commit by omega), if_neg (show ¬ d.tuple.term < x.tuple.term by omega), hx0, hd0, st_same]
 have two : ∀ a, l = [a] → X2 d m = some (d, [a]) ∧ ∀ b, a.entries.length ≤ b → b ≤ 1000000 → Zaf [a] [a] = some true := fun a ha => by
  subst ha
  exact ⟨hagain (by simp), fun b h1 h2 => back_all a (by omega)⟩
 cases s with
 | old g1 =>
  have hF := back_fine x (Yw x m) m false 4 x.tuple.last c1 hf.id hf.binary htb (.inr rfl) hlast
  have hF2 := p_Fine20 (Zbm (Yw x m) m 4 false x.tuple.last) x.n (back_bd _ _ _ (by decide) _ _)
  unfold fineM at hF2
  rw [X3 hF] at hF2
  obtain ⟨t1, t2⟩ := two _ rfl
  have t3 := t2 0 (Nat.le_refl 0) (by omega)
  have e1 : (Zbm (Yw x m) m 4 false x.tuple.last).dst = m.frm := rfl
  have e2 : (Zbm (Yw x m) m 4 false x.tuple.last).okk = false := rfl
  have e3 : (Zbm (Yw x m) m 4 false x.tuple.last).last = x.tuple.last := rfl
  simp only [List.length_cons, List.length_nil, idx_one, hF2, Option.bind_some, e1, e2, e3, t1, hsame, t3, Bool.not_true, Bool.not_false, cond_false, cond_true, ne_eq, not_true, if_false, hf.snap, hf.commit, hf.applied, hf.last, if_true, decide_true]
  rfl
 | lead g1 gr =>
  simp only [List.length_nil, hf.commit, hf.last, hf.snap, if_true, decide_true]
  rfl
 | had g1 gr gi =>
  have hF := back_fine x (Yw x m) m true 4 x.commit c1 hf.id hf.binary htb (.inr rfl) (by omega)
  have hF2 := p_Fine20 (Zbm (Yw x m) m 4 true x.commit) x.n (back_bd _ _ _ (by decide) _ _)
  unfold fineM at hF2
  rw [X3 hF] at hF2
  obtain ⟨t1, t2⟩ := two _ rfl
  have t3 := t2 0 (Nat.le_refl 0) (by omega)
  have e1 : (Zbm (Yw x m) m 4 true x.commit).dst = m.frm := rfl
  have e2 : (Zbm (Yw x m) m 4 true x.commit).okk = true := rfl
  have e3 : (Zbm (Yw x m) m 4 true x.commit).last = x.commit := rfl
  have e4 : ({ Yw x m with role := 0 } : Co).tuple.snap = x.tuple.snap := hf.snap
  have e5 : ({ Yw x m with role := 0 } : Co).tuple.last = x.tuple.last := hf.last
  have e6 : ({ Yw x m with role := 0 } : Co).commit = x.commit := hf.commit
  have e7 : ({ Yw x m with role := 0 } : Co).applied = x.applied := hf.applied
  generalize hD : ({ Yw x m with role := 0 } : Co) = D at *
  simp only [e4, e5, e6, e7, List.length_cons, List.length_nil, idx_one, hF2, Option.bind_some, e1, e2, e3, t1, hsame, t3, Bool.not_true, Bool.not_false, cond_false, cond_true, ne_eq, not_true, if_false, hf.snap, hf.commit, hf.applied, hf.last, if_true, decide_true]
  rfl
 | no g1 gr gi ge =>
  have hF := back_fine x (Yw x m) m false 4 x.tuple.last c1 hf.id hf.binary htb (.inr rfl) hlast
  have hF2 := p_Fine20 (Zbm (Yw x m) m 4 false x.tuple.last) x.n (back_bd _ _ _ (by decide) _ _)
  unfold fineM at hF2
  rw [X3 hF] at hF2
  obtain ⟨t1, t2⟩ := two _ rfl
  have t3 := t2 0 (Nat.le_refl 0) (by omega)
  have e1 : (Zbm (Yw x m) m 4 false x.tuple.last).dst = m.frm := rfl
  have e2 : (Zbm (Yw x m) m 4 false x.tuple.last).okk = false := rfl
  have e3 : (Zbm (Yw x m) m 4 false x.tuple.last).last = x.tuple.last := rfl
  have e4 : ({ Yw x m with role := 0 } : Co).tuple.snap = x.tuple.snap := hf.snap
  have e5 : ({ Yw x m with role := 0 } : Co).tuple.last = x.tuple.last := hf.last
  have e6 : ({ Yw x m with role := 0 } : Co).commit = x.commit := hf.commit
  have e7 : ({ Yw x m with role := 0 } : Co).applied = x.applied := hf.applied
  generalize hD : ({ Yw x m with role := 0 } : Co) = D at *
  simp only [e4, e5, e6, e7, List.length_cons, List.length_nil, idx_one, hF2, Option.bind_some, e1, e2, e3, t1, hsame, t3, Bool.not_true, Bool.not_false, cond_false, cond_true, ne_eq, not_true, if_false, hf.snap, hf.commit, hf.applied, hf.last, if_true, decide_true]
  rfl
 | yes t g1 gr gi gs gt =>
  have hp := inst_parts _ _ _ gs
  have hbt := Zff _ gt
  have hi0 := hp.2.2.1
  have hta : Jd (Yw x m).tuple m.snap.index = Jd x.tuple m.snap.index := by unfold Jd Tu.last; rw [hf.snap, hf.log]
  have hT := p_TermAt12 x.tuple m.snap.index hbd.tup
  have hF := back_fine x { Yw x m with tuple := t } m true 4 m.snap.index c1 hf.id hf.binary (by show 1 ≤ t.term ∧ t.term ≤ 1073741824; rw [hp.1]; exact htb) (.inr rfl) (by rw [hi0] at hbt; omega)
  have hF2 := p_Fine20 (Zbm { Yw x m with tuple := t } m 4 true m.snap.index) x.n (back_bd _ _ _ (by decide) _ _)
  unfold fineM at hF2
  rw [X3 hF] at hF2
  obtain ⟨t1, t2⟩ := two _ rfl
  have t3 := t2 0 (Nat.le_refl 0) (by omega)
  have e1 : (Zbm { Yw x m with tuple := t } m 4 true m.snap.index).dst = m.frm := rfl
  have e2 : (Zbm { Yw x m with tuple := t } m 4 true m.snap.index).okk = true := rfl
  have e3 : (Zbm { Yw x m with tuple := t } m 4 true m.snap.index).last = m.snap.index := rfl
  have e4 : (fitC { Yw x m with role := 0, tuple := t, commit := m.snap.index, applied := m.snap }).tuple = t := rfl
  have e5 : (fitC { Yw x m with role := 0, tuple := t, commit := m.snap.index, applied := m.snap }).commit = m.snap.index := rfl
  have e6 : (fitC { Yw x m with role := 0, tuple := t, commit := m.snap.index, applied := m.snap }).applied = m.snap := rfl
  generalize hD : fitC { Yw x m with role := 0, tuple := t, commit := m.snap.index, applied := m.snap } = D at *
  have hne : ¬ m.snap = x.tuple.snap := fun h => by have := congrArg St.index h; omega
  simp only [List.length_cons, List.length_nil, idx_one, hF2, Option.bind_some, e1, e2, e3, e4, e5, e6, hi0, t1, hsame, t3, Bool.not_true, Bool.not_false, cond_false, cond_true, ne_eq, not_true, if_false, decide_eq_false hne, decide_true, if_neg (show ¬ m.snap.index ≤ x.commit by omega), hT, if_neg (show ¬ (1 : Int) < ((0 + 1 : Nat) : Int) by omega), if_neg (show ¬ ((0 + 1 : Nat) : Int) = 0 by omega), if_neg hne]
  have hin : Zcb (Yw x m).tuple m.snap = if Jd x.tuple m.snap.index = some m.snap.term then Zei (Yw x m).tuple m.snap else some { snap := m.snap, log := [], term := (Yw x m).tuple.term, vote := (Yw x m).tuple.vote } := by
   have g0 := gs
   unfold Zcb at g0 ⊢
   split at g0
   ·rename_i h0; rw [if_pos h0, hta]
   ·cases g0
  rw [gs] at hin
  have nolog : ¬ Jd x.tuple m.snap.index = some m.snap.term → (t.log.length : Int) = 0 := fun hno => by
   rw [if_neg hno] at hin
   have := Option.some.inj hin
   rw [this]; rfl
  cases hta2 : Jd x.tuple m.snap.index with
  | none =>
   have h0 := nolog (by rw [hta2]; intro h; cases h)
   simp only [Option.isSome_none, Bool.not_false, cond_true, h0, if_true]
  | some tm =>
   simp only [Option.isSome_some, Bool.not_true, cond_false, Option.getD_some]
   by_cases c5 : tm = m.snap.term
   ·have hyes : Jd x.tuple m.snap.index = some m.snap.term := by rw [hta2, c5]
    rw [if_pos hyes] at hin
    have hle : x.tuple.snap.index ≤ m.snap.index ∧ m.snap.index ≤ x.tuple.last := by
     unfold Jd at hyes
     split at hyes
     ·unfold Tu.last; omega
     ·split at hyes
      ·omega
      ·cases hyes
    have hlog : t.log = x.tuple.log.drop (m.snap.index - x.tuple.snap.index).toNat := by
     unfold Zei at hin
     split at hin
     ·have := Option.some.inj hin
      rw [this, hf.snap, hf.log]
     ·cases hin
    have hlen : x.tuple.last = x.tuple.snap.index + x.tuple.log.length := rfl
    have hbtt : bdT t := ⟨by omega, hbt.1, by omega⟩
    have hTail : Tail x.tuple t m.snap.index := ⟨hbd.tup, hbtt, hle.1, by rw [hi0], hlog, hle.2⟩
    have hl := tail_loop (X8 x (D, [Zbm { Yw x m with tuple := t } m 4 true m.snap.index])) x.tuple t m.snap.index hTail
     (fun n v j hj => by rw [X8]; simp only [hx0, e4, Zfw t hbtt, hTail.last, p_wakes25, Option.bind_some, Bool.cond_decide, if_neg hj, if_true])
     (fun n v j e hj g1 g2 => by rw [X8]; simp only [hx0, e4, g1, g2, Option.bind_some, Bool.cond_decide, if_pos hj, decide_true, Bool.and_true, Bool.not_true, cond_false])
     (x.tuple.last - m.snap.index).toNat 0 Xz false (by omega) (by have := hxb.2.2.2; unfold Xz; omega)
    rw [show m.snap.index + 1 + ((0 : Nat) : Int) = m.snap.index + 1 by omega] at hl
    rw [if_neg (show ¬ ¬ tm = m.snap.term from fun h => h c5), Zcr (n := m.snap.index + 1) (by omega), hl]
   ·have h0 := nolog (by rw [hta2]; intro h; exact c5 (Option.some.inj h))
    simp only [if_pos (show ¬ tm = m.snap.term from c5), h0, if_true]
end Go.Proofs.Ytenagnncpaabdaa
