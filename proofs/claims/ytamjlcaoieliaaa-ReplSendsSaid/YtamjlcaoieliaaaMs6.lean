/- Texts of one claim put together. -/
import Derived.Test.YtamjlcaoieliaaaMs5
namespace Go.Proofs.Ytamjlcaoieliaaa

section
open Go Go.RowKit
set_option maxRecDepth 100000
theorem p_eNumber (x : Int) : Ve x = some (numB x) := by
 unfold Ve numB
 by_cases h : 0 ≤ x <;> simp [h]
theorem p_eFine (x : St) : Ju x = some (Za8 x) := by
 obtain ⟨i, t, s, l, f⟩ := x
 simp only [Ju, Zd9, p_eNumber, Option.bind_some, Za8, firstS, numB, St.mk.injEq, Bool.cond_not, Bool.cond_decide]
 cases f <;> (repeat' split) <;> simp_all <;> omega
def entB (last term : Int) : List En → Prop
 | [] => True
 | e :: l => J1 e = true ∧ (last ≤ e.term ∧ e.term ≤ term) ∧ entB e.term term l
structure FineM (m : Ms) (n : Int) : Prop where
 many : 1 ≤ n ∧ n ≤ 5
 frm : 1 ≤ m.frm ∧ m.frm ≤ n
 dst : 1 ≤ m.dst ∧ m.dst ≤ n
 ne : m.frm ≠ m.dst
 kind : 1 ≤ m.kind ∧ m.kind ≤ 5
 term : 1 ≤ m.term ∧ m.term ≤ 1073741824
 cap : 1 ≤ m.cap ∧ m.cap ≤ 2
 last : 0 ≤ m.last ∧ m.last ≤ 1073741824
 lastTerm : 0 ≤ m.lastTerm ∧ m.lastTerm ≤ 1073741824
 commit : 0 ≤ m.commit ∧ m.commit ≤ 1073741824
 ents : entB m.lastTerm m.term m.entries
 few : m.entries.length ≤ 4
 app : m.kind ≠ 3 → m.entries.length = 0 ∧ m.commit = 0
 okk : m.okk = true → m.kind = 2 ∨ m.kind = 4
 snap : m.kind = 5 → 0 < m.snap.index ∧ Za8 m.snap = true
 nosnap : m.kind ≠ 5 → m.snap = ⟨0, 0, 0, 0, false⟩
noncomputable def fineM (m : Ms) (n : Int) : Bool := cdec (FineM m n)
structure BdM (m : Ms) : Prop where
 kind : 0 ≤ m.kind ∧ m.kind ≤ 255
 ents : m.entries.length ≤ 1000000
theorem p_entries_l1 (x : Ms) (h : x.entries.length ≤ 1000000) : ∀ (m k n : Nat) (v : Bool) (last : Int), m = x.entries.length - k → k ≤ x.entries.length → m < n → Jn x n v last k = some (cdec (entB last x.term (x.entries.drop k) ∧ x.entries.length ≤ 4)) := by
 intro m
 induction m with
 | zero =>
  intro k n v last hm hk hn
  obtain ⟨n, rfl⟩ : ∃ n', n = n' + 1 := ⟨n - 1, by omega⟩
  rw [Jn, List.drop_eq_nil_of_le (by omega)]
  simp only [Bool.cond_decide, if_neg (show ¬ ((k : Int) < (x.entries.length : Int)) by omega)]
  rw [Zep]; congr 1
  exact V2 ⟨fun h => ⟨trivial, by omega⟩, fun h => by have := h.2; omega⟩
 | succ m ih =>
  intro k n v last hm hk hn
  obtain ⟨n, rfl⟩ : ∃ n', n = n' + 1 := ⟨n - 1, by omega⟩
  obtain ⟨e, he, hd⟩ := Xq (show k < x.entries.length by omega)
  rw [Jn, hd]
  simp only [Bool.cond_decide, if_pos (show ((k : Int) < (x.entries.length : Int)) by omega), Zau, he, Option.bind_some, p_eRight, p_within]
  rw [J2 (by omega), show ((k : Int) + 1) = ((k + 1 : Nat) : Int) by omega, ih (k + 1) n v e.term (by omega) (by omega) (by omega)]
  cases c1 : J1 e with
  | false => rw [Yk (p := entB last x.term (e :: x.entries.drop (k + 1)) ∧ x.entries.length ≤ 4) fun h => by have h2 := h.1.1; rw [c1] at h2; cases h2]; rfl
  | true =>
   by_cases c2 : last ≤ e.term ∧ e.term ≤ x.term
   ·rw [Vb c2]; show some _ = some _; congr 1
    exact V2 ⟨fun h => ⟨⟨c1, c2, h.1⟩, h.2⟩, fun h => ⟨h.1.2.2, h.2⟩⟩
   ·rw [Yk c2, Yk (p := entB last x.term (e :: x.entries.drop (k + 1)) ∧ x.entries.length ≤ 4) fun h => c2 h.1.2.1]; rfl
theorem p_entries (x : Ms) (h : x.entries.length ≤ 1000000) : Zc1 x = some (cdec (entB x.lastTerm x.term x.entries ∧ x.entries.length ≤ 4)) := by
 have := p_entries_l1 x h x.entries.length 0 Xn false x.lastTerm (by omega) (by omega) (by unfold Xn; omega)
 unfold Zc1
 simpa using this
theorem st_zero (s : St) : (decide (s.index = 0) && (decide (s.term = 0) && (decide (s.sum = 0) && (decide (s.level = 0) && decide (s.final = false))))) = decide (s = ⟨0, 0, 0, 0, false⟩) := by
 obtain ⟨a1, a2, a3, a4, a5⟩ := s
 rw [Bool.eq_iff_iff]; simp
theorem p_mFine (m : Ms) (n : Int) (h : BdM m) : Zd3 m n = some (fineM m n) := by
 have hw : IntKind.wrap .i64 m.kind = m.kind := J2 (by have := h.kind; omega)
 simp only [Zd3, p_within, p_each [m.frm, m.dst] _ _ _ (by simp), p_each [m.last, m.lastTerm, m.commit] _ _ _ (by simp), p_entries m h.ents, p_eFine, Option.bind_some, hw, st_zero]
 unfold fineM
 by_cases c1 : 1 ≤ n ∧ n ≤ 5
 case neg => rw [Yk c1, Yk (p := FineM m n) fun h => c1 h.many]; rfl
 rw [Vb c1]
 by_cases c2 : (([m.frm, m.dst].length : Nat) : Int) = 2 ∧ InB [m.frm, m.dst] 1 n
 case neg => rw [Yk c2, Yk (p := FineM m n) fun h => c2 ⟨rfl, InB_cons.2 ⟨h.frm, InB_cons.2 ⟨h.dst, Ze4⟩⟩⟩]; rfl
 rw [Vb c2]
 have c21 := (InB_cons.1 c2.2).1
 have c22 := (InB_cons.1 (InB_cons.1 c2.2).2).1
 by_cases c3 : m.frm = m.dst
 case pos => rw [decide_eq_true c3, Yk (p := FineM m n) fun h => h.ne c3]; rfl
 rw [decide_eq_false c3]
 by_cases c4 : 1 ≤ m.kind ∧ m.kind ≤ 5
 case neg => rw [Yk c4, Yk (p := FineM m n) fun h => c4 h.kind]; rfl
 rw [Vb c4]
 by_cases c5 : 1 ≤ m.term ∧ m.term ≤ 1073741824
 case neg => rw [Yk c5, Yk (p := FineM m n) fun h => c5 h.term]; rfl
 rw [Vb c5]
 by_cases c6 : 1 ≤ m.cap ∧ m.cap ≤ 2
 case neg => rw [Yk c6, Yk (p := FineM m n) fun h => c6 h.cap]; rfl
 rw [Vb c6]
 by_cases c7 : (([m.last, m.lastTerm, m.commit].length : Nat) : Int) = 3 ∧ InB [m.last, m.lastTerm, m.commit] 0 1073741824
 case neg => rw [Yk c7, Yk (p := FineM m n) fun h => c7 ⟨rfl, InB_cons.2 ⟨h.last, InB_cons.2 ⟨h.lastTerm, InB_cons.2 ⟨h.commit, Ze4⟩⟩⟩⟩]; rfl
 rw [Vb c7]
 have c71 := (InB_cons.1 c7.2).1
 have c72 := (InB_cons.1 (InB_cons.1 c7.2).2).1
 have c73 := (InB_cons.1 (InB_cons.1 (InB_cons.1 c7.2).2).2).1
 by_cases c8 : entB m.lastTerm m.term m.entries ∧ m.entries.length ≤ 4
 case neg => rw [Yk c8, Yk (p := FineM m n) fun h => c8 ⟨h.ents, h.few⟩]; rfl
 rw [Vb c8]
 have yes : ∀ (d1 : m.kind ≠ 3 → m.entries.length = 0 ∧ m.commit = 0) (d2 : m.okk = true → m.kind = 2 ∨ m.kind = 4), (if m.kind = 5 then (if 0 < m.snap.index then some (Za8 m.snap) else some false) else some (decide (m.snap = ⟨0, 0, 0, 0, false⟩))) = some (cdec (FineM m n)) := by
  intro d1 d2
  by_cases e1 : m.kind = 5
  ·rw [if_pos e1]
   by_cases e2 : 0 < m.snap.index
   ·rw [if_pos e2]
    cases e3 : Za8 m.snap with
    | true => rw [Vb (p := FineM m n) ⟨c1, c21, c22, c3, c4, c5, c6, c71, c72, c73, c8.1, c8.2, d1, d2, fun _ => ⟨e2, e3⟩, fun h => (h e1).elim⟩]
    | false => rw [Yk (p := FineM m n) fun h => by have h2 := (h.snap e1).2; rw [e3] at h2; cases h2]
   ·rw [if_neg e2, Yk (p := FineM m n) fun h => e2 (h.snap e1).1]
  ·rw [if_neg e1, Zep]
   congr 1
   exact V2 ⟨fun e2 => ⟨c1, c21, c22, c3, c4, c5, c6, c71, c72, c73, c8.1, c8.2, d1, d2, fun h => (e1 h).elim, fun _ => e2⟩, fun h => h.nosnap e1⟩
 simp only [Bool.not_true, cond_false, Bool.cond_decide]
 by_cases d1 : m.kind = 3
 ·rw [if_neg (fun h => h d1)]
  cases d2 : m.okk with
  | false => exact yes (fun h => (h d1).elim) (fun h => by rw [d2] at h; cases h)
  | true =>
   rw [if_pos (by omega), if_pos (by omega), Yk (p := FineM m n) fun h => by have := h.okk d2; omega]; rfl
 ·rw [if_pos d1]
  by_cases d3 : (0 : Int) < (m.entries.length : Int)
  ·rw [if_pos d3, Yk (p := FineM m n) fun h => by have := (h.app d1).1; omega]
  rw [if_neg d3]
  by_cases d4 : 0 < m.commit
  ·rw [if_pos d4, Yk (p := FineM m n) fun h => by have := (h.app d1).2; omega]
  rw [if_neg d4]
  have d5 : m.kind ≠ 3 → m.entries.length = 0 ∧ m.commit = 0 := fun _ => ⟨by omega, by omega⟩
  cases d2 : m.okk with
  | false => exact yes d5 (fun h => by rw [d2] at h; cases h)
  | true =>
   show (if m.kind ≠ 2 then _ else _) = _
   by_cases d6 : m.kind = 2
   ·rw [if_neg (fun h => h d6)]; exact yes d5 (fun _ => .inl d6)
   ·rw [if_pos d6]
    by_cases d7 : m.kind = 4
    ·rw [if_neg (fun h => h d7)]; exact yes d5 (fun _ => .inr d7)
    ·rw [if_pos d7, Yk (p := FineM m n) fun h => by have := h.okk d2; omega]
end
section
open Go Go.RowKit
set_option maxRecDepth 100000
def ToC (x : Co) (m : Ms) : Prop := m.dst = x.id ∧ RightC x ∧ FineM m x.n
theorem p_To (x : Co) (m : Ms) (hx : BdC x) (hm : BdM m) : Zca x m = some (cdec (ToC x m)) := by
 simp only [Zca, Zfh x hx, p_mFine m x.n hm, Option.bind_some, Bool.cond_decide]
 by_cases c1 : m.dst = x.id
 case neg => rw [if_pos c1, Yk fun h => c1 h.1]
 rw [if_neg (fun h => h c1)]
 unfold Zd4 fineM
 by_cases c2 : RightC x
 case neg => rw [Yk c2, Yk (p := ToC x m) fun h => c2 h.2.1]; rfl
 rw [Vb c2]
 show some _ = some _
 congr 1
 exact V2 ⟨fun h => ⟨c1, c2, h⟩, fun h => h.2.2⟩
open Classical in
noncomputable def hearC (x : Co) (m : Ms) : Co := if ToC x m then { x with caps := x.caps.set (m.frm - 1).toNat m.cap } else x
theorem idx_in {α : Type} (l : List α) (i : Int) (h : 1 ≤ i ∧ i ≤ (l.length : Int)) (hl : l.length ≤ 1000000) : ∃ e, idx l (i - 1) = some e ∧ l[(i - 1).toNat]? = some e ∧ IntKind.wrap .i64 (i - 1) = i - 1 := by
 have hw : i - 1 = (((i - 1).toNat : Nat) : Int) := by omega
 obtain ⟨e, he, _⟩ := Xq (show (i - 1).toNat < l.length by omega)
 exact ⟨e, by rw [hw, Zau]; exact he, he, J2 (by omega)⟩
theorem p_Hear (x : Co) (m : Ms) (hx : BdC x) (hm : BdM m) : Zcx x m = some (hearC x m) := by
 simp only [Zcx, p_To x m hx hm, p_mOwn x hx, Zfh x hx, Option.bind_some]
 unfold hearC
 by_cases c1 : ToC x m
 ·rw [Vb c1, if_pos c1]
  unfold Zd4
  rw [Vb c1.2.1]
  obtain ⟨e, he, _, hw⟩ := idx_in x.caps m.frm (by have := c1.2.2.frm; have := c1.2.1.lc; omega) hx.lc
  simp only [cond_true, he, Option.bind_some, hw]
  rfl
 ·rw [Yk c1, if_neg c1]; rfl
theorem hear_right (x : Co) (m : Ms) (h : RightC x) : RightC (hearC x m) := by
 unfold hearC
 split
 ·rename_i c
  have hf := c.2.2
  refine ⟨h.n, h.id, h.role, h.bin, h.tup, h.st, h.lv, h.ln, h.lm, ?_, h.next, h.mtch, InB.set h.caps (by have := hf.cap; omega), ?_, h.lead⟩
  ·dsimp only; rw [List.length_set]; exact h.lc
  ·dsimp only
   rw [List.getElem?_set_ne]
   ·exact h.own
   ·have h1 := hf.ne; have h2 := c.1; have h3 := hf.frm; have h4 := h.id; omega
 ·exact h
end
section
open Go Go.RowKit
set_option maxRecDepth 100000
theorem q_Append (x : Tu) (l : List En) (h : x.log.length ≤ 1000000 ∧ l.length ≤ 300) : V8 x l = some (Zb4 x (some { x with log := x.log ++ l }), chgE x (some { x with log := x.log ++ l })) := by unfold V8; rw [decide_eq_true h]; rfl
theorem p_tTermAt (x : Tu) (i : Int) (h : bdT x) : Zar x i = some ((Zba x i).getD 0, (Zba x i).isSome) := by
 obtain ⟨h1, h2, h3⟩ := h
 unfold Zar m_tuple_At Zba
 rw [p_tLast x ⟨h1, h2, h3⟩]
 unfold Tu.last
 simp only [Option.bind_some, Bool.cond_decide]
 by_cases hi : i = x.snap.index
 ·rw [if_pos hi, if_pos hi]; rfl
 ·rw [if_neg hi, if_neg hi]
  by_cases h4 : i ≤ x.snap.index
  ·rw [if_pos h4, if_neg (by omega)]; rfl
  ·rw [if_neg h4]
   by_cases h5 : x.snap.index + (x.log.length : Int) < i
   ·rw [if_pos h5, if_neg (by omega)]; rfl
   ·rw [if_neg h5, if_pos (by omega)]
    obtain ⟨k, hk⟩ : ∃ k : Nat, i = x.snap.index + 1 + k := ⟨(i - x.snap.index - 1).toNat, by omega⟩
    have e1 : IntKind.wrap .i64 (i - x.snap.index) = i - x.snap.index := J2 (by omega)
    have e2 : IntKind.wrap .i64 (i - x.snap.index - 1) = (k : Int) := by rw [J2 (by omega)]; omega
    have e3 : (i - x.snap.index - 1).toNat = k := by omega
    rw [e1, e2, e3, Zau]
    obtain ⟨e, he, _⟩ := Xq (show k < x.log.length by omega)
    rw [he]; rfl
theorem chg_eq (x : Tu) (res : Option Tu) : (Zb4 x res, chgE x res) = if Jm x = true then (match res with | some y => if Jm y = true then (y, (0 : Int)) else (x, 2) | none => (x, 2)) else (x, 2) := by
 unfold Zb4 chgE
 by_cases hT : Jm x = true
 ·rw [if_pos hT]
  cases res with
  | none =>
   have : Zb7 x none = none := by unfold Zb7; rw [if_pos hT]
   rw [this]
  | some y =>
   by_cases hy : Jm y = true
   ·have : Zb7 x (some y) = some y := by unfold Zb7; rw [if_pos hT]; exact if_pos hy
    rw [this]; dsimp only; rw [if_pos hy]
   ·have : Zb7 x (some y) = none := by unfold Zb7; rw [if_pos hT]; exact if_neg hy
    rw [this]; dsimp only; rw [if_neg hy]
 ·have : Zb7 x res = none := if_neg hT
  rw [this, if_neg hT]
theorem chg_none (x : Tu) : (Zb4 x none, chgE x none) = (x, (2 : Int)) := by
 rw [chg_eq]; split <;> rfl
theorem chg_some (x y : Tu) : (Zb4 x (some y), chgE x (some y)) = if Jm x = true then (if Jm y = true then (y, (0 : Int)) else (x, 2)) else (x, 2) := by rw [chg_eq]
theorem commit_bd {x : Co} (h : RightC x) : x.tuple.snap.index ≤ x.commit ∧ x.commit ≤ x.tuple.last := by
 have := h.st
 unfold stOf at this
 split at this
 ·assumption
 ·cases this
theorem InB.mono {l : List Int} {a b c d : Int} (h : InB l a b) (h1 : c ≤ a) (h2 : b ≤ d) : InB l c d := fun x hx => by have := h x hx; omega
end
section
open Go Go.RowKit
set_option maxRecDepth 100000
theorem q_Cut (x : Tu) (i : Int) (h : x.log.length ≤ 1000000) : Zcd x i = some (Zb4 x (Zgh x i), chgE x (Zgh x i)) := by unfold Zcd; rw [decide_eq_true h]; rfl
theorem q_Hard (x : Tu) (t v : Int) (h : x.log.length ≤ 1000000) : Zcl x t v = some (Zb4 x (hardR x t v), chgE x (hardR x t v)) := by unfold Zcl; rw [decide_eq_true h]; rfl
theorem p_fits (x : Co) (m : Ms) (hx : BdC x) (hm : BdM m) : Zdv x m = some (cdec (ToC x m)) := by
 simp only [Zdv, Zfh x hx, p_mFine m x.n hm, Option.bind_some, Bool.cond_decide]
 by_cases c1 : m.dst = x.id
 case neg => rw [if_neg c1, Yk fun h => c1 h.1]
 rw [if_pos c1]
 unfold Zd4 fineM
 by_cases c2 : FineM m x.n
 case neg => rw [Yk c2, Yk (p := ToC x m) fun h => c2 h.2.2]; rfl
 rw [Vb c2]
 show some _ = some _
 congr 1
 exact V2 ⟨fun h => ⟨c1, h, c2⟩, fun h => h.2.1⟩
theorem hard_yes (x : Tu) (t v : Int) (hx : Jm x = true) (h : x.term < t ∨ t = x.term ∧ (x.vote = 0 ∨ x.vote = v)) (ht : t ≤ 1073741824) (hv : 0 ≤ v ∧ v ≤ 5) : Jm { x with term := t, vote := v } = true ∧ Zcl x t v = some ({ x with term := t, vote := v }, 0) := by
 obtain ⟨g1, g2, g3, g4⟩ := (Zfj x).1 hx
 have hT : Jm { x with term := t, vote := v } = true := (Zfj _).2 ⟨g1, ⟨g2.1, g2.2.1, hv.1, hv.2, ht⟩, g3, by dsimp only; omega⟩
 refine ⟨hT, ?_⟩
 rw [q_Hard x t v (by omega)]
 have hr : hardR x t v = some { x with term := t, vote := v } := by unfold hardR; rw [if_pos h]
 have := chg_yes x _ _ hx hr hT
 rw [this.1, this.2]
theorem hear_no (x : Co) (m : Ms) (h : ¬ ToC x m) : hearC x m = x := by unfold hearC; rw [if_neg h]
theorem hear_eq (x : Co) (m : Ms) (h : ToC x m) : hearC x m = { x with caps := x.caps.set (m.frm - 1).toNat m.cap } := by unfold hearC; rw [if_pos h]
open Classical in
noncomputable def Vn (x : Co) (m : Ms) : Co := if ToC x m ∧ x.tuple.term < m.term then { x with caps := x.caps.set (m.frm - 1).toNat m.cap, tuple := { x.tuple with term := m.term, vote := 0 }, role := 0, votes := List.replicate x.n.toNat false } else hearC x m
theorem p_Meet (x : Co) (m : Ms) (hx : BdC x) (hm : BdM m) : Zcn x m = some (Vn x m) := by
 simp only [Zcn, p_mOwn x hx, p_fits x m hx hm, p_Hear x m hx hm, Option.bind_some, Bool.cond_decide]
 unfold Vn
 by_cases c1 : ToC x m
 case neg => rw [Yk c1, if_neg (show ¬ (ToC x m ∧ x.tuple.term < m.term) from fun h => c1 h.1), hear_no x m c1]; rfl
 rw [Vb c1]
 simp only [Bool.not_true, cond_false]
 rw [hear_eq x m c1]
 by_cases c2 : x.tuple.term < m.term
 ·rw [if_pos (show ToC x m ∧ x.tuple.term < m.term from ⟨c1, c2⟩), if_pos (show x.tuple.term < m.term from c2)]
  have hH := (hard_yes x.tuple m.term 0 c1.2.1.tup (.inl c2) c1.2.2.term.2 (by omega)).2
  have hn := c1.2.1.n
  obtain ⟨N, hN⟩ : ∃ N : Nat, x.n = (N : Int) := ⟨x.n.toNat, by omega⟩
  have hk : makeI false x.n = some (List.replicate x.n.toNat false) := by rw [hN, makeI_nat _ N (by omega), Int.toNat_natCast]
  simp only [hH, hk, Option.bind_some]
 ·rw [if_neg (show ¬ (ToC x m ∧ x.tuple.term < m.term) from fun h => c2 h.2), if_neg (show ¬ x.tuple.term < m.term from c2)]
theorem meet_right (x : Co) (m : Ms) (h : RightC x) : RightC (Vn x m) := by
 unfold Vn
 split
 ·rename_i c
  have hh := hear_right x m h
  rw [hear_eq x m c.1] at hh
  have hn := h.n
  refine ⟨h.n, h.id, by show (0 : Int) ≤ 2; decide, h.bin, (hard_yes x.tuple m.term 0 h.tup (.inl c.2) c.1.2.2.term.2 (by omega)).1, h.st, ?_, h.ln, h.lm, hh.lc, h.next, h.mtch, hh.caps, hh.own, .inl rfl⟩
  dsimp only; rw [List.length_replicate]; omega
 ·exact hear_right x m h
structure MeetF (x y : Co) : Prop where
 id : y.id = x.id
 n : y.n = x.n
 binary : y.binary = x.binary
 commit : y.commit = x.commit
 applied : y.applied = x.applied
 next : y.next = x.next
 mtch : y.mtch = x.mtch
 snap : y.tuple.snap = x.tuple.snap
 log : y.tuple.log = x.tuple.log
 term : x.tuple.term ≤ y.tuple.term
theorem meet_f (x : Co) (m : Ms) : MeetF x (Vn x m) := by
 unfold Vn
 split
 ·rename_i c
  exact ⟨rfl, rfl, rfl, rfl, rfl, rfl, rfl, rfl, rfl, by dsimp only; omega⟩
 ·by_cases c : ToC x m
  ·rw [hear_eq x m c]; exact ⟨rfl, rfl, rfl, rfl, rfl, rfl, rfl, rfl, rfl, Int.le_refl _⟩
  ·rw [hear_no x m c]; exact ⟨rfl, rfl, rfl, rfl, rfl, rfl, rfl, rfl, rfl, Int.le_refl _⟩
theorem MeetF.last {x y : Co} (h : MeetF x y) : y.tuple.last = x.tuple.last := by unfold Tu.last; rw [h.snap, h.log]
theorem meet_term (x : Co) (m : Ms) (h : ToC x m) : (x.tuple.term < m.term ∧ (Vn x m).tuple.term = m.term ∧ (Vn x m).tuple.vote = 0 ∧ (Vn x m).role = 0) ∨ (m.term ≤ x.tuple.term ∧ Vn x m = { x with caps := x.caps.set (m.frm - 1).toNat m.cap }) := by
 by_cases c : x.tuple.term < m.term
 ·left
  unfold Vn
  rw [if_pos ⟨h, c⟩]
  exact ⟨c, rfl, rfl, rfl⟩
 ·right
  unfold Vn
  rw [if_neg (fun h => c h.2), hear_eq x m h]
  exact ⟨by omega, rfl⟩
theorem meet_ge (x : Co) (m : Ms) (h : ToC x m) : m.term ≤ (Vn x m).tuple.term := by
 rcases meet_term x m h with ⟨_, h2, _⟩ | ⟨h1, h2⟩
 ·rw [h2]; exact Int.le_refl _
 ·rw [h2]; exact h1
def mapTo (f : Int → Int) (k : Nat) (l : List Int) : List Int := (l.take k).map f ++ l.drop k
theorem mapTo_get (f : Int → Int) (l : List Int) (k : Nat) (e : Int) (h : l[k]? = some e) : (mapTo f k l)[k]? = some e := by
 have hk := (List.getElem?_eq_some_iff.1 h).1
 unfold mapTo
 rw [List.getElem?_append_right (by rw [List.length_map, List.length_take]; omega), List.length_map, List.length_take, List.getElem?_drop, ← h]
 congr 1; omega
theorem mapTo_set (f : Int → Int) (l : List Int) (k : Nat) (e : Int) (h : l[k]? = some e) : (mapTo f k l).set k (f e) = mapTo f (k + 1) l := by
 have hk := (List.getElem?_eq_some_iff.1 h).1
 obtain ⟨e', he', hd⟩ := Xq hk
 rw [h] at he'
 obtain rfl := QJ he'
 unfold mapTo
 rw [List.set_append, if_neg (by rw [List.length_map, List.length_take]; omega), hd, List.take_add_one, h]
 have : k - ((l.take k).map f).length = 0 := by rw [List.length_map, List.length_take]; omega
 rw [this]
 simp
theorem mapTo_all (f : Int → Int) (l : List Int) (k : Nat) (h : l.length ≤ k) : mapTo f k l = l.map f := by
 unfold mapTo
 rw [List.take_of_length_le h, List.drop_eq_nil_of_le h, List.append_nil]
theorem mapTo_zero (f : Int → Int) (l : List Int) : mapTo f 0 l = l := by simp [mapTo]
theorem setI_nat {α : Type} (l : List α) (k : Nat) (v : α) : Zen l (k : Int) v = l.set k v := by unfold Zen; simp
def Zd0 (x : Co) : Co := { x with next := x.next.map (fun e => min e (x.tuple.last + 1)), mtch := x.mtch.map (fun e => min e x.tuple.last) }
theorem p_Fit_l2 (x : Co) (r : Int) (v : List Int) (hl : x.mtch.length ≤ 1000000) : ∀ (q k n : Nat), q = x.mtch.length - k → k ≤ x.mtch.length → q < n → Za7 x r v n k (mapTo (fun e => min e r) k x.mtch) = some { x with next := v, mtch := x.mtch.map (fun e => min e r) } := by
 intro q
 induction q with
 | zero =>
  intro k n hq hk hn
  obtain ⟨n, rfl⟩ : ∃ n', n = n' + 1 := ⟨n - 1, by omega⟩
  rw [Za7, mapTo_all _ _ _ (by omega)]
  simp only [Bool.cond_decide, if_neg (show ¬ (k : Int) < (x.mtch.length : Int) by omega)]
 | succ q ih =>
  intro k n hq hk hn
  obtain ⟨n, rfl⟩ : ∃ n', n = n' + 1 := ⟨n - 1, by omega⟩
  obtain ⟨e, he, _⟩ := Xq (show k < x.mtch.length by omega)
  rw [Za7]
  simp only [Bool.cond_decide, if_pos (show (k : Int) < (x.mtch.length : Int) by omega), Zau, mapTo_get _ _ _ _ he, Option.bind_some, setI_nat]
  have := mapTo_set (fun e => min e r) x.mtch k e he
  rw [this, J2 (by omega), show ((k : Int) + 1) = ((k + 1 : Nat) : Int) by omega, ih (k + 1) n (by omega) (by omega) (by omega)]
theorem p_Fit_l1 (x : Co) (r : Int) (hl : x.next.length ≤ 1000000) (hl2 : x.mtch.length ≤ 1000000) (hr : -3000000000000 ≤ r ∧ r ≤ 3000000000000) : ∀ (q k n : Nat), q = x.next.length - k → k ≤ x.next.length → q < n → Za4 x r n k (mapTo (fun e => min e (r + 1)) k x.next) = some { x with next := x.next.map (fun e => min e (r + 1)), mtch := x.mtch.map (fun e => min e r) } := by
 intro q
 induction q with
 | zero =>
  intro k n hq hk hn
  obtain ⟨n, rfl⟩ : ∃ n', n = n' + 1 := ⟨n - 1, by omega⟩
  rw [Za4, mapTo_all _ _ _ (by omega)]
  simp only [Bool.cond_decide, if_neg (show ¬ (k : Int) < (x.next.length : Int) by omega)]
  have := p_Fit_l2 x r (x.next.map fun e => min e (r + 1)) hl2 x.mtch.length 0 Xn (by omega) (by omega) (by unfold Xn; omega)
  rw [mapTo_zero] at this
  exact this
 | succ q ih =>
  intro k n hq hk hn
  obtain ⟨n, rfl⟩ : ∃ n', n = n' + 1 := ⟨n - 1, by omega⟩
  obtain ⟨e, he, _⟩ := Xq (show k < x.next.length by omega)
  rw [Za4]
  simp only [Bool.cond_decide, if_pos (show (k : Int) < (x.next.length : Int) by omega), Zau, mapTo_get _ _ _ _ he, Option.bind_some, setI_nat, J2 (n := r + 1) (by omega)]
  have := mapTo_set (fun e => min e (r + 1)) x.next k e he
  rw [this, J2 (by omega), show ((k : Int) + 1) = ((k + 1 : Nat) : Int) by omega, ih (k + 1) n (by omega) (by omega) (by omega)]
theorem p_Fit (x : Co) (h : BdC x) : Vv x = some (Zd0 x) := by
 have hb := last_bd h.tup
 have := p_Fit_l1 x x.tuple.last h.ln h.lm hb x.next.length 0 Xn (by omega) (by omega) (by have := h.ln; unfold Xn; omega)
 rw [mapTo_zero] at this
 simp only [Vv, p_mOwn x h, Option.bind_some, p_tLast x.tuple h.tup]
 exact this
theorem map_min_id {l : List Int} {lo hi : Int} (h : InB l lo hi) : l.map (fun e => min e hi) = l := by
 have : l.map (fun e => min e hi) = l.map id := List.map_congr_left (fun a ha => by have := h a ha; show min a hi = a; omega)
 rw [this, List.map_id]
theorem fit_id (x : Co) (h : RightC x) : Zd0 x = x := by
 unfold Zd0
 rw [map_min_id h.next, map_min_id h.mtch]
def backM (y : Co) (m : Ms) (k : Int) (ok : Bool) (last : Int) : Ms := ⟨k, y.id, m.frm, y.tuple.term, y.binary, last, 0, 0, ok, [], ⟨0, 0, 0, 0, false⟩⟩
end
section
open Go Go.RowKit
set_option maxRecDepth 100000
theorem p_number20 (x : Int) : Zaq x = some (numB x) := by
 unfold Zaq numB
 by_cases h : 0 ≤ x <;> simp [h]
theorem p_entries20_l1 (x : Ms) (h : x.entries.length ≤ 1000000) : ∀ (m k n : Nat) (v : Bool) (last : Int), m = x.entries.length - k → k ≤ x.entries.length → m < n → Jf x n v last k = some (cdec (entB last x.term (x.entries.drop k) ∧ x.entries.length ≤ 4)) := by
 intro m
 induction m with
 | zero =>
  intro k n v last hm hk hn
  obtain ⟨n, rfl⟩ : ∃ n', n = n' + 1 := ⟨n - 1, by omega⟩
  rw [Jf, List.drop_eq_nil_of_le (by omega)]
  simp only [Bool.cond_decide, if_neg (show ¬ ((k : Int) < (x.entries.length : Int)) by omega)]
  rw [Zep]; congr 1
  exact V2 ⟨fun h => ⟨trivial, by omega⟩, fun h => by have := h.2; omega⟩
 | succ m ih =>
  intro k n v last hm hk hn
  obtain ⟨n, rfl⟩ : ∃ n', n = n' + 1 := ⟨n - 1, by omega⟩
  obtain ⟨e, he, hd⟩ := Xq (show k < x.entries.length by omega)
  rw [Jf, hd]
  simp only [Bool.cond_decide, if_pos (show ((k : Int) < (x.entries.length : Int)) by omega), Zau, he, Option.bind_some, p_Right]
  rw [J2 (by omega), show ((k : Int) + 1) = ((k + 1 : Nat) : Int) by omega, ih (k + 1) n v e.term (by omega) (by omega) (by omega)]
  cases c1 : J1 e with
  | false => rw [Yk (p := entB last x.term (e :: x.entries.drop (k + 1)) ∧ x.entries.length ≤ 4) fun h => by have h2 := h.1.1; rw [c1] at h2; cases h2]; rfl
  | true =>
   simp only [Bool.not_true, cond_false]
   by_cases c2 : e.term < last
   ·rw [if_pos c2, Yk (p := entB last x.term (e :: x.entries.drop (k + 1)) ∧ x.entries.length ≤ 4) fun h => by have h2 := h.1.2.1; omega]
   rw [if_neg c2]
   by_cases c3 : x.term < e.term
   ·rw [if_pos c3, Yk (p := entB last x.term (e :: x.entries.drop (k + 1)) ∧ x.entries.length ≤ 4) fun h => by have h2 := h.1.2.1; omega]
   rw [if_neg c3]
   congr 1
   exact V2 ⟨fun h => ⟨⟨c1, ⟨by omega, by omega⟩, h.1⟩, h.2⟩, fun h => ⟨h.1.2.2, h.2⟩⟩
theorem p_entries20 (x : Ms) (h : x.entries.length ≤ 1000000) : Zbt x = some (cdec (entB x.lastTerm x.term x.entries ∧ x.entries.length ≤ 4)) := by
 have := p_entries20_l1 x h x.entries.length 0 Xn false x.lastTerm (by omega) (by omega) (by unfold Xn; omega)
 unfold Zbt
 simpa using this
theorem numB_no {x : Int} (h : numB x = false) : ¬ (0 ≤ x ∧ x ≤ 1073741824) := fun h2 => by rw [numB, decide_eq_true h2] at h; cases h
theorem numB_yes {x : Int} (h : numB x = true) : 0 ≤ x ∧ x ≤ 1073741824 := of_decide_eq_true h
theorem p_Fine20 (m : Ms) (n : Int) (h : BdM m) : Zdk m n = some (fineM m n) := by
 simp only [Zdk, p_number20, p_entries20 m h.ents, p_Fine, Option.bind_some, st_zero, Bool.cond_decide]
 unfold fineM
 by_cases c0 : n < 1
 ·rw [if_pos c0, Yk (p := FineM m n) fun h => by have := h.many; omega]
 rw [if_neg c0]
 by_cases c1 : 5 < n
 ·rw [if_pos c1, Yk (p := FineM m n) fun h => by have := h.many; omega]
 rw [if_neg c1]
 by_cases c2 : m.frm < 1
 ·rw [if_pos c2, Yk (p := FineM m n) fun h => by have := h.frm; omega]
 rw [if_neg c2]
 by_cases c3 : n < m.frm
 ·rw [if_pos c3, Yk (p := FineM m n) fun h => by have := h.frm; omega]
 rw [if_neg c3]
 by_cases c4 : m.dst < 1
 ·rw [if_pos c4, Yk (p := FineM m n) fun h => by have := h.dst; omega]
 rw [if_neg c4]
 by_cases c5 : n < m.dst
 ·rw [if_pos c5, Yk (p := FineM m n) fun h => by have := h.dst; omega]
 rw [if_neg c5]
 by_cases c6 : m.frm = m.dst
 ·rw [if_pos c6, Yk (p := FineM m n) fun h => h.ne c6]
 rw [if_neg c6]
 by_cases c7 : m.kind < 1
 ·rw [if_pos c7, Yk (p := FineM m n) fun h => by have := h.kind; omega]
 rw [if_neg c7]
 by_cases c8 : 6 ≤ m.kind
 ·rw [if_pos c8, Yk (p := FineM m n) fun h => by have := h.kind; omega]
 rw [if_neg c8]
 by_cases c9 : m.term < 1
 ·rw [if_pos c9, Yk (p := FineM m n) fun h => by have := h.term; omega]
 rw [if_neg c9]
 by_cases c10 : 1073741824 < m.term
 ·rw [if_pos c10, Yk (p := FineM m n) fun h => by have := h.term; omega]
 rw [if_neg c10]
 by_cases c11 : m.cap < 1
 ·rw [if_pos c11, Yk (p := FineM m n) fun h => by have := h.cap; omega]
 rw [if_neg c11]
 by_cases c12 : 2 < m.cap
 ·rw [if_pos c12, Yk (p := FineM m n) fun h => by have := h.cap; omega]
 rw [if_neg c12]
 cases d0 : numB m.last with
 | false => rw [Yk (p := FineM m n) fun h => numB_no d0 h.last]; rfl
 | true =>
 have d0' := numB_yes d0
 cases d1 : numB m.lastTerm with
 | false => rw [Yk (p := FineM m n) fun h => numB_no d1 h.lastTerm]; rfl
 | true =>
 have d1' := numB_yes d1
 cases d2 : numB m.commit with
 | false => rw [Yk (p := FineM m n) fun h => numB_no d2 h.commit]; rfl
 | true =>
 have d2' := numB_yes d2
 by_cases c20 : entB m.lastTerm m.term m.entries ∧ m.entries.length ≤ 4
 case neg => rw [Yk c20, Yk (p := FineM m n) fun h => c20 ⟨h.ents, h.few⟩]; rfl
 rw [Vb c20]
 simp only [Bool.not_true, cond_false]
 have yes : ∀ (d1 : m.kind ≠ 3 → m.entries.length = 0 ∧ m.commit = 0) (d2 : m.okk = true → m.kind = 2 ∨ m.kind = 4), (if m.kind = 5 then (cond (Za8 m.snap) (some (decide (0 < m.snap.index))) (some false)) else some (decide (m.snap = ⟨0, 0, 0, 0, false⟩))) = some (cdec (FineM m n)) := by
  intro d1 d2
  have mk : (m.kind = 5 → 0 < m.snap.index ∧ Za8 m.snap = true) → (m.kind ≠ 5 → m.snap = ⟨0, 0, 0, 0, false⟩) → FineM m n := fun s1 s2 =>
   ⟨⟨by omega, by omega⟩, ⟨by omega, by omega⟩, ⟨by omega, by omega⟩, c6, ⟨by omega, by omega⟩, ⟨by omega, by omega⟩, ⟨by omega, by omega⟩, d0', d1', d2', c20.1, c20.2, d1, d2, s1, s2⟩
  by_cases e1 : m.kind = 5
  ·rw [if_pos e1]
   cases e3 : Za8 m.snap with
   | true =>
    simp only [cond_true]
    rw [Zep]
    congr 1
    exact V2 ⟨fun e2 => mk (fun _ => ⟨e2, e3⟩) (fun h => (h e1).elim), fun h => (h.snap e1).1⟩
   | false => rw [Yk (p := FineM m n) fun h => by have h2 := (h.snap e1).2; rw [e3] at h2; cases h2]; rfl
  ·rw [if_neg e1, Zep]
   congr 1
   exact V2 ⟨fun e2 => mk (fun h => (e1 h).elim) (fun _ => e2), fun h => h.nosnap e1⟩
 by_cases e1 : m.kind = 3
 ·rw [if_neg (fun h => h e1)]
  cases e2 : m.okk with
  | false => exact yes (fun h => (h e1).elim) (fun h => by rw [e2] at h; cases h)
  | true =>
   simp only [cond_true]
   rw [if_pos (by omega), if_pos (by omega), Yk (p := FineM m n) fun h => by have := h.okk e2; omega]
 ·rw [if_pos e1]
  by_cases e3 : (0 : Int) < (m.entries.length : Int)
  ·rw [if_pos e3, Yk (p := FineM m n) fun h => by have := (h.app e1).1; omega]
  rw [if_neg e3]
  by_cases e4 : 0 < m.commit
  ·rw [if_pos e4, Yk (p := FineM m n) fun h => by have := (h.app e1).2; omega]
  rw [if_neg e4]
  have e5 : m.kind ≠ 3 → m.entries.length = 0 ∧ m.commit = 0 := fun _ => ⟨by omega, by omega⟩
  cases e2 : m.okk with
  | false => exact yes e5 (fun h => by rw [e2] at h; cases h)
  | true =>
   simp only [cond_true]
   by_cases e6 : m.kind = 2
   ·rw [if_neg (fun h => h e6)]; exact yes e5 (fun _ => .inl e6)
   ·rw [if_pos e6]
    by_cases e7 : m.kind = 4
    ·rw [if_neg (fun h => h e7)]; exact yes e5 (fun _ => .inr e7)
    ·rw [if_pos e7, Yk (p := FineM m n) fun h => by have := h.okk e2; omega]
theorem p_At12x (t : Tu) (h : bdT t) (k : Nat) (e : En) (he : t.log[k]? = some e) : Zb9 t (t.snap.index + 1 + k) = some (e, true) := by
 obtain ⟨h1, h2, h3⟩ := h
 have hk := (List.getElem?_eq_some_iff.1 he).1
 simp only [Zb9, Zeq t ⟨h1, h2, h3⟩, Option.bind_some, Bool.cond_decide, if_neg (show ¬ t.snap.index + 1 + (k : Int) ≤ t.snap.index by omega), Tu.last, if_neg (show ¬ t.snap.index + (t.log.length : Int) < t.snap.index + 1 + (k : Int) by omega), J2 (n := t.snap.index + 1 + (k : Int) - t.snap.index) (by omega), J2 (n := t.snap.index + 1 + (k : Int) - t.snap.index - 1) (by omega), show t.snap.index + 1 + (k : Int) - t.snap.index - 1 = (k : Int) by omega, J2 (n := (k : Int)) (by omega), Zau, he]
end
section
open Go Go.RowKit
set_option maxRecDepth 100000
theorem Zgo : Xu = some true := by decide +kernel
theorem fit_bd (x : Co) (h : BdC x) : BdC (Zd0 x) := ⟨h.tup, h.lv, by show (x.next.map _).length ≤ _; rw [List.length_map]; exact h.ln, by show (x.mtch.map _).length ≤ _; rw [List.length_map]; exact h.lm, h.lc⟩
theorem fit_twice (x : Co) : Zd0 (Zd0 x) = Zd0 x := by
 have h : ∀ (l : List Int) (a : Int), (l.map fun e => min e a).map (fun e => min e a) = l.map fun e => min e a := fun l a => by
  rw [List.map_map]
  refine List.map_congr_left fun e _ => ?_
  show min (min e a) a = min e a
  omega
 unfold Zd0
 dsimp only
 rw [h, h]
theorem fits_l2 (x : Co) (hx : BdC x) : ∀ (q k n : Nat) (v : Bool), q = x.mtch.length - k → k ≤ x.mtch.length → q < n → Vt x (Zd0 x) x.tuple.last n v k = some true := by
 have hlm := hx.lm
 intro q
 induction q with
 | zero =>
  intro k n v hq hk hn
  obtain ⟨n, rfl⟩ : ∃ n', n = n' + 1 := ⟨n - 1, by omega⟩
  have same := p_Same20 x x hx
  rw [decide_eq_true rfl] at same
  have e : (⟨(Zd0 x).id, (Zd0 x).n, (Zd0 x).role, (Zd0 x).binary, (Zd0 x).tuple, (Zd0 x).commit, (Zd0 x).applied, (Zd0 x).votes, x.next, x.mtch, (Zd0 x).caps⟩ : Co) = x := rfl
  rw [Vt]
  simp only [Bool.cond_decide, if_neg (show ¬ (k : Int) < (x.mtch.length : Int) by omega), e, same, cond_true, p_Right20 x hx, p_Fit x hx, Zgo, Option.bind_some]
  unfold Zd4
  by_cases h : RightC x
  ·rw [Vb h, fit_id x h, same]; rfl
  ·rw [Yk h]; rfl
 | succ q ih =>
  intro k n v hq hk hn
  obtain ⟨n, rfl⟩ : ∃ n', n = n' + 1 := ⟨n - 1, by omega⟩
  obtain ⟨e, he, _⟩ := Xq (show k < x.mtch.length by omega)
  have hih := ih (k + 1) n v (by omega) (by omega) (by omega)
  have w1 : IntKind.wrap .i64 ((k : Int) + 1) = ((k + 1 : Nat) : Int) := by rw [J2 (by omega)]; omega
  have g : (Zd0 x).mtch[k]? = some (min e x.tuple.last) := by show (x.mtch.map _)[k]? = _; rw [List.getElem?_map, he]; rfl
  rw [Vt]
  simp only [Bool.cond_decide, if_pos (show (k : Int) < (x.mtch.length : Int) by omega), Zau, g, he, Option.bind_some, if_neg (show ¬ x.tuple.last < min e x.tuple.last by omega), if_neg (show ¬ e < min e x.tuple.last by omega), w1, hih]
  by_cases c : e ≤ x.tuple.last
  ·rw [if_pos c, if_neg (show ¬ min e x.tuple.last ≠ e by omega)]
  ·rw [if_neg c]
theorem fits_l1 (x : Co) (hx : BdC x) : ∀ (q k n : Nat) (v : Bool), q = x.next.length - k → k ≤ x.next.length → q < n → Vu x (Zd0 x) x.tuple.last n v k = some true := by
 have hln := hx.ln
 have hlb := last_bd hx.tup
 intro q
 induction q with
 | zero =>
  intro k n v hq hk hn
  obtain ⟨n, rfl⟩ : ∃ n', n = n' + 1 := ⟨n - 1, by omega⟩
  rw [Vu]
  simp only [Bool.cond_decide, if_neg (show ¬ (k : Int) < (x.next.length : Int) by omega)]
  exact fits_l2 x hx x.mtch.length 0 Xn v (by omega) (by omega) (by have := hx.lm; unfold Xn; omega)
 | succ q ih =>
  intro k n v hq hk hn
  obtain ⟨n, rfl⟩ : ∃ n', n = n' + 1 := ⟨n - 1, by omega⟩
  obtain ⟨e, he, _⟩ := Xq (show k < x.next.length by omega)
  have hih := ih (k + 1) n v (by omega) (by omega) (by omega)
  have w1 : IntKind.wrap .i64 ((k : Int) + 1) = ((k + 1 : Nat) : Int) := by rw [J2 (by omega)]; omega
  have g : (Zd0 x).next[k]? = some (min e (x.tuple.last + 1)) := by show (x.next.map _)[k]? = _; rw [List.getElem?_map, he]; rfl
  rw [Vu]
  simp only [Bool.cond_decide, if_pos (show (k : Int) < (x.next.length : Int) by omega), Zau, g, he, Option.bind_some, J2 (n := x.tuple.last + 1) (by omega), if_neg (show ¬ x.tuple.last + 1 < min e (x.tuple.last + 1) by omega), if_neg (show ¬ e < min e (x.tuple.last + 1) by omega), w1, hih]
  by_cases c : e ≤ x.tuple.last + 1
  ·rw [if_pos c, if_neg (show ¬ min e (x.tuple.last + 1) ≠ e by omega)]
  ·rw [if_neg c]
theorem p_ReplFit (x : Co) : Zc2 x = some true := by
 obtain ⟨g, hg⟩ := p_Great_some x
 unfold Zc2
 simp only [hg, Zgo, Option.bind_some]
 cases g with
 | true => rfl
 | false =>
 have hbd := (p_Great_no x hg).1
 have e1 : ((Zd0 x).next.length : Int) = (x.next.length : Int) := by show (((x.next.map _).length : Nat) : Int) = _; rw [List.length_map]
 have e2 : ((Zd0 x).mtch.length : Int) = (x.mtch.length : Int) := by show (((x.mtch.map _).length : Nat) : Int) = _; rw [List.length_map]
 have same := p_Same20 (Zd0 x) (Zd0 x) (fit_bd x hbd)
 rw [decide_eq_true rfl] at same
 have := fits_l1 x hbd x.next.length 0 Xn false (by omega) (by omega) (by have := hbd.ln; unfold Xn; omega)
 simp only [cond_false, p_Fit x hbd, Zeq x.tuple hbd.tup, p_Fit _ (fit_bd x hbd), fit_twice, e1, e2, same, Option.bind_some, Bool.cond_decide, ne_eq, not_true, if_false, Bool.not_true]
 exact this
end

end Go.Proofs.Ytamjlcaoieliaaa
