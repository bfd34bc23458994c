/- Texts of one claim put together. -/
import Derived.Test.YtamjlcaoieliaaaGreatGpXMr
namespace Go.Proofs.YtamjlcaoieliaaaGreat
open Go Go.RowKit
set_option maxRecDepth 100000
theorem idx_one23 (a : Ms) : idx [a] 0 = some a := rfl
theorem back_bd23 (y : Co) (m : Ms) (k : Int) (hk : 0 ≤ k ∧ k ≤ 255) (ok : Bool) (l : Int) : BdM (Zac y m k ok l) := ⟨hk, by show (0 : Nat) ≤ 1000000; omega⟩
theorem all_one (a : Ms) (h : a.entries.length ≤ 1000000) : Zbi [a] [a] = some true := by
 have e : Xo = Xo - 2 + 1 + 1 := by unfold Xo; rfl
 unfold Zbi
 rw [e, Zaq, Zaq]
 have h0 : idx [a] 0 = some a := rfl
 have w1 : IntKind.wrap .i64 1 = 1 := Zah (by omega)
 simp [h0, p_Alike_self a h, w1]
theorem all_nil : Zbi [] [] = some true := by
 have e : Xo = Xo - 1 + 1 := by unfold Xo; rfl
 unfold Zbi
 rw [e, Zaq]
 simp
structure HasT (y : Co) (m : Ms) (t : Tu) : Prop where
 tup : Jm t = true
 snap : t.snap = y.tuple.snap
 term : t.term = y.tuple.term
 vote : t.vote = y.tuple.vote
 pre : t.log.take (y.commit - y.tuple.snap.index).toNat = y.tuple.log.take (y.commit - y.tuple.snap.index).toNat
 len : y.commit ≤ t.last
 has : ∀ j, j < m.entries.length → HasJ t m j
 last : m.last + (m.entries.length : Int) ≤ t.last
 tm : Zaa t m.last = Zaa y.tuple m.last
theorem termAt_pre {t u : Tu} {k : Nat} (hs : t.snap = u.snap) (ht : t.log.take k = u.log.take k) (h1 : k ≤ t.log.length) (h2 : k ≤ u.log.length) {i : Int} (hi : i ≤ u.snap.index + k) : Zaa t i = Zaa u i := by
 unfold Zaa Tu.last
 rw [hs]
 by_cases c : i = u.snap.index
 ·rw [if_pos c, if_pos c]
 rw [if_neg c, if_neg c]
 by_cases c2 : u.snap.index < i
 ·rw [if_pos (by omega), if_pos (by omega)]
  have e1 := congrArg (fun l => l[(i - u.snap.index - 1).toNat]?) ht
  rw [List.getElem?_take, List.getElem?_take, if_pos (by omega), if_pos (by omega)] at e1
  rw [e1]
 ·rw [if_neg (by omega), if_neg (by omega)]
theorem all_has (y : Co) (m : Ms) (hy : RightC y) (hl : m.last ≤ y.tuple.last) (ho : OtherS y.tuple m m.entries.length) : HasT y m y.tuple := by
 have hcb := Zfj hy
 refine ⟨hy.tup, rfl, rfl, rfl, rfl, hcb.2, ho.has, ?_, rfl⟩
 by_cases c : m.entries.length = 0
 ·omega
 ·have hlen : y.tuple.last = y.tuple.snap.index + y.tuple.log.length := rfl
  rcases ho.has (m.entries.length - 1) (by omega) with h | ⟨e, _, h⟩
  ·omega
  ·have := termAt_bd h
   omega
theorem put_has (y : Co) (m : Ms) (hy : RightC y) (hl : m.last ≤ y.tuple.last) (i : Nat) (ho : OtherS y.tuple m i) (hi : i < m.entries.length) (hc : y.commit < m.last + 1 + i) (hf : Jm (Zdz y.tuple m i) = true) : HasT y m (Zdz y.tuple m i) := by
 have hcb := Zfj hy
 have hlen : y.tuple.last = y.tuple.snap.index + y.tuple.log.length := rfl
 obtain ⟨a1, a2⟩ := other_at y.tuple m i hl ho hi
 obtain ⟨k, hk⟩ : ∃ k : Nat, m.last + (i : Int) = y.tuple.snap.index + (k : Int) := ⟨(m.last + (i : Int) - y.tuple.snap.index).toNat, by omega⟩
 have hkt : (m.last + (i : Int) - y.tuple.snap.index).toNat = k := by omega
 have hkl : k ≤ y.tuple.log.length := by omega
 have hlog : (Zdz y.tuple m i).log = y.tuple.log.take k ++ m.entries.drop i := by unfold Zdz; rw [hkt]
 have hll : (Zdz y.tuple m i).log.length = k + (m.entries.length - i) := by rw [hlog, List.length_append, List.length_take, List.length_drop]; omega
 have hlast : (Zdz y.tuple m i).last = y.tuple.snap.index + ((k + (m.entries.length - i) : Nat) : Int) := by unfold Tu.last; rw [hll]; rfl
 have htk : ∀ q, q ≤ k → (Zdz y.tuple m i).log.take q = y.tuple.log.take q := fun q hq => by
  rw [hlog, List.take_append_of_le_length (by rw [List.length_take]; omega), List.take_take]
  congr 1; omega
 have hpre : ∀ j : Int, j ≤ y.tuple.snap.index + k → Zaa (Zdz y.tuple m i) j = Zaa y.tuple j := fun j hj => termAt_pre (t := Zdz y.tuple m i) (u := y.tuple) (k := k) rfl (htk k (Nat.le_refl _)) (by omega) hkl hj
 refine ⟨hf, rfl, rfl, rfl, htk _ (by omega), by rw [hlast]; omega, fun j hj => ?_, by rw [hlast]; omega, hpre _ (by omega)⟩
 by_cases c : j < i
 ·rcases ho.has j c with h | ⟨e, he, h⟩
  ·exact .inl h
  ·exact .inr ⟨e, he, by rw [hpre _ (by omega)]; exact h⟩
 ·right
  obtain ⟨e, he, _⟩ := Xi hj
  refine ⟨e, he, ?_⟩
  have hg : (Zdz y.tuple m i).log[k + (j - i)]? = some e := by
   rw [hlog, List.getElem?_append_right (by rw [List.length_take]; omega), List.length_take, List.getElem?_drop, ← he]
   congr 1; omega
  unfold Zaa
  have hsn : (Zdz y.tuple m i).snap = y.tuple.snap := rfl
  rw [hsn, hlast, if_neg (by omega), if_pos (by omega), show (m.last + 1 + (j : Int) - y.tuple.snap.index - 1).toNat = k + (j - i) by omega, hg]
  rfl
theorem fin_right (y : Co) (m : Ms) (t : Tu) (hy : RightC y) (h : HasT y m t) : RightC (finC y t m) := by
 have hcb := Zfj hy
 have hxb := Zeh _ h.tup
 have hlen : t.last = t.snap.index + t.log.length := rfl
 have h1 := h.len
 have h2 := h.last
 have h3 := h.snap
 have hc : t.snap.index ≤ max y.commit (min m.commit (m.last + (m.entries.length : Int))) ∧ max y.commit (min m.commit (m.last + (m.entries.length : Int))) ≤ t.last := by rw [h3]; omega
 refine ⟨hy.n, hy.id, by show (0 : Int) ≤ 2; decide, hy.bin, h.tup, ?_, hy.lv, ?_, ?_, hy.lc, ?_, ?_, hy.caps, hy.own, .inl rfl⟩
 ·show stOf t (max y.commit (min m.commit (m.last + (m.entries.length : Int)))) = some ((stOf t (max y.commit (min m.commit (m.last + (m.entries.length : Int))))).getD ⟨0, 0, 0, 0, false⟩)
  unfold stOf
  rw [if_pos hc]
  rfl
 ·show (((y.next.map _).length : Nat) : Int) = _; rw [List.length_map]; exact hy.ln
 ·show (((y.mtch.map _).length : Nat) : Int) = _; rw [List.length_map]; exact hy.lm
 ·exact map_min_in hy.next (by show (1 : Int) ≤ t.last + 1; omega)
 ·exact map_min_in hy.mtch (by show (0 : Int) ≤ t.last; omega)
theorem role_right23 (y : Co) (h : RightC y) : RightC { y with role := 0 } := ⟨h.n, h.id, by show (0 : Int) ≤ 2; decide, h.bin, h.tup, h.st, h.lv, h.ln, h.lm, h.lc, h.next, h.mtch, h.caps, h.own, .inl rfl⟩
structure AppF (x : Co) (m : Ms) (d : Co) : Prop where
 right : RightC d
 id : d.id = x.id
 n : d.n = x.n
 caps : d.caps = x.caps.set (m.frm - 1).toNat m.cap
 mterm : m.term ≤ d.tuple.term
 term : x.tuple.term ≤ d.tuple.term
 commit : x.commit ≤ d.commit
 snap : d.tuple.snap = x.tuple.snap
 pre : d.tuple.log.take (x.commit - x.tuple.snap.index).toNat = x.tuple.log.take (x.commit - x.tuple.snap.index).toNat
 len : x.commit ≤ d.tuple.last
theorem tail_has (y : Co) (m : Ms) (d : Co) (l : List Ms) (hy : RightC y) (hl : m.last ≤ y.tuple.last) (s : TailR y m d l) : (d = { y with role := 0 } ∧ (l = [] ∨ l = [Zac y m 4 false y.tuple.last])) ∨ ∃ t, HasT y m t ∧ d = finC y t m ∧ l = [Zac { y with tuple := t } m 4 true (m.last + (m.entries.length : Int))] := by
 cases s with
 | bound i ho hi hc => exact .inl ⟨rfl, .inl rfl⟩
 | fail i ho hi hc hf => exact .inl ⟨rfl, .inr rfl⟩
 | put i ho hi hc hf => exact .inr ⟨_, put_has y m hy hl i ho hi hc hf, rfl, rfl⟩
 | all ho => exact .inr ⟨_, all_has y m hy hl ho, rfl, rfl⟩
theorem app_f (x : Co) (m : Ms) (d : Co) (l : List Ms) (h : ToC x m) (s : AppR x m d l) : AppF x m d := by
 have hy := Zef x m h.2.1
 have hf := meet_f x m
 have hc := meet_caps x m h
 have hg := meet_ge x m h
 have hcm := hf.commit
 have hcb := Zfj h.2.1
 have base : AppF x m (Yx x m) := ⟨hy, hf.id, hf.n, hc, hg, hf.term, by omega, hf.snap, by rw [hf.log], by rw [hf.last]; exact hcb.2⟩
 have base0 : AppF x m { Yx x m with role := 0 } := ⟨role_right23 _ hy, hf.id, hf.n, hc, hg, hf.term, by dsimp only; omega, hf.snap, by show (Yx x m).tuple.log.take _ = _; rw [hf.log], by show x.commit ≤ (Yx x m).tuple.last; rw [hf.last]; exact hcb.2⟩
 cases s with
 | old h1 => exact base
 | lead h1 hr => exact base
 | gap h1 hr hl => exact base0
 | mism h1 hr hl tm ht hne => exact base0
 | tail h1 hr hl hk ht =>
  rcases tail_has (Yx x m) m d l hy (by rw [hf.last]; exact hl) ht with ⟨rfl, _⟩ | ⟨t, hT, rfl, _⟩
  ·exact base0
  ·have hp := hT.pre
   rw [hf.commit, hf.snap, hf.log] at hp
   have hle := hT.len
   rw [hf.commit] at hle
   exact ⟨fin_right _ m t hy hT, hf.id, hf.n, hc, by show m.term ≤ t.term; rw [hT.term]; exact hg, by show x.tuple.term ≤ t.term; rw [hT.term]; exact hf.term, by show x.commit ≤ max (Yx x m).commit _; omega, by show t.snap = _; rw [hT.snap, hf.snap], hp, hle⟩
theorem TailR.inv {y : Co} {m : Ms} {d : Co} {l : List Ms} (s : TailR y m d l) :
  (∃ i, OtherS y.tuple m i ∧ i < m.entries.length ∧ m.last + 1 + (i : Int) ≤ y.commit ∧ d = { y with role := 0 } ∧ l = []) ∨
  (∃ i, OtherS y.tuple m i ∧ i < m.entries.length ∧ y.commit < m.last + 1 + (i : Int) ∧ Jm (Zdz y.tuple m i) = false ∧ d = { y with role := 0 } ∧ l = [Zac y m 4 false y.tuple.last]) ∨
  (∃ i, OtherS y.tuple m i ∧ i < m.entries.length ∧ y.commit < m.last + 1 + (i : Int) ∧ Jm (Zdz y.tuple m i) = true ∧ d = finC y (Zdz y.tuple m i) m ∧ l = [Zac { y with tuple := Zdz y.tuple m i } m 4 true (m.last + (m.entries.length : Int))]) ∨
  (OtherS y.tuple m m.entries.length ∧ d = finC y y.tuple m ∧ l = [Zac { y with tuple := y.tuple } m 4 true (m.last + (m.entries.length : Int))]) := by
 cases s with
 | bound i ho hi hc => exact .inl ⟨i, ho, hi, hc, rfl, rfl⟩
 | fail i ho hi hc hf => exact .inr (.inl ⟨i, ho, hi, hc, hf, rfl, rfl⟩)
 | put i ho hi hc hf => exact .inr (.inr (.inl ⟨i, ho, hi, hc, hf, rfl, rfl⟩))
 | all ho => exact .inr (.inr (.inr ⟨ho, rfl, rfl⟩))
theorem fin_again (d : Co) (m : Ms) (y : Co) (t : Tu) (hd : d = finC y t m) (hR : RightC d) : finC d d.tuple m = d := by
 have h1 : fitC { d with role := 0, tuple := d.tuple } = d := by
  have : ({ d with role := 0, tuple := d.tuple } : Co) = d := by
   have hr : d.role = 0 := by rw [hd]; rfl
   rw [← hr]
  rw [this]
  exact fit_id d hR
 have hc : max d.commit (min m.commit (m.last + (m.entries.length : Int))) = d.commit := by
  have : d.commit = max y.commit (min m.commit (m.last + (m.entries.length : Int))) := by rw [hd]; rfl
  omega
 unfold finC
 rw [h1, hc, hR.st]
 rfl
theorem app_again (x : Co) (m : Ms) (d : Co) (l : List Ms) (hm : BdM m) (h : ToC x m) (hk : m.kind = 3) (s : AppR x m d l) : Jc d m = some (d, l) := by
 have F := app_f x m d l h s
 have hto := to_again x d m h F.right F.id F.n
 have hme : Yx d m = d := meet_again d m F.mterm (fun _ => by rw [F.caps]; exact caps_met x m h)
 have hf := meet_f x m
 have hy := Zef x m h.2.1
 obtain ⟨d2, l2, h1, s2⟩ := p_App d m hm hto hk
 rw [h1]
 have hla := hf.last
 have hta : Zaa (Yx x m).tuple m.last = Zaa x.tuple m.last := by unfold Zaa Tu.last; rw [hf.snap, hf.log]
 cases s with
 | old g1 =>
  cases s2 with
  | old k1 => rw [hme, hla]
  | lead k1 => rw [hme] at k1; omega
  | gap k1 => rw [hme] at k1; omega
  | mism k1 => rw [hme] at k1; omega
  | tail k1 => rw [hme] at k1; omega
 | lead g1 gr =>
  cases s2 with
  | old k1 => rw [hme] at k1; omega
  | lead k1 kr => rw [hme]
  | gap k1 kr => rw [hme] at kr; exact (kr gr).elim
  | mism k1 kr => rw [hme] at kr; exact (kr gr).elim
  | tail k1 kr => rw [hme] at kr; exact (kr gr).elim
 | gap g1 gr gl =>
  cases s2 with
  | old k1 => rw [hme] at k1; dsimp only at k1; omega
  | lead k1 kr => rw [hme] at kr; cases kr
  | gap k1 kr kl => rw [hme]; dsimp only; rw [hla]; rfl
  | mism k1 kr kl => dsimp only at kl; omega
  | tail k1 kr kl => dsimp only at kl; omega
 | mism g1 gr gl tm gt gn =>
  cases s2 with
  | old k1 => rw [hme] at k1; dsimp only at k1; omega
  | lead k1 kr => rw [hme] at kr; cases kr
  | gap k1 kr kl => dsimp only at kl; omega
  | mism k1 kr kl => rw [hme]; rfl
  | tail k1 kr kl kk =>
   dsimp only at kk
   exact (gn (kk tm (by rw [hta]; exact gt))).elim
 | tail g1 gr gl gk gt =>
  have fin : ∀ t, HasT (Yx x m) m t → d = finC (Yx x m) t m → l = [Zac { Yx x m with tuple := t } m 4 true (m.last + (m.entries.length : Int))] → some (d2, l2) = some (d, l) := fun t hT hd hl' => by
   have dl : d.tuple.last = t.last := by rw [hd]; rfl
   have dt : d.tuple = t := by rw [hd]; rfl
   have dr : d.role = 0 := by rw [hd]; rfl
   have hhas : ∀ j, j < m.entries.length → HasJ d.tuple m j := by rw [dt]; exact hT.has
   have h4 := hT.last
   cases s2 with
   | old k1 =>
    rw [hme] at k1
    have : d.tuple.term = (Yx x m).tuple.term := by rw [dt, hT.term]
    omega
   | lead k1 kr => rw [hme, dr] at kr; cases kr
   | gap k1 kr kl => rw [dl] at kl; omega
   | mism k1 kr kl tm kt kn =>
    rw [dt, hT.tm, hta] at kt
    exact (kn (gk tm kt)).elim
   | tail k1 kr kl kk kt =>
    rw [hme] at kt
    rcases kt.inv with ⟨i2, ho2, hi2, _⟩ | ⟨i2, ho2, hi2, _⟩ | ⟨i2, ho2, hi2, _⟩ | ⟨ho2, e1, e2⟩
    ·exact (ho2.no hi2 (hhas i2 hi2)).elim
    ·exact (ho2.no hi2 (hhas i2 hi2)).elim
    ·exact (ho2.no hi2 (hhas i2 hi2)).elim
    ·have e3 : Zac d m 4 true (m.last + (m.entries.length : Int)) = Zac { Yx x m with tuple := t } m 4 true (m.last + (m.entries.length : Int)) := by rw [hd]; rfl
     rw [e1, e2, fin_again d m _ t hd F.right, hl', e3]
  have same : ∀ i, OtherS (Yx x m).tuple m i → i < m.entries.length → d = { Yx x m with role := 0 } → (∀ d2 l2, TailR d m d2 l2 → (∃ i, OtherS (Yx x m).tuple m i ∧ (d2, l2) = (d, l))) → some (d2, l2) = some (d, l) := fun i ho hi hd hcase => by
   have dr : d.role = 0 := by rw [hd]
   have dt : d.tuple = (Yx x m).tuple := by rw [hd]
   cases s2 with
   | old k1 => rw [hme, dt] at k1; omega
   | lead k1 kr => rw [hme, dr] at kr; cases kr
   | gap k1 kr kl => rw [dt] at kl; omega
   | mism k1 kr kl tm kt kn =>
    rw [dt, hta] at kt
    exact (kn (gk tm kt)).elim
   | tail k1 kr kl kk kt =>
    rw [hme] at kt
    obtain ⟨_, _, e⟩ := hcase _ _ kt
    rw [e]
  have role0 : d = { Yx x m with role := 0 } → ({ d with role := 0 } : Co) = d := fun hd => by
   have dr : d.role = 0 := by rw [hd]
   rw [← dr]
  rcases gt.inv with ⟨i, ho, hi, hc, hd, hl'⟩ | ⟨i, ho, hi, hc, hff, hd, hl'⟩ | ⟨i, ho, hi, hc, hff, hd, hl'⟩ | ⟨ho, hd, hl'⟩
  ·refine same i ho hi hd fun d3 l3 kt => ⟨i, ho, ?_⟩
   have dt : d.tuple = (Yx x m).tuple := by rw [hd]
   have dc : d.commit = (Yx x m).commit := by rw [hd]
   rcases kt.inv with ⟨i2, ho2, hi2, hc2, e1, e2⟩ | ⟨i2, ho2, hi2, hc2, _⟩ | ⟨i2, ho2, hi2, hc2, _⟩ | ⟨ho2, _⟩
   ·rw [e1, e2, role0 hd, hl']
   ·rw [dt] at ho2; have e := ho.uniq ho2; subst e; omega
   ·rw [dt] at ho2; have e := ho.uniq ho2; subst e; omega
   ·rw [dt] at ho2; have e := ho.uniq ho2; omega
  ·refine same i ho hi hd fun d3 l3 kt => ⟨i, ho, ?_⟩
   have dt : d.tuple = (Yx x m).tuple := by rw [hd]
   have dc : d.commit = (Yx x m).commit := by rw [hd]
   rcases kt.inv with ⟨i2, ho2, hi2, hc2, _⟩ | ⟨i2, ho2, hi2, hc2, hf2, e1, e2⟩ | ⟨i2, ho2, hi2, hc2, hf2, _⟩ | ⟨ho2, _⟩
   ·rw [dt] at ho2; have e := ho.uniq ho2; subst e; omega
   ·have e3 : Zac d m 4 false d.tuple.last = Zac (Yx x m) m 4 false (Yx x m).tuple.last := by rw [hd]; rfl
    rw [e1, e2, role0 hd, hl', e3]
   ·rw [dt] at ho2 hf2; have e := ho.uniq ho2; subst e; rw [hff] at hf2; cases hf2
   ·rw [dt] at ho2; have e := ho.uniq ho2; omega
  ·exact fin _ (put_has _ m hy (by rw [hla]; exact gl) i ho hi hc hff) hd hl'
  ·exact fin _ (all_has _ m hy (by rw [hla]; exact gl) ho) hd hl'
theorem p_entryAt (t : Tu) (i : Int) (h : bdT t) : (∃ k : Nat, i = t.snap.index + 1 + k ∧ ∃ e, t.log[k]? = some e ∧ Ji t i = some (e, true)) ∨ ((i ≤ t.snap.index ∨ t.last < i) ∧ Ji t i = some (⟨0, 0, 0⟩, false)) := by
 unfold Ji
 have hlen : t.last = t.snap.index + t.log.length := rfl
 by_cases c : i ≤ t.snap.index ∨ t.last < i
 ·right
  refine ⟨c, ?_⟩
  by_cases c0 : (t.log.length : Int) = 0
  ·rw [decide_eq_true c0, cond_true]
  ·have : Zcb t i = some (⟨0, 0, 0⟩, false) := by
    simp only [Zcb, Zgr t h, Option.bind_some, Bool.cond_decide]
    by_cases c1 : i ≤ t.snap.index
    ·rw [if_pos c1]
    ·rw [if_neg c1, if_pos (by omega)]
   rw [decide_eq_false c0, cond_false, this]
   rfl
 ·left
  refine ⟨(i - t.snap.index - 1).toNat, by omega, ?_⟩
  obtain ⟨e, he, _⟩ := Xi (show (i - t.snap.index - 1).toNat < t.log.length by omega)
  refine ⟨e, he, ?_⟩
  have hat := p_At12x t h _ e he
  rw [show t.snap.index + 1 + (((i - t.snap.index - 1).toNat : Nat) : Int) = i by omega] at hat
  rw [decide_eq_false (show ¬ (t.log.length : Int) = 0 by omega), cond_false, hat]
  rfl
theorem keeps_l2 (m : Ms) (d : Co) (l : List Ms) (hb : bdT d.tuple) (hl : 0 ≤ m.last ∧ m.last ≤ 1073741824) (hn : m.entries.length ≤ 20) (hh : ∀ j, j < m.entries.length → HasJ d.tuple m j) : ∀ (q k n : Nat) (v : Bool), q = m.entries.length - k → k ≤ m.entries.length → q < n → Xy m (d, l) n v k = some true := by
 intro q
 induction q with
 | zero =>
  intro k n v hq hk hn'
  obtain ⟨n, rfl⟩ : ∃ n', n = n' + 1 := ⟨n - 1, by omega⟩
  rw [Xy]
  simp only [Bool.cond_decide, if_neg (show ¬ (k : Int) < (m.entries.length : Int) by omega), Zfg, Option.bind_some]
 | succ q ih =>
  intro k n v hq hk hn'
  obtain ⟨n, rfl⟩ : ∃ n', n = n' + 1 := ⟨n - 1, by omega⟩
  obtain ⟨e, he, _⟩ := Xi (show k < m.entries.length by omega)
  have hih := ih (k + 1) n v (by omega) (by omega) (by omega)
  have w1 : IntKind.wrap .i64 ((k : Int) + 1) = ((k + 1 : Nat) : Int) := by rw [Zah (by omega)]; omega
  have w2 : IntKind.wrap .i64 (m.last + 1) = m.last + 1 := Zah (by omega)
  have w3 : IntKind.wrap .i64 (m.last + 1 + (k : Int)) = m.last + 1 + (k : Int) := Zah (by omega)
  rw [Xy]
  simp only [Bool.cond_decide, if_pos (show (k : Int) < (m.entries.length : Int) by omega), J5, he, w1, w2, w3]
  rcases p_entryAt d.tuple (m.last + 1 + (k : Int)) hb with ⟨k2, hk2, e2, he2, g⟩ | ⟨hno, g⟩
  ·have hte : e2.term = e.term := by
    rcases hh k (by omega) with h | ⟨e', he', h⟩
    ·omega
    ·rw [he] at he'
     obtain rfl := QJ he'
     have hlt := (List.getElem?_eq_some_iff.1 he2).1
     unfold Zaa Tu.last at h
     rw [if_neg (by omega), if_pos (by omega), show (m.last + 1 + (k : Int) - d.tuple.snap.index - 1).toNat = k2 by omega, he2] at h
     exact QJ h
   simp only [g, Option.bind_some, cond_true, hte, ne_eq, not_true, if_false, Bool.not_true, cond_false, hih]
  ·have hle : m.last + 1 + (k : Int) ≤ d.tuple.snap.index := by
    rcases hh k (by omega) with h | ⟨e', he', h⟩
    ·exact h
    ·have := termAt_bd h
     omega
   simp only [g, Option.bind_some, cond_false, Bool.not_false, cond_true, if_neg (show ¬ d.tuple.snap.index < m.last + 1 + (k : Int) by omega), hih]
theorem keeps_l1 (x : Co) (m : Ms) (d : Co) (l : List Ms) (h : RightC x) (F : RightC d ∧ d.tuple.snap = x.tuple.snap ∧ d.tuple.log.take (x.commit - x.tuple.snap.index).toNat = x.tuple.log.take (x.commit - x.tuple.snap.index).toNat ∧ x.commit ≤ d.tuple.last) (hend : ∀ n v j, ¬ j ≤ x.commit → Xm x m (d, l) (n + 1) v j = some true) : ∀ (q k n : Nat) (v : Bool), (q : Int) = x.commit - (x.tuple.snap.index + k) → q < n → Xm x m (d, l) n v (x.tuple.snap.index + 1 + k) = some true := by
 obtain ⟨hR, hs, hp, hle⟩ := F
 have hcb := Zfj h
 have hxb := Zeh _ h.tup
 have hlen : x.tuple.last = x.tuple.snap.index + x.tuple.log.length := rfl
 have hlen2 : d.tuple.last = d.tuple.snap.index + d.tuple.log.length := rfl
 intro q
 induction q with
 | zero =>
  intro k n v hq hn
  obtain ⟨n, rfl⟩ : ∃ n', n = n' + 1 := ⟨n - 1, by omega⟩
  exact hend n v _ (by omega)
 | succ q ih =>
  intro k n v hq hn
  obtain ⟨n, rfl⟩ : ∃ n', n = n' + 1 := ⟨n - 1, by omega⟩
  obtain ⟨e, he, _⟩ := Xi (show k < x.tuple.log.length by omega)
  have he2 : d.tuple.log[k]? = some e := by
   have e1 := congrArg (fun l => l[k]?) hp
   rw [List.getElem?_take, List.getElem?_take, if_pos (by omega), if_pos (by omega)] at e1
   rw [e1]; exact he
  have g1 := p_At12x x.tuple h.bd.tup k e he
  have g2 : Ji d.tuple (x.tuple.snap.index + 1 + k) = some (e, true) := by
   rcases p_entryAt d.tuple (x.tuple.snap.index + 1 + k) hR.bd.tup with ⟨k2, hk2, e2, he3, g⟩ | ⟨hno, g⟩
   ·have : k2 = k := by rw [hs] at hk2; omega
    subst this
    rw [he2] at he3
    obtain rfl := QJ he3
    exact g
   ·rw [hs] at hno; omega
  have hih := ih (k + 1) n v (by omega) (by omega)
  have w1 : IntKind.wrap .i64 (x.tuple.snap.index + 1 + (k : Int) + 1) = x.tuple.snap.index + 1 + ((k + 1 : Nat) : Int) := by rw [Zah (by omega)]; omega
  rw [Xm]
  simp only [Bool.cond_decide, if_pos (show x.tuple.snap.index + 1 + (k : Int) ≤ x.commit by omega), g1, g2, Option.bind_some, Bool.not_true, cond_false, decide_true, Bool.and_true, w1, hih]
theorem p_ReplKeeps (x : Co) (m : Ms) (hk : 0 ≤ m.kind ∧ m.kind ≤ 255) : Zbz x m = some true := by
 obtain ⟨g, hg, hgb⟩ := p_great23 x m
 unfold Zbz
 simp only [hg, Zfg, Option.bind_some]
 cases g with
 | true => rfl
 | false =>
 obtain ⟨hbd, hme⟩ := hgb rfl
 have hm : BdM m := ⟨hk, by omega⟩
 simp only [cond_false, Zff x hbd, p_Own20 x hbd, Option.bind_some]
 unfold Zee
 by_cases h : RightC x
 case neg => rw [Yg h]; rfl
 rw [Xu h]
 simp only [Bool.not_true, cond_false]
 have samex := p_Same20 x x hbd
 rw [decide_eq_true rfl] at samex
 have hcb := Zfj h
 have hxb := Zeh _ h.tup
 have hlen : x.tuple.last = x.tuple.snap.index + x.tuple.log.length := rfl
 have w1 : IntKind.wrap .i64 (x.tuple.snap.index + 1) = x.tuple.snap.index + 1 + ((0 : Nat) : Int) := by rw [Zah (by omega)]; omega
 by_cases c1 : ToC x m ∧ m.kind = 3
 case neg =>
  have hno := p_App_no x m hbd hm c1
  have hl1 := keeps_l1 x m x [] h ⟨h, rfl, rfl, hcb.2⟩ (fun n v j hj => by
   rw [Xm]
   simp only [Bool.cond_decide, if_neg hj, hno, samex, all_nil, Option.bind_some, Bool.not_true, cond_false, List.length_nil, Zfg]
   rfl) (x.commit - x.tuple.snap.index).toNat 0 Xo false (by omega) (by unfold Xo; omega)
  rw [hno]
  simp only [Option.bind_some, Zff x hbd, Zee, Xu h, Bool.not_true, cond_false, samex, Bool.cond_decide, if_neg (show ¬ x.commit < x.commit by omega), if_neg (show ¬ x.tuple.term < x.tuple.term by omega), List.length_nil, if_neg (show ¬ (1 : Int) < ((0 : Nat) : Int) by omega), decide_true, Bool.and_true, w1, hl1]
 obtain ⟨c1, c2⟩ := c1
 obtain ⟨d, l, h1, s⟩ := p_App x m hm c1 c2
 have F := app_f x m d l c1 s
 have hagain := app_again x m d l hm c1 c2 s
 have hb2 := F.right.bd
 have hsame := p_Same20 d d hb2
 rw [decide_eq_true rfl] at hsame
 have hf := meet_f x m
 have hmr := Zef x m h
 have hmt1 : 1 ≤ m.term := c1.2.2.term.1
 have hge := meet_ge x m c1
 have htb : 1 ≤ (Yx x m).tuple.term ∧ (Yx x m).tuple.term ≤ 1073741824 := ⟨by omega, ((Zfm _).1 hmr.tup).2.1.2.2.2.2⟩
 have hfl := c1.2.2.last
 have hlast : 0 ≤ x.tuple.last ∧ x.tuple.last ≤ 1073741824 := by
  have := ((Zfm _).1 h.tup).2.1
  omega
 have hd0 := Zgr d.tuple hb2.tup
 have hl1 := fun hend => keeps_l1 x m d l h ⟨F.right, F.snap, F.pre, F.len⟩ hend (x.commit - x.tuple.snap.index).toNat 0 Xo false (by omega) (by unfold Xo; omega)
 have hFc := F.commit
 have hFt := F.term
 have hdl : (l.length : Int) ≤ 1 := by
  cases s with
  | old => simp
  | lead => simp
  | gap => simp
  | mism => simp
  | tail g1 gr gl gk gt => rcases tail_has _ _ _ _ hmr (by rw [hf.last]; exact gl) gt with ⟨_, rfl | rfl⟩ | ⟨_, _, _, rfl⟩ <;> simp
 rw [h1]
 simp only [Option.bind_some, Zff d hb2, Zee, Xu F.right, Bool.not_true, cond_false, samex, Bool.cond_decide, if_neg (show ¬ d.commit < x.commit by omega), if_neg (show ¬ d.tuple.term < x.tuple.term by omega), if_neg (show ¬ (1 : Int) < (l.length : Int) by omega), F.snap, decide_true, Bool.and_true, w1]
 refine hl1 fun n v j hj => ?_
 rw [Xm]
 simp only [Bool.cond_decide, if_neg hj, hagain, hsame, Option.bind_some, Bool.not_true, cond_false]
 have nil : l = [] → ((Zbi l l).bind fun r146 => cond (!r146) (some false) (if (l.length : Int) = 0 then some true else some false)) = some true := fun hl => by
  subst hl
  rw [all_nil]; rfl
 have no : ∀ la, l = [Zac (Yx x m) m 4 false la] → 0 ≤ la ∧ la ≤ 1073741824 → d.tuple.term = (Yx x m).tuple.term → d.commit = x.commit → d.tuple.log = x.tuple.log → Xm x m (d, l) (n + 1) v j = some true := fun la hl hla hdt hdc hdlog => by
  have hF := back_fine x (Yx x m) m false 4 la c1 hf.id hf.binary htb (.inr rfl) hla
  have hF2 := p_Fine20 (Zac (Yx x m) m 4 false la) x.n (back_bd23 _ _ _ (by decide) _ _)
  unfold fineM at hF2
  rw [Xu hF] at hF2
  have hall := all_one (Zac (Yx x m) m 4 false la) (by show (0 : Nat) ≤ 1000000; omega)
  have e1 : (Zac (Yx x m) m 4 false la).dst = m.frm := rfl
  have e2 : (Zac (Yx x m) m 4 false la).okk = false := rfl
  have e3 : (Zac (Yx x m) m 4 false la).term = (Yx x m).tuple.term := rfl
  rw [Xm]
  simp only [Bool.cond_decide, if_neg hj, hagain, hsame, Option.bind_some, Bool.not_true, cond_false]
  subst hl
  simp only [hall, Option.bind_some, Bool.not_true, cond_false, List.length_cons, List.length_nil, if_neg (show ¬ ((0 + 1 : Nat) : Int) = 0 by omega), idx_one23, hF2, e1, e2, e3, hdt, hdc, hdlog, ne_eq, not_true, if_false, Bool.not_false, cond_true, if_true, Zfg]
 have noGoal : ∀ la, l = [Zac (Yx x m) m 4 false la] → 0 ≤ la ∧ la ≤ 1073741824 → d.tuple.term = (Yx x m).tuple.term → d.commit = x.commit → d.tuple.log = x.tuple.log → _ := fun la a b c e f => (by
  have := no la a b c e f
  rw [Xm] at this
  simp only [Bool.cond_decide, if_neg hj, hagain, hsame, Option.bind_some, Bool.not_true, cond_false] at this
  exact this)
 cases s with
 | old g1 => exact noGoal _ rfl hlast rfl hf.commit hf.log
 | lead g1 gr => rw [all_nil]; rfl
 | gap g1 gr gl => exact noGoal _ rfl hlast rfl hf.commit hf.log
 | mism g1 gr gl tm gt gn => exact noGoal _ rfl (by omega) rfl hf.commit hf.log
 | tail g1 gr gl gk gt =>
  rcases tail_has (Yx x m) m d l hmr (by rw [hf.last]; exact gl) gt with ⟨rfl, rfl | rfl⟩ | ⟨t, hT, hd, hl'⟩
  ·rw [all_nil]; rfl
  ·exact noGoal _ rfl (by rw [hf.last]; exact hlast) rfl hf.commit hf.log
  ·have dt : d.tuple = t := by rw [hd]; rfl
   have hvl := hT.last
   have htl : t.last ≤ 1073741824 := by
    have := ((Zfm _).1 hT.tup).2.1
    have hl2 : t.last = t.snap.index + t.log.length := rfl
    omega
   have hfw := c1.2.2.few
   have hF := back_fine x { Yx x m with tuple := t } m true 4 (m.last + (m.entries.length : Int)) c1 hf.id hf.binary (by show 1 ≤ t.term ∧ t.term ≤ 1073741824; rw [hT.term]; exact htb) (.inr rfl) (by omega)
   have hF2 := p_Fine20 (Zac { Yx x m with tuple := t } m 4 true (m.last + (m.entries.length : Int))) x.n (back_bd23 _ _ _ (by decide) _ _)
   unfold fineM at hF2
   rw [Xu hF] at hF2
   have hall := all_one (Zac { Yx x m with tuple := t } m 4 true (m.last + (m.entries.length : Int))) (by show (0 : Nat) ≤ 1000000; omega)
   have e1 : (Zac { Yx x m with tuple := t } m 4 true (m.last + (m.entries.length : Int))).dst = m.frm := rfl
   have e2 : (Zac { Yx x m with tuple := t } m 4 true (m.last + (m.entries.length : Int))).okk = true := rfl
   have e3 : (Zac { Yx x m with tuple := t } m 4 true (m.last + (m.entries.length : Int))).term = t.term := rfl
   have e4 : (Zac { Yx x m with tuple := t } m 4 true (m.last + (m.entries.length : Int))).last = m.last + (m.entries.length : Int) := rfl
   have hdc : d.commit ≤ max x.commit m.commit := by
    rw [hd]
    show max (Yx x m).commit _ ≤ _
    rw [hf.commit]
    omega
   have hl2 := keeps_l2 m d l hb2.tup hfl (by omega) (by rw [dt]; exact hT.has) m.entries.length 0 Xo v (by omega) (by omega) (by unfold Xo; omega)
   have hd0t : Jw t = some t.last := by rw [← dt]; exact hd0
   rw [hl'] at hl2 ⊢
   rw [show ((0 : Nat) : Int) = 0 from rfl] at hl2
   simp only [hall, Option.bind_some, Bool.not_true, cond_false, List.length_cons, List.length_nil, if_neg (show ¬ ((0 + 1 : Nat) : Int) = 0 by omega), idx_one23, hF2, e1, e2, e3, e4, dt, hd0t, ne_eq, not_true, if_false, Zah (n := m.last + (m.entries.length : Int)) (by omega), if_neg (show ¬ max x.commit m.commit < d.commit by omega), if_neg (show ¬ t.last < m.last + (m.entries.length : Int) by omega), hl2]
end Go.Proofs.YtamjlcaoieliaaaGreat
