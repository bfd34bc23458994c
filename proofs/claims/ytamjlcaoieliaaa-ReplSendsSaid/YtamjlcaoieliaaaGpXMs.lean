/- Texts of one claim put together. -/
import Derived.Test.YtamjlcaoieliaaaMs6
namespace Go.Proofs.Ytamjlcaoieliaaa
open Go Go.RowKit
set_option maxRecDepth 100000
def HasJ (t : Tu) (m : Ms) (j : Nat) : Prop := m.last + 1 + (j : Int) ≤ t.snap.index ∨ ∃ e, m.entries[j]? = some e ∧ Zba t (m.last + 1 + j) = some e.term
structure OtherS (t : Tu) (m : Ms) (i : Nat) : Prop where
 le : i ≤ m.entries.length
 has : ∀ j, j < i → HasJ t m j
 no : i < m.entries.length → ¬ HasJ t m i
theorem termAt_bd {t : Tu} {i a : Int} (h : Zba t i = some a) : t.snap.index ≤ i ∧ i ≤ t.last := by
 unfold Zba at h
 split at h
 ·unfold Tu.last; omega
 ·split at h
  ·omega
  ·cases h
theorem other_l1 (x : Co) (m : Ms) (hx : bdT x.tuple) (hl : 0 ≤ m.last ∧ m.last ≤ 1073741824) (hn : m.entries.length ≤ 1000000) : ∀ (q k n : Nat) (v : Int), q = m.entries.length - k → k ≤ m.entries.length → q < n → (∀ j, j < k → HasJ x.tuple m j) →
  ∃ i : Nat, Jd x m ((List.range m.entries.length).map fun i : Nat => m.last + 1 + (i : Int)) n v k = some (i : Int) ∧ OtherS x.tuple m i := by
 have hL : ((List.range m.entries.length).map fun i : Nat => m.last + 1 + (i : Int)).length = m.entries.length := by simp
 intro q
 induction q with
 | zero =>
  intro k n v hq hk hn' hs
  obtain ⟨n, rfl⟩ : ∃ n', n = n' + 1 := ⟨n - 1, by omega⟩
  refine ⟨m.entries.length, ?_, Nat.le_refl _, fun j hj => hs j (by omega), fun h => (Nat.lt_irrefl _ h).elim⟩
  rw [Jd]
  simp only [Bool.cond_decide, hL, if_neg (show ¬ (k : Int) < (m.entries.length : Int) by omega)]
 | succ q ih =>
  intro k n v hq hk hn' hs
  obtain ⟨n, rfl⟩ : ∃ n', n = n' + 1 := ⟨n - 1, by omega⟩
  have hg : ((List.range m.entries.length).map fun i : Nat => m.last + 1 + (i : Int))[k]? = some (m.last + 1 + (k : Int)) := by simp [show k < m.entries.length by omega]
  obtain ⟨e, he, _⟩ := Xq (show k < m.entries.length by omega)
  have w1 : IntKind.wrap .i64 ((k : Int) + 1) = ((k + 1 : Nat) : Int) := by rw [J2 (by omega)]; omega
  have w2 : IntKind.wrap .i64 (m.last + 1 + (k : Int) - m.last) = (k : Int) + 1 := by rw [J2 (by omega)]; omega
  have w3 : IntKind.wrap .i64 ((k : Int) + 1 - 1) = (k : Int) := by rw [J2 (by omega)]; omega
  have go : HasJ x.tuple m k → ∃ i : Nat, Jd x m ((List.range m.entries.length).map fun i : Nat => m.last + 1 + (i : Int)) n v ((k + 1 : Nat) : Int) = some (i : Int) ∧ OtherS x.tuple m i := fun hk1 =>
   ih (k + 1) n v (by omega) (by omega) (by omega) fun j hj => by
    by_cases c : j = k
    ·rw [c]; exact hk1
    ·exact hs j (by omega)
  have stop : ¬ HasJ x.tuple m k → OtherS x.tuple m k := fun hno => ⟨by omega, hs, fun _ => hno⟩
  rw [Jd]
  simp only [Bool.cond_decide, hL, if_pos (show (k : Int) < (m.entries.length : Int) by omega), Zau, hg, he, Option.bind_some, p_tTermAt x.tuple _ hx, w1, w2, w3, if_neg (show ¬ (k : Int) < 0 by omega)]
  by_cases c1 : x.tuple.snap.index < m.last + 1 + (k : Int)
  ·rw [if_pos c1]
   cases ht : Zba x.tuple (m.last + 1 + (k : Int)) with
   | none =>
    refine ⟨k, rfl, stop ?_⟩
    rintro (h | ⟨e', _, h⟩)
    ·omega
    ·rw [ht] at h; cases h
   | some t =>
    simp only [Option.isSome_some, Bool.not_true, cond_false, Option.getD_some]
    by_cases c2 : t = e.term
    ·rw [if_neg (fun h => h c2)]
     exact go (.inr ⟨e, he, by rw [ht, c2]⟩)
    ·rw [if_pos c2]
     refine ⟨k, rfl, stop ?_⟩
     rintro (h | ⟨e', he', h⟩)
     ·omega
     ·rw [he] at he'
      obtain rfl := QJ he'
      rw [ht] at h
      exact c2 (QJ h)
  ·rw [if_neg c1]
   exact go (.inl (by omega))
theorem p_other (x : Co) (m : Ms) (hx : bdT x.tuple) (hl : 0 ≤ m.last ∧ m.last ≤ 1073741824) (hn : m.entries.length ≤ 1000000) : ∃ i : Nat, Zbp x m = some (i : Int) ∧ OtherS x.tuple m i := by
 obtain ⟨i, h1, h2⟩ := other_l1 x m hx hl hn m.entries.length 0 Xn 0 (by omega) (by omega) (by unfold Xn; omega) (fun j hj => by omega)
 refine ⟨i, ?_, h2⟩
 unfold Zbp Ze2
 rw [if_pos ⟨hn, by omega, by omega⟩, Option.bind_some, Zez _ (by simp; omega), Option.bind_some]
 exact h1
def Zgq (t : Tu) (m : Ms) (i : Nat) : Tu := { t with log := t.log.take (m.last + i - t.snap.index).toNat ++ m.entries.drop i }
def finC (y : Co) (t : Tu) (m : Ms) : Co := { Zd0 { y with role := 0, tuple := t } with commit := max y.commit (min m.commit (m.last + (m.entries.length : Int))), applied := (stOf t (max y.commit (min m.commit (m.last + (m.entries.length : Int))))).getD ⟨0, 0, 0, 0, false⟩ }
inductive TailR (y : Co) (m : Ms) : Co → List Ms → Prop
 | bound (i : Nat) (ho : OtherS y.tuple m i) (hi : i < m.entries.length) (hc : m.last + 1 + i ≤ y.commit) : TailR y m { y with role := 0 } []
 | fail (i : Nat) (ho : OtherS y.tuple m i) (hi : i < m.entries.length) (hc : y.commit < m.last + 1 + i) (hf : Jm (Zgq y.tuple m i) = false) : TailR y m { y with role := 0 } [backM y m 4 false y.tuple.last]
 | put (i : Nat) (ho : OtherS y.tuple m i) (hi : i < m.entries.length) (hc : y.commit < m.last + 1 + i) (hf : Jm (Zgq y.tuple m i) = true) : TailR y m (finC y (Zgq y.tuple m i) m) [backM { y with tuple := Zgq y.tuple m i } m 4 true (m.last + (m.entries.length : Int))]
 | all (ho : OtherS y.tuple m m.entries.length) : TailR y m (finC y y.tuple m) [backM y m 4 true (m.last + (m.entries.length : Int))]
theorem other_at (t : Tu) (m : Ms) (i : Nat) (hl : m.last ≤ t.last) (ho : OtherS t m i) (hi : i < m.entries.length) : t.snap.index < m.last + 1 + i ∧ m.last + 1 + i ≤ t.last + 1 := by
 have h1 : t.snap.index < m.last + 1 + (i : Int) := by
  have := ho.no hi
  unfold HasJ at this
  by_cases c : m.last + 1 + (i : Int) ≤ t.snap.index
  ·exact (this (.inl c)).elim
  ·omega
 refine ⟨h1, ?_⟩
 by_cases c : m.last + 1 + (i : Int) ≤ t.last + 1
 ·exact c
 ·exfalso
  have hlen : t.last = t.snap.index + t.log.length := rfl
  rcases ho.has (t.last - m.last).toNat (by omega) with h | ⟨e, _, h⟩
  ·omega
  ·have := termAt_bd h
   omega
theorem app_fin (y : Co) (t : Tu) (m : Ms) (hy : RightC y) (ht : bdT t) (hl : 0 ≤ m.last ∧ m.last ≤ 1073741824) (hn : m.entries.length ≤ 1000000) :
  ((Vv (⟨y.id, y.n, 0, y.binary, t, y.commit, y.applied, y.votes, y.next, y.mtch, y.caps⟩ : Co)).bind fun r172 => (Xk r172.tuple (max r172.commit (min m.commit (IntKind.wrap .i64 (m.last + (m.entries.length : Int)))))).bind fun r197 => (X8 (⟨r172.id, r172.n, r172.role, r172.binary, r172.tuple, (max r172.commit (min m.commit (IntKind.wrap .i64 (m.last + (m.entries.length : Int))))), r197.1, r172.votes, r172.next, r172.mtch, r172.caps⟩ : Co) m 4 true (IntKind.wrap .i64 (m.last + (m.entries.length : Int)))).bind fun r201 => some ((⟨r172.id, r172.n, r172.role, r172.binary, r172.tuple, (max r172.commit (min m.commit (IntKind.wrap .i64 (m.last + (m.entries.length : Int))))), r197.1, r172.votes, r172.next, r172.mtch, r172.caps⟩ : Co), ([r201] : List Ms))) = some (finC y t m, [backM { y with tuple := t } m 4 true (m.last + (m.entries.length : Int))]) := by
 have hb := hy.bd
 have hz : BdC (⟨y.id, y.n, 0, y.binary, t, y.commit, y.applied, y.votes, y.next, y.mtch, y.caps⟩ : Co) := ⟨ht, hb.lv, hb.ln, hb.lm, hb.lc⟩
 rw [p_Fit _ hz, Option.bind_some, J2 (n := m.last + (m.entries.length : Int)) (by omega), q_State _ _ (show bdT (Zd0 (⟨y.id, y.n, 0, y.binary, t, y.commit, y.applied, y.votes, y.next, y.mtch, y.caps⟩ : Co)).tuple from ht), Option.bind_some]
 rfl
theorem app_tail (y : Co) (m : Ms) (la : Int) (hy : RightC y) (hla : la = y.tuple.last) (hl : 0 ≤ m.last ∧ m.last ≤ 1073741824) (hn : m.entries.length ≤ 4) (hll : m.last ≤ la) : ∃ d l, ((Zbp (⟨y.id, y.n, 0, y.binary, y.tuple, y.commit, y.applied, y.votes, y.next, y.mtch, y.caps⟩ : Co) m).bind fun r134 => cond (decide (r134 < (m.entries.length : Int))) ( cond (decide ((IntKind.wrap .i64 ((IntKind.wrap .i64 (m.last + 1)) + r134)) ≤ y.commit)) ( some ((⟨y.id, y.n, 0, y.binary, y.tuple, y.commit, y.applied, y.votes, y.next, y.mtch, y.caps⟩ : Co), [])) ( cond (decide ((IntKind.wrap .i64 ((IntKind.wrap .i64 (m.last + 1)) + r134)) ≤ la)) ( (Zcd y.tuple (IntKind.wrap .i64 ((IntKind.wrap .i64 (m.last + 1)) + r134))).bind fun r144 => (dropI m.entries r134).bind fun l151 => (V8 r144.1 l151).bind fun r153 => cond (decide (r153.2 ≠ 0)) ( (X8 (⟨y.id, y.n, 0, y.binary, y.tuple, y.commit, y.applied, y.votes, y.next, y.mtch, y.caps⟩ : Co) m 4 false la).bind fun r162 => some ((⟨y.id, y.n, 0, y.binary, y.tuple, y.commit, y.applied, y.votes, y.next, y.mtch, y.caps⟩ : Co), ([r162] : List Ms))) ( (Vv (⟨y.id, y.n, 0, y.binary, r153.1, y.commit, y.applied, y.votes, y.next, y.mtch, y.caps⟩ : Co)).bind fun r172 => (Xk r172.tuple (max r172.commit (min m.commit (IntKind.wrap .i64 (m.last + (m.entries.length : Int)))))).bind fun r197 => (X8 (⟨r172.id, r172.n, r172.role, r172.binary, r172.tuple, (max r172.commit (min m.commit (IntKind.wrap .i64 (m.last + (m.entries.length : Int))))), r197.1, r172.votes, r172.next, r172.mtch, r172.caps⟩ : Co) m 4 true (IntKind.wrap .i64 (m.last + (m.entries.length : Int)))).bind fun r201 => some ((⟨r172.id, r172.n, r172.role, r172.binary, r172.tuple, (max r172.commit (min m.commit (IntKind.wrap .i64 (m.last + (m.entries.length : Int))))), r197.1, r172.votes, r172.next, r172.mtch, r172.caps⟩ : Co), ([r201] : List Ms)))) ( (dropI m.entries r134).bind fun l210 => (V8 y.tuple l210).bind fun r212 => cond (decide (r212.2 ≠ 0)) ( (X8 (⟨y.id, y.n, 0, y.binary, y.tuple, y.commit, y.applied, y.votes, y.next, y.mtch, y.caps⟩ : Co) m 4 false la).bind fun r221 => some ((⟨y.id, y.n, 0, y.binary, y.tuple, y.commit, y.applied, y.votes, y.next, y.mtch, y.caps⟩ : Co), ([r221] : List Ms))) ( (Vv (⟨y.id, y.n, 0, y.binary, r212.1, y.commit, y.applied, y.votes, y.next, y.mtch, y.caps⟩ : Co)).bind fun r231 => (Xk r231.tuple (max r231.commit (min m.commit (IntKind.wrap .i64 (m.last + (m.entries.length : Int)))))).bind fun r256 => (X8 (⟨r231.id, r231.n, r231.role, r231.binary, r231.tuple, (max r231.commit (min m.commit (IntKind.wrap .i64 (m.last + (m.entries.length : Int))))), r256.1, r231.votes, r231.next, r231.mtch, r231.caps⟩ : Co) m 4 true (IntKind.wrap .i64 (m.last + (m.entries.length : Int)))).bind fun r260 => some ((⟨r231.id, r231.n, r231.role, r231.binary, r231.tuple, (max r231.commit (min m.commit (IntKind.wrap .i64 (m.last + (m.entries.length : Int))))), r256.1, r231.votes, r231.next, r231.mtch, r231.caps⟩ : Co), ([r260] : List Ms)))))) ( (Vv (⟨y.id, y.n, 0, y.binary, y.tuple, y.commit, y.applied, y.votes, y.next, y.mtch, y.caps⟩ : Co)).bind fun r270 => (Xk r270.tuple (max r270.commit (min m.commit (IntKind.wrap .i64 (m.last + (m.entries.length : Int)))))).bind fun r295 => (X8 (⟨r270.id, r270.n, r270.role, r270.binary, r270.tuple, (max r270.commit (min m.commit (IntKind.wrap .i64 (m.last + (m.entries.length : Int))))), r295.1, r270.votes, r270.next, r270.mtch, r270.caps⟩ : Co) m 4 true (IntKind.wrap .i64 (m.last + (m.entries.length : Int)))).bind fun r299 => some ((⟨r270.id, r270.n, r270.role, r270.binary, r270.tuple, (max r270.commit (min m.commit (IntKind.wrap .i64 (m.last + (m.entries.length : Int))))), r295.1, r270.votes, r270.next, r270.mtch, r270.caps⟩ : Co), ([r299] : List Ms)))) = some (d, l) ∧ TailR y m d l := by
 subst hla
 have hbd := hy.bd
 have hxb := Zea _ hy.tup
 have hlen : y.tuple.last = y.tuple.snap.index + y.tuple.log.length := rfl
 obtain ⟨i, h1, ho⟩ := p_other (⟨y.id, y.n, 0, y.binary, y.tuple, y.commit, y.applied, y.votes, y.next, y.mtch, y.caps⟩ : Co) m hbd.tup hl (by omega)
 rw [h1, Option.bind_some]
 by_cases hi : i < m.entries.length
 case neg =>
  have hie : i = m.entries.length := by have := ho.le; omega
  subst hie
  rw [decide_eq_false (show ¬ ((m.entries.length : Nat) : Int) < (m.entries.length : Int) by omega), cond_false, app_fin y y.tuple m hy hbd.tup hl (by omega)]
  exact ⟨_, _, rfl, .all ho⟩
 have hile := ho.le
 have w1 : IntKind.wrap .i64 (m.last + 1) = m.last + 1 := J2 (by omega)
 have w2 : IntKind.wrap .i64 (m.last + 1 + (i : Int)) = m.last + 1 + (i : Int) := J2 (by omega)
 obtain ⟨a1, a2⟩ := other_at y.tuple m i hll ho hi
 rw [decide_eq_true (show (i : Int) < (m.entries.length : Int) by omega), cond_true, w1, w2]
 by_cases hc : m.last + 1 + (i : Int) ≤ y.commit
 ·rw [decide_eq_true hc, cond_true]
  exact ⟨_, _, rfl, .bound i ho hi hc⟩
 rw [decide_eq_false hc, cond_false]
 have hdr : dropI m.entries (i : Int) = some (m.entries.drop i) := dropI_nat _ _ (by omega)
 obtain ⟨k, hk⟩ : ∃ k : Nat, m.last + 1 + (i : Int) = y.tuple.snap.index + 1 + (k : Int) := ⟨(m.last + (i : Int) - y.tuple.snap.index).toNat, by omega⟩
 have hkt : (m.last + (i : Int) - y.tuple.snap.index).toNat = k := by omega
 have hkl : k ≤ y.tuple.log.length := by omega
 have hcy := cut_yes y.tuple k hy.tup hkl
 have hnew : Zgq y.tuple m i = { ({ y.tuple with log := y.tuple.log.take k } : Tu) with log := ({ y.tuple with log := y.tuple.log.take k } : Tu).log ++ m.entries.drop i } := by unfold Zgq; rw [hkt]
 have happ := q_Append { y.tuple with log := y.tuple.log.take k } (m.entries.drop i) ⟨by dsimp only; rw [List.length_take]; omega, by rw [List.length_drop]; omega⟩
 rw [← hnew, chg_some, if_pos hcy.2.2] at happ
 have hbt : bdT (Zgq y.tuple m i) := ⟨by unfold Zgq; dsimp only; rw [List.length_append, List.length_take, List.length_drop]; omega, hbd.tup.2⟩
 by_cases hcl : m.last + 1 + (i : Int) ≤ y.tuple.last
 ·rw [decide_eq_true hcl, cond_true, q_Cut y.tuple _ hbd.tup.1, hk, hcy.1, hcy.2.1, Option.bind_some, hdr, Option.bind_some]
  dsimp only
  rw [happ]
  cases hf : Jm (Zgq y.tuple m i) with
  | true =>
   rw [if_pos rfl, Option.bind_some]
   rw [decide_eq_false (show ¬ ((Zgq y.tuple m i, (0 : Int)).2 ≠ 0) from fun h => h rfl), cond_false, app_fin y (Zgq y.tuple m i) m hy hbt hl (by omega)]
   exact ⟨_, _, rfl, .put i ho hi (by omega) hf⟩
  | false =>
   rw [if_neg (by decide), Option.bind_some]
   rw [decide_eq_true (show ((({ y.tuple with log := y.tuple.log.take k } : Tu), (2 : Int)).2 ≠ 0) from (by decide : (2 : Int) ≠ 0)), cond_true]
   exact ⟨_, _, rfl, .fail i ho hi (by omega) hf⟩
 ·have htake : ({ y.tuple with log := y.tuple.log.take k } : Tu) = y.tuple := by rw [List.take_of_length_le (by omega)]
  rw [htake] at happ
  rw [decide_eq_false hcl, cond_false, hdr, Option.bind_some, happ]
  cases hf : Jm (Zgq y.tuple m i) with
  | true =>
   rw [if_pos rfl, Option.bind_some]
   rw [decide_eq_false (show ¬ ((Zgq y.tuple m i, (0 : Int)).2 ≠ 0) from fun h => h rfl), cond_false, app_fin y (Zgq y.tuple m i) m hy hbt hl (by omega)]
   exact ⟨_, _, rfl, .put i ho hi (by omega) hf⟩
  | false =>
   rw [if_neg (by decide), Option.bind_some]
   rw [decide_eq_true (show ((y.tuple, (2 : Int)).2 ≠ 0) from (by decide : (2 : Int) ≠ 0)), cond_true]
   exact ⟨_, _, rfl, .fail i ho hi (by omega) hf⟩
inductive AppR (x : Co) (m : Ms) : Co → List Ms → Prop
 | old (h : m.term < (Vn x m).tuple.term) : AppR x m (Vn x m) [backM (Vn x m) m 4 false x.tuple.last]
 | lead (h : m.term = (Vn x m).tuple.term) (hr : (Vn x m).role = 2) : AppR x m (Vn x m) []
 | gap (h : m.term = (Vn x m).tuple.term) (hr : (Vn x m).role ≠ 2) (hl : x.tuple.last < m.last) : AppR x m { Vn x m with role := 0 } [backM (Vn x m) m 4 false x.tuple.last]
 | mism (h : m.term = (Vn x m).tuple.term) (hr : (Vn x m).role ≠ 2) (hl : m.last ≤ x.tuple.last) (tm : Int) (ht : Zba x.tuple m.last = some tm) (hne : tm ≠ m.lastTerm) : AppR x m { Vn x m with role := 0 } [backM (Vn x m) m 4 false (max (m.last - 1) 0)]
 | tail {d : Co} {l : List Ms} (h : m.term = (Vn x m).tuple.term) (hr : (Vn x m).role ≠ 2) (hl : m.last ≤ x.tuple.last) (hk : ∀ tm, Zba x.tuple m.last = some tm → tm = m.lastTerm) (ht : TailR (Vn x m) m d l) : AppR x m d l
theorem p_App (x : Co) (m : Ms) (hm : BdM m) (h : ToC x m) (hk : m.kind = 3) : ∃ d l, Jt x m = some (d, l) ∧ AppR x m d l := by
 have hx := h.2.1.bd
 have hy := meet_right x m h.2.1
 have hmf := meet_f x m
 have hbd := hy.bd
 have hge := meet_ge x m h
 have hfl := h.2.2.last
 have hfw := h.2.2.few
 have hta : Zba (Vn x m).tuple m.last = Zba x.tuple m.last := by unfold Zba Tu.last; rw [hmf.snap, hmf.log]
 unfold Jt
 rw [p_To x m hx hm, Option.bind_some, Vb h, Bool.not_true, cond_false, decide_eq_false (show ¬ m.kind ≠ 3 from fun h => h hk), cond_false, p_Meet x m hx hm, Option.bind_some, p_tLast _ hbd.tup, Option.bind_some, p_tTermAt _ _ hbd.tup, Option.bind_some]
 by_cases c1 : m.term < (Vn x m).tuple.term
 ·rw [decide_eq_true c1, cond_true]
  have := AppR.old (x := x) (m := m) c1
  rw [← hmf.last] at this
  exact ⟨_, _, rfl, this⟩
 rw [decide_eq_false c1, cond_false]
 have c1' : m.term = (Vn x m).tuple.term := by omega
 by_cases c2 : (Vn x m).role = 2
 ·rw [decide_eq_true c2, cond_true]; exact ⟨_, _, rfl, .lead c1' c2⟩
 rw [decide_eq_false c2, cond_false]
 by_cases c3 : (Vn x m).tuple.last < m.last
 ·rw [decide_eq_true c3, cond_true]
  have := AppR.gap (x := x) (m := m) c1' c2 (by rw [← hmf.last]; exact c3)
  rw [← hmf.last] at this
  exact ⟨_, _, rfl, this⟩
 rw [decide_eq_false c3, cond_false, hta]
 have c3' : m.last ≤ x.tuple.last := by rw [← hmf.last]; omega
 cases ht : Zba x.tuple m.last with
 | none =>
  obtain ⟨d, l, e1, e2⟩ := app_tail (Vn x m) m (Vn x m).tuple.last hy rfl hfl hfw (by omega)
  exact ⟨d, l, e1, .tail c1' c2 c3' (fun tm h => by rw [ht] at h; cases h) e2⟩
 | some tm =>
  dsimp only [Option.getD_some, Option.isSome_some]
  rw [cond_true]
  by_cases c4 : tm = m.lastTerm
  ·rw [decide_eq_false (show ¬ tm ≠ m.lastTerm from fun h => h c4), cond_false]
   obtain ⟨d, l, e1, e2⟩ := app_tail (Vn x m) m (Vn x m).tuple.last hy rfl hfl hfw (by omega)
   exact ⟨d, l, e1, .tail c1' c2 c3' (fun tm' h => by rw [ht] at h; rw [← QJ h]; exact c4) e2⟩
  ·rw [decide_eq_true (show tm ≠ m.lastTerm from c4), cond_true]
   have := AppR.mism (x := x) (m := m) c1' c2 c3' tm ht c4
   have e : IntKind.wrap .i64 (m.last - 1) = m.last - 1 := J2 (by omega)
   rw [e]
   exact ⟨_, _, rfl, this⟩
end Go.Proofs.Ytamjlcaoieliaaa
