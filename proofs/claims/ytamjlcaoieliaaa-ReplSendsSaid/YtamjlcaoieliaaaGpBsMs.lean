/- Texts of one claim put together. -/
import Derived.Test.YtamjlcaoieliaaaGpXMs
import Derived.Test.YtamjlcaoieliaaaGpBeMs
namespace Go.Proofs.Ytamjlcaoieliaaa
open Go Go.RowKit
set_option maxRecDepth 100000
theorem p_Cut12 (x : Tu) (i : Int) (h : bdT x) (hi : -2000000000000 ≤ i ∧ i ≤ 2000000000000) : Zel x i = some (Zb4 x (Zgh x i), chgE x (Zgh x i)) := by
 obtain ⟨h1, h2⟩ := h
 simp only [Zel, p_Own12 x h1, Option.bind_some, Zeq x ⟨h1, h2⟩, p_Right12, Bool.cond_decide, Tu.last]
 have w1 : IntKind.wrap .i64 (x.snap.index + (x.log.length : Int) + 1) = x.snap.index + x.log.length + 1 := J2 (by omega)
 have w2 : IntKind.wrap .i64 (i - x.snap.index) = i - x.snap.index := J2 (by omega)
 have w3 : IntKind.wrap .i64 (i - x.snap.index - 1) = i - x.snap.index - 1 := J2 (by omega)
 rw [w1, w2, w3]
 by_cases h3 : i ≤ x.snap.index
 ·have : Zgh x i = none := by unfold Zgh Tu.last; rw [if_neg (by omega)]
  rw [if_pos h3, this, chg_none]
 ·rw [if_neg h3]
  by_cases h4 : x.snap.index + (x.log.length : Int) + 1 < i
  ·have : Zgh x i = none := by unfold Zgh Tu.last; rw [if_neg (by omega)]
   rw [if_pos h4, this, chg_none]
  ·obtain ⟨k, hk⟩ : ∃ k : Nat, i - x.snap.index - 1 = (k : Int) := ⟨(i - x.snap.index - 1).toNat, by omega⟩
   have : Zgh x i = some { x with log := x.log.take k } := by unfold Zgh Tu.last; rw [if_pos (by omega), hk, Int.toNat_natCast]
   rw [if_neg h4, hk, takeI_nat _ _ (by omega), this, chg_some]
   simp only [Option.bind_some]
   cases Jm x <;> cases Jm { x with log := x.log.take k } <;> rfl
theorem q_entryAt (t : Tu) (h : bdT t) (k : Nat) (e : En) (he : t.log[k]? = some e) : J8 t (t.snap.index + 1 + k) = some (e, true) := by
 have hk := (List.getElem?_eq_some_iff.1 he).1
 unfold J8
 rw [decide_eq_false (show ¬ (t.log.length : Int) = 0 by omega), cond_false, p_At12x t h k e he]
 rfl
def newS (a n b : Int) (t : Tu) : Co := ⟨a, n, 0, b, t, t.snap.index, t.snap, List.replicate n.toNat false, List.replicate n.toNat (t.last + 1), List.replicate n.toNat 0, (List.replicate n.toNat 0).set (a - 1).toNat b⟩
theorem newS_l1 (a b : Int) (N : Nat) (t : Tu) (ht : bdT t) (ha : 1 ≤ a ∧ a ≤ N) (hN : N ≤ 5) : ∀ (q k n : Nat), k + q = N → q < n →
  Zas a N b t t n ((k : Int) + 1) (List.replicate k false) (List.replicate k (t.last + 1)) (List.replicate k 0) (List.replicate k 0) = some (newS a N b t) := by
 have hlb := last_bd ht
 intro q
 induction q with
 | zero =>
  intro k n hk hn
  obtain ⟨n, rfl⟩ : ∃ n', n = n' + 1 := ⟨n - 1, by omega⟩
  obtain rfl : k = N := by omega
  obtain ⟨e, he, _, hw⟩ := idx_in (List.replicate k (0 : Int)) a (by rw [List.length_replicate]; exact ha) (by rw [List.length_replicate]; omega)
  rw [Zas, hw, he]
  simp only [Bool.cond_decide, if_neg (show ¬ (k : Int) + 1 ≤ (k : Int) by omega), Option.bind_some]
  unfold newS Zen
  rw [Int.toNat_natCast]
 | succ q ih =>
  intro k n hk hn
  obtain ⟨n, rfl⟩ : ∃ n', n = n' + 1 := ⟨n - 1, by omega⟩
  have hf : ∀ {α : Type} (c : α), Zfm (List.replicate k c ++ [c]) = some (List.replicate (k + 1) c) := fun c => by
   rw [Zez _ (by rw [List.length_append, List.length_replicate]; simp only [List.length_cons, List.length_nil]; omega), ← List.replicate_succ']
  rw [Zas, Zeq t ht]
  simp only [Bool.cond_decide, if_pos (show (k : Int) + 1 ≤ (N : Int) by omega), Option.bind_some, J2 (n := t.last + 1) (by omega), hf, J2 (n := (k : Int) + 1 + 1) (by omega)]
  exact ih (k + 1) n (by omega) (by omega)
theorem p_New20 (a n b : Int) (t : Tu) (ht : bdT t) (ha : 1 ≤ a ∧ a ≤ n) (hn : n ≤ 5) : Zbl a n b t = some (newS a n b t) := by
 obtain ⟨N, rfl⟩ : ∃ N : Nat, n = (N : Int) := ⟨n.toNat, by omega⟩
 unfold Zbl
 simp only [Bool.cond_decide, if_neg (show ¬ (N : Int) < 0 by omega), if_neg (show ¬ (5 : Int) < (N : Int) by omega), if_neg (show ¬ a < 1 by omega), if_neg (show ¬ (N : Int) < a by omega), p_Own12 t ht.1, Option.bind_some]
 exact newS_l1 a b N t ht ha (by omega) N 0 Xn (by omega) (by unfold Xn; omega)
theorem newS_right (a n b : Int) (t : Tu) (ht : Jm t = true) (ha : 1 ≤ a ∧ a ≤ n) (hn : n ≤ 5) (hb : 1 ≤ b ∧ b ≤ 2) : RightC (newS a n b t) := by
 have hxb := Zea _ ht
 have hlen : t.last = t.snap.index + t.log.length := rfl
 unfold newS
 refine ⟨⟨by dsimp only; omega, hn⟩, ha, by show (0 : Int) ≤ 2; decide, hb, ht, ?_, ?_, ?_, ?_, ?_, InB.repl (by dsimp only; omega), InB.repl (by dsimp only; omega), InB.set (InB.repl (by omega)) (by omega), List.getElem?_set_self (by rw [List.length_replicate]; omega), .inl rfl⟩
 ·dsimp only
  unfold stOf
  rw [if_pos (by omega), Int.sub_self]
  rfl
 ·dsimp only; rw [List.length_replicate]; omega
 ·dsimp only; rw [List.length_replicate]; omega
 ·dsimp only; rw [List.length_replicate]; omega
 ·dsimp only; rw [List.length_set, List.length_replicate]; omega
theorem pre_tup (x : Tu) (q : Nat) (hx : Jm x = true) (hq : q ≤ x.log.length) : Jm ⟨x.snap, x.log.take q, x.term, 0⟩ = true := by
 have h := (cut_yes x q hx hq).2.2
 obtain ⟨g1, g2, g3, g4⟩ := (Zfj _).1 h
 exact (Zfj _).2 ⟨g1, ⟨g2.1, g2.2.1, Int.le_refl 0, (by decide : (0 : Int) ≤ 5), g2.2.2.2.2⟩, g3, g4⟩
theorem termAt_cut (x : Tu) (q : Nat) (v : Int) (hq : q ≤ x.log.length) : Zba ⟨x.snap, x.log.take q, x.term, v⟩ (x.snap.index + q) = Zba x (x.snap.index + q) := by
 have h1 := termAt_log ⟨x.snap, x.log.take q, x.term, v⟩ q (by rw [List.length_take]; omega)
 have h2 := termAt_log x q hq
 rw [h2]
 dsimp only at h1
 rw [h1, List.take_take, Nat.min_self]
theorem sends_app (x : Co) (a nx b : Int) (h : RightC x) (hr : x.role = 2) (ht : 1 ≤ a ∧ a ≤ x.n ∧ a ≠ x.id) (hb : 1 ≤ b ∧ b ≤ 2) (k : Nat) (hk : nx = x.tuple.snap.index + 1 + (k : Int)) (hkl : k ≤ x.tuple.log.length) :
  ∃ d bk, Jt (newS a x.n b ⟨x.tuple.snap, x.tuple.log.take k, x.tuple.term, 0⟩) (Zaz x a nx) = some (d, [bk]) ∧ bk.okk = true ∧ bk.last = nx - 1 + ((Zaz x a nx).entries.length : Int) ∧ d.tuple.snap = x.tuple.snap ∧ d.tuple.log = x.tuple.log.take (k + (Zaz x a nx).entries.length) := by
 have hxb := Zea _ h.tup
 have hn := h.n
 have hlen : x.tuple.last = x.tuple.snap.index + x.tuple.log.length := rfl
 have hF := replM_fine x a nx h hr ht (by omega) (by omega)
 have hT0 := pre_tup x.tuple k h.tup hkl
 have hR := newS_right a x.n b _ hT0 ⟨ht.1, ht.2.1⟩ hn.2 hb
 have hk2 : (nx - x.tuple.snap.index - 1).toNat = k := by omega
 have hme : (Zaz x a nx).entries = (x.tuple.log.drop k).take 4 := by unfold Zaz; rw [hk2]
 have hml : (Zaz x a nx).last = x.tuple.snap.index + (k : Int) := by show nx - 1 = _; omega
 have hmt : (Zaz x a nx).lastTerm = (Zba x.tuple (x.tuple.snap.index + (k : Int))).getD 0 := by show (Zba x.tuple (nx - 1)).getD 0 = _; rw [show nx - 1 = x.tuple.snap.index + (k : Int) by omega]
 have hmk : (Zaz x a nx).kind = 3 := rfl
 have hmd : (Zaz x a nx).dst = a := rfl
 have hmT : (Zaz x a nx).term = x.tuple.term := rfl
 have hnx : nx - 1 = (Zaz x a nx).last := by omega
 have hel : (Zaz x a nx).entries.length ≤ 4 := by rw [hme, List.length_take]; omega
 rw [hnx]
 generalize hm : Zaz x a nx = m at *
 have hBm : BdM m := ⟨by rw [hmk]; decide, by omega⟩
 generalize hy : newS a x.n b ⟨x.tuple.snap, x.tuple.log.take k, x.tuple.term, 0⟩ = y at *
 have y1 : y.id = a := by rw [← hy]; rfl
 have y2 : y.n = x.n := by rw [← hy]; rfl
 have y3 : y.role = 0 := by rw [← hy]; rfl
 have y4 : y.tuple = ⟨x.tuple.snap, x.tuple.log.take k, x.tuple.term, 0⟩ := by rw [← hy]; rfl
 have y5 : y.commit = x.tuple.snap.index := by rw [← hy]; rfl
 have hto : ToC y m := ⟨by rw [hmd, y1], hR, by rw [y2]; exact hF⟩
 obtain ⟨d, l, e1, e2⟩ := p_App y m hBm hto hmk
 rw [e1]
 have hmeet : Vn y m = { y with caps := y.caps.set (m.frm - 1).toNat m.cap } := by
  rcases meet_term y m hto with ⟨c, _⟩ | ⟨_, c⟩
  ·rw [hmT, y4] at c; exact (Int.lt_irrefl _ c).elim
  ·exact c
 have mt : (Vn y m).tuple = ⟨x.tuple.snap, x.tuple.log.take k, x.tuple.term, 0⟩ := by rw [hmeet]; exact y4
 have mr : (Vn y m).role = 0 := by rw [hmeet]; exact y3
 have mc : (Vn y m).commit = x.tuple.snap.index := by rw [hmeet]; exact y5
 have ylast : y.tuple.last = x.tuple.snap.index + (k : Int) := by
  rw [y4]; unfold Tu.last; dsimp only; rw [List.length_take]; omega
 have mlast : (Vn y m).tuple.last = x.tuple.snap.index + (k : Int) := by
  rw [mt]; unfold Tu.last; dsimp only; rw [List.length_take]; omega
 have hno : 0 < m.entries.length → ¬ HasJ (Vn y m).tuple m 0 := by
  rintro _ (c | ⟨e, _, c⟩)
  ·rw [mt] at c; dsimp only at c; omega
  ·have := (termAt_bd c).2
   omega
 cases e2 with
 | old c => rw [hmT, mt] at c; exact (Int.lt_irrefl _ c).elim
 | lead c cr => rw [mr] at cr; cases cr
 | gap c cr cl => omega
 | mism c cr cl tm ct cn =>
  exfalso
  rw [hml, y4, termAt_cut x.tuple k 0 hkl] at ct
  rw [hmt, ct] at cn
  exact cn rfl
 | tail c cr cl ck et =>
  cases et with
  | bound i ho hi hc => rw [mc] at hc; omega
  | fail i ho hi hc hf =>
   exfalso
   have i0 : i = 0 := Nat.eq_zero_of_not_pos fun c => hno (by omega) (ho.has 0 c)
   subst i0
   have : Zgq (Vn y m).tuple m 0 = ⟨x.tuple.snap, x.tuple.log.take (k + min 4 (x.tuple.log.length - k)), x.tuple.term, 0⟩ := by
    unfold Zgq
    rw [mt, hme, hml]
    dsimp only
    rw [show (x.tuple.snap.index + (k : Int) + ((0 : Nat) : Int) - x.tuple.snap.index).toNat = k by omega, List.take_take, Nat.min_self, List.drop_zero, List.take_add]
    congr 2
    rw [List.take_eq_take_iff, List.length_drop]; omega
   rw [this, pre_tup x.tuple _ h.tup (by omega)] at hf
   cases hf
  | put i ho hi hc hf =>
   have i0 : i = 0 := Nat.eq_zero_of_not_pos fun c => hno (by omega) (ho.has 0 c)
   subst i0
   refine ⟨_, _, rfl, rfl, rfl, ?_, ?_⟩
   ·show (Zgq (Vn y m).tuple m 0).snap = _
    unfold Zgq; rw [mt]
   ·show (Zgq (Vn y m).tuple m 0).log = _
    unfold Zgq
    rw [mt, hml]
    dsimp only
    rw [show (x.tuple.snap.index + (k : Int) + ((0 : Nat) : Int) - x.tuple.snap.index).toNat = k by omega, List.take_take, Nat.min_self, List.drop_zero, List.take_add, hme]
    congr 1
    rw [List.take_eq_take_iff, List.length_take, List.length_drop]; omega
  | all ho =>
   have i0 : m.entries.length = 0 := Nat.eq_zero_of_not_pos fun c => hno c (ho.has 0 c)
   refine ⟨_, _, rfl, rfl, rfl, ?_, ?_⟩
   ·show (Vn y m).tuple.snap = _
    rw [mt]
   ·show (Vn y m).tuple.log = _
    rw [mt, i0]; rfl
theorem sends_loop (f : Nat → Bool → Int → Option Bool) (x d : Tu) (bk : Ms) (q0 : Nat) (hx : bdT x) (hd : bdT d) (hs : d.snap = x.snap) (hl : d.log = x.log.take q0) (hq : q0 ≤ x.log.length) (hb : bk.last = x.snap.index + (q0 : Int))
  (f0 : ∀ n v j, ¬ j ≤ bk.last → f (n + 1) v j = some true)
  (f1 : ∀ n v (k : Nat) e, x.snap.index + 1 + (k : Int) ≤ bk.last → Zb9 x (x.snap.index + 1 + k) = some (e, true) → J8 d (x.snap.index + 1 + k) = some (e, true) → f (n + 1) v (x.snap.index + 1 + (k : Int)) = f n v (IntKind.wrap .i64 (x.snap.index + 1 + (k : Int) + 1))) :
  ∀ (q k n : Nat) (v : Bool), k + q = q0 → q < n → f n v (x.snap.index + 1 + (k : Int)) = some true := by
 have hx3 := hx.2
 have hx1 := hx.1
 intro q
 induction q with
 | zero =>
  intro k n v hk hn
  obtain ⟨n, rfl⟩ : ∃ n', n = n' + 1 := ⟨n - 1, by omega⟩
  exact f0 n v _ (by omega)
 | succ q ih =>
  intro k n v hk hn
  obtain ⟨n, rfl⟩ : ∃ n', n = n' + 1 := ⟨n - 1, by omega⟩
  obtain ⟨e, he, _⟩ := Xq (show k < x.log.length by omega)
  have he2 : d.log[k]? = some e := by rw [hl, List.getElem?_take, if_pos (by omega)]; exact he
  have g := q_entryAt d hd k e he2
  rw [hs] at g
  rw [f1 n v k e (by omega) (p_At12x x hx k e he) g, J2 (by omega), show x.snap.index + 1 + (k : Int) + 1 = x.snap.index + 1 + ((k + 1 : Nat) : Int) by omega]
  exact ih (k + 1) n v (by omega) (by omega)
theorem p_ReplSends (x : Co) (a b : Int) : Zb1 x a b = some true := by
 obtain ⟨g, hg⟩ := p_Great_some x
 unfold Zb1
 simp only [hg, Zgo, Option.bind_some]
 cases g with
 | true => rfl
 | false =>
 have hbd := (p_Great_no x hg).1
 simp only [cond_false, p_Right20 x hbd, Option.bind_some]
 unfold Zd4
 by_cases h : RightC x
 case neg => rw [Yk h]; rfl
 rw [Vb h]
 simp only [Bool.not_true, cond_false, Bool.cond_decide]
 have hn := h.n
 have hxb := Zea _ h.tup
 have hlen : x.tuple.last = x.tuple.snap.index + x.tuple.log.length := rfl
 have z2 : (zeroM, false).2 = false := rfl
 by_cases hr : x.role = 2
 case neg =>
  rw [p_rMessage_no x a h hr]
  simp only [Option.bind_some, if_neg hr, Bool.not_false, cond_true]
 by_cases c1 : 1 ≤ a
 case neg =>
  have : X6 x a = some (zeroM, false) := by
   simp only [X6, Zfh x h.bd, Zd4, Vb h, Option.bind_some, Bool.not_true, cond_false, Bool.cond_decide, if_neg (show ¬ x.role ≠ 2 from fun h => h hr), if_pos (show a < 1 by omega)]
   rfl
  rw [this]
  simp only [Option.bind_some, if_pos hr, if_neg c1, Bool.not_false, cond_true]
 by_cases c2 : a ≤ x.n
 case neg =>
  have : X6 x a = some (zeroM, false) := by
   simp only [X6, Zfh x h.bd, Zd4, Vb h, Option.bind_some, Bool.not_true, cond_false, Bool.cond_decide, if_neg (show ¬ x.role ≠ 2 from fun h => h hr), if_neg (show ¬ a < 1 by omega), if_pos (show x.n < a by omega)]
   rfl
  rw [this]
  simp only [Option.bind_some, if_pos hr, if_pos c1, if_neg c2, Bool.not_false, cond_true]
 obtain ⟨nx, n1, _, n3, n4⟩ := next_in x a h ⟨c1, c2⟩
 have hM := p_rMessage x a nx h hr ⟨c1, c2⟩ n1 ⟨n3, n4⟩
 by_cases c3 : a = x.id
 ·rw [if_pos (.inl c3)] at hM
  simp only [hM, Option.bind_some, if_pos hr, if_pos c1, if_pos c2, decide_eq_false (show ¬ a ≠ x.id from fun h => h c3), Bool.not_false, cond_true]
 by_cases c4 : nx ≤ x.tuple.snap.index
 ·rw [if_pos (.inr c4)] at hM
  simp only [hM, Option.bind_some, if_pos hr, if_pos c1, if_pos c2, n1, decide_eq_true (show a ≠ x.id from c3), decide_eq_false (show ¬ x.tuple.snap.index < nx by omega), ne_eq, not_true, if_false, Bool.not_false, Bool.not_true, cond_true, cond_false]
 rw [if_neg (fun h => h.elim c3 c4)] at hM
 simp only [hM, Option.bind_some, if_pos hr, if_pos c1, if_pos c2, n1, decide_eq_true (show a ≠ x.id from c3), decide_eq_true (show x.tuple.snap.index < nx by omega), ne_eq, not_true, if_false, Bool.not_true, cond_false]
 have hF := replM_fine x a nx h hr ⟨c1, c2, c3⟩ (by omega) n4
 have hF2 := p_Fine20 (Zaz x a nx) x.n ⟨by show (0 : Int) ≤ 3 ∧ (3 : Int) ≤ 255; decide, by show (List.take 4 _).length ≤ 1000000; rw [List.length_take]; omega⟩
 unfold fineM at hF2
 rw [Vb hF] at hF2
 obtain ⟨k, hk⟩ : ∃ k : Nat, nx = x.tuple.snap.index + 1 + (k : Int) := ⟨(nx - x.tuple.snap.index - 1).toNat, by omega⟩
 have hkl : k ≤ x.tuple.log.length := by omega
 have hC := p_Cut12 x.tuple nx hbd.tup (by omega)
 have hcy := cut_yes x.tuple k h.tup hkl
 rw [← hk] at hcy
 rw [hcy.1, hcy.2.1] at hC
 have e1 : (Zaz x a nx).dst = a := rfl
 have e2 : (Zaz x a nx).frm = x.id := rfl
 have e3 : (Zaz x a nx).kind = 3 := rfl
 have e4 : (Zaz x a nx).last = nx - 1 := rfl
 have e5 : (Zaz x a nx).commit = x.commit := rfl
 have e6 : ((Zaz x a nx).entries.length : Int) = min 4 (x.tuple.last - nx + 1) := by
  show ((List.take 4 (x.tuple.log.drop (nx - x.tuple.snap.index - 1).toNat)).length : Int) = _
  rw [List.length_take, List.length_drop]; omega
 have hen : k + (Zaz x a nx).entries.length ≤ x.tuple.log.length := by omega
 have hel : (Zaz x a nx).entries.length ≤ 4 := by omega
 simp only [hF2, Zeq x.tuple hbd.tup, hC, Option.bind_some, ne_eq, not_true, if_false, Bool.not_true, cond_false, e1, e2, e3, e4, e5, J2 (n := nx - 1) (by omega), J2 (n := x.tuple.last - nx) (by omega), J2 (n := x.tuple.last - nx + 1) (by omega), e6]
 have hbT : bdT (⟨x.tuple.snap, x.tuple.log.take k, x.tuple.term, 0⟩ : Tu) := ⟨by dsimp only; rw [List.length_take]; omega, by dsimp only; omega⟩
 have main : ∀ b, 1 ≤ b ∧ b ≤ 2 → ∃ d bk, Jt (newS a x.n b ⟨x.tuple.snap, x.tuple.log.take k, x.tuple.term, 0⟩) (Zaz x a nx) = some (d, [bk]) ∧ bk.okk = true ∧ bk.last = nx - 1 + min 4 (x.tuple.last - nx + 1) ∧ Vw d.tuple = some bk.last ∧ bdT d.tuple ∧ d.tuple.snap = x.tuple.snap ∧ d.tuple.log = x.tuple.log.take (k + (Zaz x a nx).entries.length) ∧ bk.last = x.tuple.snap.index + ((k + (Zaz x a nx).entries.length : Nat) : Int) := fun b hb => by
  obtain ⟨d, bk, g1, g2, g3, g4, g5⟩ := sends_app x a nx b h hr ⟨c1, c2, c3⟩ hb k hk hkl
  have gl : d.tuple.log.length = k + (Zaz x a nx).entries.length := by rw [g5, List.length_take]; omega
  have gb : bdT d.tuple := ⟨by omega, by rw [g4]; omega⟩
  have gt : d.tuple.last = bk.last := by unfold Tu.last; rw [g4, gl, g3]; omega
  exact ⟨d, bk, g1, g2, by rw [g3, e6], by rw [Zeq _ gb, gt], gb, g4, g5, by omega⟩
 by_cases b1 : b = 1
 ·rw [if_neg (show ¬ ¬ b = 1 from fun h => h b1)]
  obtain ⟨d, bk, g1, g2, g3, g4, g5, g6, g7, g8⟩ := main b (by omega)
  have hi : idx [bk] 0 = some bk := rfl
  rw [p_New20 a x.n b _ hbT ⟨c1, c2⟩ hn.2]
  simp only [Option.bind_some, g1, hi, g2, g4, List.length_cons, List.length_nil, Bool.not_true, cond_false, J2 (n := nx - 1 + min 4 (x.tuple.last - nx + 1)) (by omega), g3, ne_eq, not_true, if_false]
  rw [if_neg (by decide)]
  have hfin := sends_loop (Vr x (d, [bk])) x.tuple d.tuple bk _ hbd.tup g5 g6 g7 hen g8
   (fun n v j hj => by rw [Vr]; simp only [hi, Option.bind_some, Bool.cond_decide, if_neg hj, Zgo])
   (fun n v k e hj w1 w2 => by rw [Vr]; simp only [hi, Option.bind_some, Bool.cond_decide, if_pos hj, w1, w2, decide_true, Bool.and_true, Bool.not_true, cond_false])
   _ 0 Xn false (Nat.zero_add _) (by unfold Xn; omega)
  rw [show x.tuple.snap.index + 1 + ((0 : Nat) : Int) = x.tuple.snap.index + 1 by omega] at hfin
  rw [J2 (n := x.tuple.snap.index + 1) (by omega), hfin]
 rw [if_pos (show ¬ b = 1 from b1)]
 by_cases b2 : b = 2
 case neg => rw [if_pos (show ¬ b = 2 from b2)]
 rw [if_neg (show ¬ ¬ b = 2 from fun h => h b2)]
 obtain ⟨d, bk, g1, g2, g3, g4, g5, g6, g7, g8⟩ := main b (by omega)
 have hi : idx [bk] 0 = some bk := rfl
 rw [p_New20 a x.n b _ hbT ⟨c1, c2⟩ hn.2]
 simp only [Option.bind_some, g1, hi, g2, g4, List.length_cons, List.length_nil, Bool.not_true, cond_false, J2 (n := nx - 1 + min 4 (x.tuple.last - nx + 1)) (by omega), g3, ne_eq, not_true, if_false]
 rw [if_neg (by decide)]
 have hfin := sends_loop (Vs x (d, [bk])) x.tuple d.tuple bk _ hbd.tup g5 g6 g7 hen g8
  (fun n v j hj => by rw [Vs]; simp only [hi, Option.bind_some, Bool.cond_decide, if_neg hj, Zgo])
  (fun n v k e hj w1 w2 => by rw [Vs]; simp only [hi, Option.bind_some, Bool.cond_decide, if_pos hj, w1, w2, decide_true, Bool.and_true, Bool.not_true, cond_false])
  _ 0 Xn false (Nat.zero_add _) (by unfold Xn; omega)
 rw [show x.tuple.snap.index + 1 + ((0 : Nat) : Int) = x.tuple.snap.index + 1 by omega] at hfin
 rw [J2 (n := x.tuple.snap.index + 1) (by omega), hfin]
end Go.Proofs.Ytamjlcaoieliaaa
