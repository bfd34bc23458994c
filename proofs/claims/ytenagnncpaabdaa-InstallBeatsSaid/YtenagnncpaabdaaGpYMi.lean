/- Texts of one claim put together. -/
import Derived.Test.YtenagnncpaabdaaMi6
namespace Go.Proofs.Ytenagnncpaabdaa
open Go Go.RowKit
set_option maxRecDepth 100000
theorem applied_at (x : Co) (h : RightC x) : ∃ k : Nat, k ≤ x.tuple.log.length ∧ x.commit = x.tuple.snap.index + k ∧ x.applied = Zca x.tuple.snap (x.tuple.log.take k) ∧ x.applied.index = x.commit := by
 have hc := commit_bd h
 have hl : x.tuple.last = x.tuple.snap.index + x.tuple.log.length := rfl
 have hs := h.st
 unfold stOf at hs
 rw [if_pos hc] at hs
 have ha := Option.some.inj hs
 refine ⟨(x.commit - x.tuple.snap.index).toNat, by omega, by omega, ha.symm, ?_⟩
 have := (save_at x.tuple (x.commit - x.tuple.snap.index).toNat h.tup (by omega)).1
 rw [← ha, this]
 omega
theorem p_Compact_no (x : Co) (h : RightC x) (hc : x.commit ≤ x.tuple.snap.index) : Vg x = some (x, false) := by
 have hbd := h.bd
 obtain ⟨k, h1, h2, h3, h4⟩ := applied_at x h
 unfold Vg
 rw [p_mOwn x hbd, Zdf x hbd]
 unfold Zbt
 rw [Xn h]
 simp only [Option.bind_some, Bool.not_true, cond_false, Bool.cond_decide, h4, if_pos hc]
theorem p_Compact (x : Co) (h : RightC x) (hc : x.tuple.snap.index < x.commit) (hs : x.tuple.snap.index ≤ 1073739824) :
  Vg x = some ({ x with tuple := { x.tuple with snap := x.applied, log := x.tuple.log.drop (x.commit - x.tuple.snap.index).toNat } }, true) ∧ RightC { x with tuple := { x.tuple with snap := x.applied, log := x.tuple.log.drop (x.commit - x.tuple.snap.index).toNat } } ∧ x.applied.index = x.commit := by
 have hbd := h.bd
 have hxb := Zdg _ h.tup
 obtain ⟨k, h1, h2, h3, h4⟩ := applied_at x h
 have hk : (x.commit - x.tuple.snap.index).toNat = k := by omega
 rw [hk]
 obtain ⟨g1, g2⟩ := save_yes x.tuple k h.tup h1 (by omega)
 rw [← h3] at g1 g2
 have hT : Jo { x.tuple with snap := x.applied, log := x.tuple.log.drop k } = true := by
  have := (step_save x.tuple x.applied h.tup).right
  rw [g1] at this
  exact this
 have hl : ({ x.tuple with snap := x.applied, log := x.tuple.log.drop k } : Tu).last = x.tuple.last := by
  unfold Tu.last
  dsimp only
  rw [List.length_drop, h4]
  omega
 have hcb := commit_bd h
 refine ⟨?_, ⟨h.n, h.id, h.role, h.bin, hT, ?_, h.lv, h.ln, h.lm, h.lc, by dsimp only; rw [hl]; exact h.next, by dsimp only; rw [hl]; exact h.mtch, h.caps, h.own, h.lead⟩, h4⟩
 ·unfold Vg
  rw [p_mOwn x hbd, Zdf x hbd, q_Save x.tuple x.applied hbd.tup.1, g1, g2]
  unfold Zbt
  rw [Xn h]
  simp only [Option.bind_some, Bool.not_true, cond_false, Bool.cond_decide, h4, if_neg (show ¬ x.commit ≤ x.tuple.snap.index by omega), ne_eq, not_true, if_false]
 ·dsimp only
  unfold stOf
  rw [hl]
  dsimp only
  rw [if_pos (by omega), h4, Int.sub_self]
  rfl
theorem p_InstallCompacts (x : Co) : Jw x = some true := by
 obtain ⟨g, hg⟩ := p_Great_some x
 unfold Jw
 simp only [hg, Zfv, Option.bind_some]
 cases g with
 | true => rfl
 | false =>
 have hbd := (p_Great_no x hg).1
 simp only [cond_false, p_Right20 x hbd, Option.bind_some]
 unfold Zbt
 by_cases h : RightC x
 case neg => rw [Yc h]; rfl
 rw [Xn h]
 simp only [Bool.not_true, cond_false, Bool.cond_decide]
 by_cases c1 : 1073739824 < x.tuple.snap.index
 ·rw [if_pos c1]
 rw [if_neg c1]
 by_cases c2 : x.tuple.snap.index < x.commit
 case neg =>
  have same := p_Same20 x x hbd
  rw [decide_eq_true rfl] at same
  rw [p_Compact_no x h (by omega)]
  simp only [Option.bind_some, decide_eq_false c2, ne_eq, not_true, if_false, Bool.not_false, cond_true, same]
 obtain ⟨h1, h2, h3⟩ := p_Compact x h c2 (by omega)
 have hx0 := Zft x.tuple hbd.tup
 have hb2 := h2.bd
 have hcb := commit_bd h
 have hTail : Tail x.tuple { x.tuple with snap := x.applied, log := x.tuple.log.drop (x.commit - x.tuple.snap.index).toNat } x.commit := ⟨hbd.tup, hb2.tup, hcb.1, h3, rfl, hcb.2⟩
 have hno := p_Compact_no _ h2 (by dsimp only; omega)
 have hat := p_At12_no { x.tuple with snap := x.applied, log := x.tuple.log.drop (x.commit - x.tuple.snap.index).toNat } x.commit hb2.tup (.inl (by dsimp only; omega))
 have hxb := Zdg _ h.tup
 have hlen : x.tuple.last = x.tuple.snap.index + x.tuple.log.length := rfl
 have hy0 := Zft _ hb2.tup
 rw [h1]
 have e1 : ({ x with tuple := { x.tuple with snap := x.applied, log := x.tuple.log.drop (x.commit - x.tuple.snap.index).toNat } } : Co).commit = x.commit := rfl
 have e2 : ({ x with tuple := { x.tuple with snap := x.applied, log := x.tuple.log.drop (x.commit - x.tuple.snap.index).toNat } } : Co).applied = x.applied := rfl
 have e3 : ({ x with tuple := { x.tuple with snap := x.applied, log := x.tuple.log.drop (x.commit - x.tuple.snap.index).toNat } } : Co).tuple.snap = x.applied := rfl
 have e4 : ({ x with tuple := { x.tuple with snap := x.applied, log := x.tuple.log.drop (x.commit - x.tuple.snap.index).toNat } } : Co).tuple.term = x.tuple.term := rfl
 have e5 : ({ x with tuple := { x.tuple with snap := x.applied, log := x.tuple.log.drop (x.commit - x.tuple.snap.index).toNat } } : Co).tuple.vote = x.tuple.vote := rfl
 have e6 : ({ x with tuple := { x.tuple with snap := x.applied, log := x.tuple.log.drop (x.commit - x.tuple.snap.index).toNat } } : Co).role = x.role := rfl
 have e7 : ({ x with tuple := { x.tuple with snap := x.applied, log := x.tuple.log.drop (x.commit - x.tuple.snap.index).toNat } } : Co).tuple = { x.tuple with snap := x.applied, log := x.tuple.log.drop (x.commit - x.tuple.snap.index).toNat } := rfl
 rw [← e7] at hTail hat
 generalize hD : ({ x with tuple := { x.tuple with snap := x.applied, log := x.tuple.log.drop (x.commit - x.tuple.snap.index).toNat } } : Co) = D at *
 have hla := hTail.last
 have hl := tail_loop (Xu x (D, true)) x.tuple D.tuple x.commit hTail
  (fun n v j hj => by rw [Xu]; simp only [hx0, hno, hat, Zfv, Option.bind_some, Bool.cond_decide, if_neg hj, Bool.not_false, cond_true])
  (fun n v j e hj g1 g2 => by rw [Xu]; simp only [hx0, g1, g2, Option.bind_some, Bool.cond_decide, if_pos hj, decide_true, Bool.and_true, Bool.not_true, cond_false])
  (x.tuple.last - x.commit).toNat 0 X6 false (by omega) (by unfold X6; omega)
 rw [show x.commit + 1 + ((0 : Nat) : Int) = x.commit + 1 by omega] at hl
 simp only [Option.bind_some, decide_eq_true c2, ne_eq, not_true, if_false, Bool.not_true, cond_false, p_Right20 D hb2, Zbt, Xn h2, e1, e2, e3, e4, e5, e6, decide_true, Bool.and_true, hx0, hy0, hla, Zbp (n := x.commit + 1) (by omega), hl]
theorem entB_of {t T : Int} {l : List En} (h : Zbn t l = true) (hT : Jz t l ≤ T) : entB t T l := by
 induction l generalizing t with
 | nil => trivial
 | cons e l ih =>
  have h' := h
  simp only [Zbn, Bool.and_eq_true, decide_eq_true_eq] at h
  have := lastT_mono _ _ h.2
  exact ⟨h.1.1, ⟨h.1.2, Int.le_trans this hT⟩, ih h.2 hT⟩
theorem lastT_take (t : Int) (l : List En) (k : Nat) (h : Zbn t l = true) : Jz t (l.take k) ≤ Jz t l := by
 have := lastT_mono _ _ (logB_drop t l k h)
 rw [lastT_cut] at this
 exact this
def replM (x : Co) (dt nx : Int) : Ms := ⟨3, x.id, dt, x.tuple.term, x.binary, nx - 1, (Zaw x.tuple (nx - 1)).getD 0, x.commit, false, (x.tuple.log.drop (nx - x.tuple.snap.index - 1).toNat).take 4, ⟨0, 0, 0, 0, false⟩⟩
def instM (x : Co) (dt : Int) : Ms := ⟨5, x.id, dt, x.tuple.term, x.binary, 0, 0, 0, false, [], x.tuple.snap⟩
def zeroM : Ms := ⟨0, 0, 0, 0, 0, 0, 0, 0, false, [], ⟨0, 0, 0, 0, false⟩⟩
theorem replM_fine (x : Co) (dt nx : Int) (h : RightC x) (hr : x.role = 2) (ht : 1 ≤ dt ∧ dt ≤ x.n ∧ dt ≠ x.id) (h1 : x.tuple.snap.index < nx) (h2 : nx ≤ x.tuple.last + 1) : FineM (replM x dt nx) x.n := by
 obtain ⟨g1, g2, g3, g4⟩ := (Zex _).1 h.tup
 have hxb := Zdg _ h.tup
 have hlen : x.tuple.last = x.tuple.snap.index + x.tuple.log.length := rfl
 have hcb := commit_bd h
 obtain ⟨k, hk⟩ : ∃ k : Nat, nx - 1 = x.tuple.snap.index + (k : Int) := ⟨(nx - 1 - x.tuple.snap.index).toNat, by omega⟩
 have hta := termAt_log x.tuple k (by omega)
 rw [← hk] at hta
 have hs0 : 0 ≤ x.tuple.snap.term := by
  rcases g1 with h | h
  ·rw [h]; decide
  ·omega
 have hm1 := lastT_mono _ _ (Zfm _ _ k g3)
 have hm2 := lastT_take _ _ k g3
 have hd := logB_drop _ _ k g3
 have hd4 := Zfm _ _ 4 hd
 have hd5 := lastT_take _ _ 4 hd
 rw [lastT_cut] at hd5
 have hlead : 0 < x.tuple.term := by rcases h.lead with h | h; omega; exact h.1
 have hid := h.id
 have hlt : 0 ≤ Jz x.tuple.snap.term (x.tuple.log.take k) ∧ Jz x.tuple.snap.term (x.tuple.log.take k) ≤ 1073741824 := by omega
 have hent : entB (Jz x.tuple.snap.term (x.tuple.log.take k)) x.tuple.term ((x.tuple.log.drop k).take 4) := entB_of hd4 (by omega)
 unfold replM
 rw [hta, show (nx - x.tuple.snap.index - 1).toNat = k by omega]
 refine ⟨h.n, hid, ⟨ht.1, ht.2.1⟩, fun h => ht.2.2 h.symm, by dsimp only; omega, ⟨by dsimp only; omega, g2.2.2.2.2⟩, h.bin, ⟨by dsimp only; omega, by dsimp only; omega⟩, hlt, ⟨by dsimp only; omega, by dsimp only; omega⟩, hent, by dsimp only; rw [List.length_take]; omega, fun h => (h rfl).elim, (fun h => by cases h), fun h => by dsimp only at h; omega, fun _ => rfl⟩
theorem instM_fine (x : Co) (dt : Int) (h : RightC x) (hr : x.role = 2) (ht : 1 ≤ dt ∧ dt ≤ x.n ∧ dt ≠ x.id) (h1 : 0 < x.tuple.snap.index) : FineM (instM x dt) x.n := by
 obtain ⟨g1, g2, g3, g4⟩ := (Zex _).1 h.tup
 have hlead : 0 < x.tuple.term := by rcases h.lead with h | h; omega; exact h.1
 unfold instM
 exact ⟨h.n, h.id, ⟨ht.1, ht.2.1⟩, fun h => ht.2.2 h.symm, by dsimp only; omega, ⟨by dsimp only; omega, g2.2.2.2.2⟩, h.bin, ⟨Int.le_refl 0, (by decide : (0 : Int) ≤ 1073741824)⟩, ⟨Int.le_refl 0, (by decide : (0 : Int) ≤ 1073741824)⟩, ⟨Int.le_refl 0, (by decide : (0 : Int) ≤ 1073741824)⟩, trivial, by simp, fun _ => ⟨rfl, rfl⟩, (fun h => by cases h), fun _ => ⟨h1, (Zak _).2 g1⟩, fun h => (h rfl).elim⟩
theorem repl_r1 (x : Co) (dt nx : Int) (t : Int × Bool) (l : List En) : ∀ (v : List En), v.length + l.length ≤ 1000000 → Vs x dt nx t l v = some (⟨3, x.id, dt, x.tuple.term, x.binary, IntKind.wrap .i64 (nx - 1), t.1, x.commit, false, v ++ l, ⟨0, 0, 0, 0, false⟩⟩, true) := by
 induction l with
 | nil => intro v _; rw [Vs]; simp
 | cons e l ih =>
  intro v hv
  rw [List.length_cons] at hv
  rw [Vs, Ze3 _ (by rw [List.length_append]; simp only [List.length_cons, List.length_nil]; omega), Option.bind_some]
  have := ih (v ++ [e]) (by rw [List.length_append]; simp only [List.length_cons, List.length_nil]; omega)
  rw [List.append_assoc] at this
  exact this
theorem next_in (x : Co) (dt : Int) (h : RightC x) (ht : 1 ≤ dt ∧ dt ≤ x.n) : ∃ nx, idx x.next (IntKind.wrap .i64 (dt - 1)) = some nx ∧ x.next[(dt - 1).toNat]? = some nx ∧ 1 ≤ nx ∧ nx ≤ x.tuple.last + 1 := by
 have h1 := h.ln
 obtain ⟨e, he, he2, hw⟩ := idx_in x.next dt (by omega) (by have := h.n; omega)
 rw [hw]
 have := h.next.get he2
 exact ⟨e, he, he2, this.1, this.2⟩
theorem p_rMessage (x : Co) (dt nx : Int) (h : RightC x) (hr : x.role = 2) (ht : 1 ≤ dt ∧ dt ≤ x.n) (hn : idx x.next (IntKind.wrap .i64 (dt - 1)) = some nx) (hb : 1 ≤ nx ∧ nx ≤ x.tuple.last + 1) :
  Jt x dt = some (if dt = x.id ∨ nx ≤ x.tuple.snap.index then (zeroM, false) else (replM x dt nx, true)) := by
 have hbd := h.bd
 have hxb := Zdg _ h.tup
 have hlen : x.tuple.last = x.tuple.snap.index + x.tuple.log.length := rfl
 simp only [Jt, Zdf x hbd, Zbt, Xn h, Option.bind_some, Bool.not_true, cond_false, Bool.cond_decide, if_neg (show ¬ x.role ≠ 2 from fun h => h hr), if_neg (show ¬ dt < 1 by omega), if_neg (show ¬ x.n < dt by omega), hn]
 by_cases c1 : dt = x.id
 ·rw [if_pos c1, if_pos (.inl c1)]; rfl
 rw [if_neg c1]
 by_cases c2 : nx ≤ x.tuple.snap.index
 ·rw [if_pos c2, if_pos (.inr c2)]; rfl
 rw [if_neg c2, if_neg (fun h => h.elim c1 c2)]
 have hf : Zfr x.tuple nx 4 = some ((x.tuple.log.drop (nx - x.tuple.snap.index - 1).toNat).take 4) := by
  unfold Zfr
  rw [if_pos ⟨hbd.tup, ⟨by omega, by omega⟩, by decide, by decide⟩, if_pos (by omega)]
  rfl
 rw [p_tTermAt x.tuple _ hbd.tup, Option.bind_some, hf, Option.bind_some, repl_r1 _ _ _ _ _ [] (by rw [List.length_nil, List.length_take]; omega), Zbp (n := nx - 1) (by omega), List.nil_append]
 rfl
theorem p_iMessage (x : Co) (dt nx : Int) (h : RightC x) (hr : x.role = 2) (ht : 1 ≤ dt ∧ dt ≤ x.n) (hn : idx x.next (IntKind.wrap .i64 (dt - 1)) = some nx) :
  X4 x dt = some (if dt = x.id ∨ x.tuple.snap.index < nx then (zeroM, false) else (instM x dt, true)) := by
 have hbd := h.bd
 simp only [X4, Zdf x hbd, Zbt, Xn h, Option.bind_some, Bool.not_true, cond_false, Bool.cond_decide, if_neg (show ¬ x.role ≠ 2 from fun h => h hr), if_neg (show ¬ dt < 1 by omega), if_neg (show ¬ x.n < dt by omega), hn]
 by_cases c1 : dt = x.id
 ·rw [if_pos c1, if_pos (.inl c1)]; rfl
 rw [if_neg c1]
 by_cases c2 : x.tuple.snap.index < nx
 ·rw [if_pos c2, if_pos (.inr c2)]; rfl
 rw [if_neg c2, if_neg (fun h => h.elim c1 c2)]
 rfl
theorem p_rMessage_no (x : Co) (dt : Int) (h : RightC x) (hr : x.role ≠ 2) : Jt x dt = some (zeroM, false) := by
 simp only [Jt, Zdf x h.bd, Zbt, Xn h, Option.bind_some, Bool.not_true, cond_false, Bool.cond_decide, if_pos (show x.role ≠ 2 from hr)]
 rfl
theorem p_iMessage_no (x : Co) (dt : Int) (h : RightC x) (hr : x.role ≠ 2) : X4 x dt = some (zeroM, false) := by
 simp only [X4, Zdf x h.bd, Zbt, Xn h, Option.bind_some, Bool.not_true, cond_false, Bool.cond_decide, if_pos (show x.role ≠ 2 from hr)]
 rfl
def nxAt (x : Co) (i : Nat) : Int := (x.next[i]?).getD 0
def sentM (x : Co) (i : Nat) : Ms := if nxAt x i ≤ x.tuple.snap.index then instM x ((i : Int) + 1) else replM x ((i : Int) + 1) (nxAt x i)
def beatL (x : Co) : Nat → Nat → List (Int × Ms)
 | 0, _ => []
 | q + 1, i => if (i : Int) + 1 = x.id then beatL x q (i + 1) else ((i : Int) + 1, sentM x i) :: beatL x q (i + 1)
def behL (x : Co) : Nat → Nat → List (Int × Ms)
 | 0, _ => []
 | q + 1, i => if (i : Int) + 1 = x.id ∨ x.tuple.snap.index < nxAt x i then behL x q (i + 1) else ((i : Int) + 1, instM x ((i : Int) + 1)) :: behL x q (i + 1)
theorem send_r : sendOf 45 = Jt := by unfold sendOf; rw [if_pos rfl]
theorem send_i : sendOf 26 = X4 := by unfold sendOf; rw [if_neg (by decide), if_pos rfl]
theorem nx_in (x : Co) (i : Nat) (h : RightC x) (hi : (i : Int) + 1 ≤ x.n) : idx x.next (IntKind.wrap .i64 ((i : Int) + 1 - 1)) = some (nxAt x i) ∧ 1 ≤ nxAt x i ∧ nxAt x i ≤ x.tuple.last + 1 := by
 obtain ⟨nx, h1, h2, h3, h4⟩ := next_in x ((i : Int) + 1) h (by omega)
 rw [show ((i : Int) + 1 - 1).toNat = i by omega] at h2
 unfold nxAt
 rw [h2]
 exact ⟨h1, h3, h4⟩
theorem beat_nodes (x : Co) (h : RightC x) (hr : x.role = 2) : ∀ (q i : Nat), (i : Int) + q ≤ x.n → Zdz x [45, 26] q i = some (beatL x q i) := by
 intro q
 induction q with
 | zero => intro i _; rfl
 | succ q ih =>
  intro i hi
  obtain ⟨n1, n2, n3⟩ := nx_in x i h (by omega)
  have hj : Za0 x i [45, 26] = some (if (i : Int) + 1 = x.id then [] else [((i : Int) + 1, sentM x i)]) := by
   unfold Za0 Za0 Za0
   have r1 := p_rMessage x _ _ h hr (by omega) n1 ⟨n2, n3⟩
   have r2 := p_iMessage x _ _ h hr (by omega) n1
   rw [send_r, send_i]
   unfold sentM
   by_cases c1 : (i : Int) + 1 = x.id
   ·rw [if_pos (.inl c1)] at r1 r2
    rw [r1, r2, if_pos c1]; rfl
   ·by_cases c2 : nxAt x i ≤ x.tuple.snap.index
    ·rw [if_pos (.inr c2)] at r1
     rw [if_neg (fun h => h.elim c1 (by omega))] at r2
     rw [r1, r2, if_neg c1, if_pos c2]; rfl
    ·rw [if_neg (fun h => h.elim c1 c2)] at r1
     rw [if_pos (.inr (by omega))] at r2
     rw [r1, r2, if_neg c1, if_neg c2]; rfl
  rw [Zdz, hj, Option.bind_some, ih (i + 1) (by omega), Option.bind_some, beatL]
  split <;> rfl
theorem beh_nodes (x : Co) (h : RightC x) (hr : x.role = 2) : ∀ (q i : Nat), (i : Int) + q ≤ x.n → Zdz x [26] q i = some (behL x q i) := by
 intro q
 induction q with
 | zero => intro i _; rfl
 | succ q ih =>
  intro i hi
  obtain ⟨n1, n2, n3⟩ := nx_in x i h (by omega)
  have hj : Za0 x i [26] = some (if (i : Int) + 1 = x.id ∨ x.tuple.snap.index < nxAt x i then [] else [((i : Int) + 1, instM x ((i : Int) + 1))]) := by
   unfold Za0 Za0
   rw [send_i, p_iMessage x _ _ h hr (by omega) n1]
   simp only [Option.bind_some]
   split <;> rfl
  rw [Zdz, hj, Option.bind_some, ih (i + 1) (by omega), Option.bind_some, behL]
  split <;> rfl
theorem no_nodes (x : Co) (h : RightC x) (hr : x.role ≠ 2) : ∀ (q i : Nat), Zdz x [45, 26] q i = some [] ∧ Zdz x [26] q i = some [] := by
 intro q
 induction q with
 | zero => intro i; exact ⟨rfl, rfl⟩
 | succ q ih =>
  intro i
  have h1 : Za0 x i [45, 26] = some [] := by
   unfold Za0 Za0 Za0
   rw [send_r, send_i, p_rMessage_no x _ h hr, p_iMessage_no x _ h hr]; rfl
  have h2 : Za0 x i [26] = some [] := by
   unfold Za0 Za0
   rw [send_i, p_iMessage_no x _ h hr]; rfl
  rw [Zdz, Zdz, h1, h2, Option.bind_some, Option.bind_some, (ih (i + 1)).1, (ih (i + 1)).2]
  exact ⟨rfl, rfl⟩
theorem beatL_len (x : Co) : ∀ (q i : Nat), (beatL x q i).length ≤ q ∧ (behL x q i).length ≤ q := by
 intro q
 induction q with
 | zero => intro i; exact ⟨Nat.le_refl 0, Nat.le_refl 0⟩
 | succ q ih =>
  intro i
  have := ih (i + 1)
  rw [beatL, behL]
  constructor
  ·split <;> (try simp only [List.length_cons]) <;> omega
  ·split <;> (try simp only [List.length_cons]) <;> omega
theorem beat_r1 (l : List (Int × Ms)) : ∀ v : List Ms, v.length + l.length ≤ 1000000 → Vt l v = some (v ++ l.map Prod.snd) := by
 induction l with
 | nil => intro v _; rw [Vt]; simp
 | cons e l ih =>
  intro v hv
  rw [List.length_cons] at hv
  rw [Vt, Ze3 _ (by rw [List.length_append]; simp only [List.length_cons, List.length_nil]; omega), Option.bind_some]
  have := ih (v ++ [e.2]) (by rw [List.length_append]; simp only [List.length_cons, List.length_nil]; omega)
  rw [List.append_assoc] at this
  exact this
theorem beh_r1 (l : List (Int × Ms)) : ∀ v : List Int, v.length + l.length ≤ 1000000 → Ve l v = some (v ++ l.map Prod.fst) := by
 induction l with
 | nil => intro v _; rw [Ve]; simp
 | cons e l ih =>
  intro v hv
  rw [List.length_cons] at hv
  rw [Ve, Ze3 _ (by rw [List.length_append]; simp only [List.length_cons, List.length_nil]; omega), Option.bind_some]
  have := ih (v ++ [e.1]) (by rw [List.length_append]; simp only [List.length_cons, List.length_nil]; omega)
  rw [List.append_assoc] at this
  exact this
theorem p_Beat (x : Co) (h : RightC x) (hr : x.role = 2) : Ju x = some ((beatL x x.n.toNat 0).map Prod.snd) ∧ Vl x = some ((behL x x.n.toNat 0).map Prod.fst) := by
 have hn := h.n
 have hl := beatL_len x x.n.toNat 0
 have e : (min (max x.n 0) 5).toNat = x.n.toNat := by omega
 unfold Ju Vl Zdy
 rw [if_pos (by simp), if_pos (by simp), e, beat_nodes x h hr _ _ (by omega), beh_nodes x h hr _ _ (by omega), Option.bind_some, Option.bind_some, beat_r1 _ [] (by simp; omega), beh_r1 _ [] (by simp; omega)]
 exact ⟨rfl, rfl⟩
theorem p_Beat_no (x : Co) (h : RightC x) (hr : x.role ≠ 2) : Ju x = some [] ∧ Vl x = some [] := by
 unfold Ju Vl Zdy
 rw [if_pos (by simp), if_pos (by simp), (no_nodes x h hr _ _).1, (no_nodes x h hr _ _).2]
 exact ⟨rfl, rfl⟩
theorem drop_cons {α : Type} {l : List α} {k : Nat} {a : α} {t : List α} (h : l.drop k = a :: t) : l[k]? = some a ∧ l.drop (k + 1) = t ∧ k < l.length := by
 have h1 : l[k]? = some a := by
  have : (l.drop k)[0]? = some a := by rw [h]; rfl
  rw [List.getElem?_drop] at this
  simpa using this
 refine ⟨h1, ?_, (List.getElem?_eq_some_iff.1 h1).1⟩
 rw [← List.drop_drop, h]
 rfl
theorem beats_l1 (x : Co) (h : RightC x) (hr : x.role = 2) (L1 : List Ms) (L2 : List Int) (hl1 : L1.length ≤ 1000000) (hl2 : L2.length ≤ 1000000) : ∀ (q n i k c : Nat) (v : Bool), (i : Int) + q = x.n → L1.drop k = (beatL x q i).map Prod.snd → L2.drop c = (behL x q i).map Prod.fst → k ≤ L1.length → c ≤ L2.length → q < n →
  Y7 x L1 L2 n v k c ((i : Int) + 1) = some true := by
 have hn := h.n
 have hxb := Zdg _ h.tup
 intro q
 induction q with
 | zero =>
  intro n i k c v hi h1 h2 hk hc hq
  obtain ⟨n, rfl⟩ : ∃ n', n = n' + 1 := ⟨n - 1, by omega⟩
  have k1 : L1.length - k = 0 := by rw [← List.length_drop, h1]; rfl
  have k2 : L2.length - c = 0 := by rw [← List.length_drop, h2]; rfl
  rw [Y7]
  simp only [Bool.cond_decide, if_neg (show ¬ (i : Int) + 1 ≤ x.n by omega), if_pos (show (k : Int) = (L1.length : Int) by omega), if_pos (show (c : Int) = (L2.length : Int) by omega), Zfv, Option.bind_some]
 | succ q ih =>
  intro n i k c v hi h1 h2 hk hc hq
  obtain ⟨n, rfl⟩ : ∃ n', n = n' + 1 := ⟨n - 1, by omega⟩
  obtain ⟨n1, n2, n3⟩ := nx_in x i h (by omega)
  have w1 : IntKind.wrap .i64 ((i : Int) + 1 + 1) = ((i + 1 : Nat) : Int) + 1 := by rw [Zbp (by omega)]; omega
  have w2 : IntKind.wrap .i64 ((k : Int) + 1) = ((k + 1 : Nat) : Int) := by rw [Zbp (by omega)]; omega
  have w3 : IntKind.wrap .i64 ((c : Int) + 1) = ((c + 1 : Nat) : Int) := by rw [Zbp (by omega)]; omega
  rw [Y7]
  simp only [Bool.cond_decide, if_pos (show (i : Int) + 1 ≤ x.n by omega), w1, w2, w3, n1, Option.bind_some]
  by_cases c1 : (i : Int) + 1 = x.id
  ·rw [if_pos c1]
   rw [beatL, if_pos c1] at h1
   rw [behL, if_pos (.inl c1)] at h2
   exact ih n (i + 1) k c v (by omega) h1 h2 hk hc (by omega)
  rw [if_neg c1]
  rw [beatL, if_neg c1, List.map_cons] at h1
  obtain ⟨g1, g2, g3⟩ := drop_cons h1
  dsimp only at g1
  have gi : idx L1 (k : Int) = some (sentM x i) := by rw [Zan]; exact g1
  rw [if_neg (show ¬ (L1.length : Int) ≤ (k : Int) by omega)]
  simp only [gi, Option.bind_some]
  by_cases c2 : nxAt x i ≤ x.tuple.snap.index
  ·have hs : sentM x i = instM x ((i : Int) + 1) := by unfold sentM; rw [if_pos c2]
   have hF := instM_fine x ((i : Int) + 1) h hr ⟨by omega, by omega, c1⟩ (by omega)
   have hF2 := p_Fine20 (instM x ((i : Int) + 1)) x.n ⟨by show (0 : Int) ≤ 5 ∧ (5 : Int) ≤ 255; decide, by show (0 : Nat) ≤ 1000000; omega⟩
   unfold fineM at hF2
   rw [Xn hF] at hF2
   rw [behL, if_neg (fun h => h.elim c1 (by omega)), List.map_cons] at h2
   obtain ⟨j1, j2, j3⟩ := drop_cons h2
   dsimp only at j1
   have ji : idx L2 (c : Int) = some ((i : Int) + 1) := by rw [Zan]; exact j1
   have hih := ih n (i + 1) (k + 1) (c + 1) v (by omega) g2 j2 (by omega) (by omega) (by omega)
   have e1 : (instM x ((i : Int) + 1)).dst = (i : Int) + 1 := rfl
   have e2 : (instM x ((i : Int) + 1)).term = x.tuple.term := rfl
   have e3 : (instM x ((i : Int) + 1)).kind = 5 := rfl
   have e4 : (instM x ((i : Int) + 1)).snap = x.tuple.snap := rfl
   rw [hs]
   simp only [e1, e2, e3, e4, hF2, Option.bind_some, ne_eq, not_true, if_false, Bool.not_true, cond_false, decide_eq_true c2, if_pos c2, if_neg (show ¬ (L2.length : Int) ≤ (c : Int) by omega), ji, decide_true, Bool.and_true, hih]
  ·have hs : sentM x i = replM x ((i : Int) + 1) (nxAt x i) := by unfold sentM; rw [if_neg c2]
   have hF := replM_fine x ((i : Int) + 1) (nxAt x i) h hr ⟨by omega, by omega, c1⟩ (by omega) n3
   have hF2 := p_Fine20 (replM x ((i : Int) + 1) (nxAt x i)) x.n ⟨by show (0 : Int) ≤ 3 ∧ (3 : Int) ≤ 255; decide, by show (List.take 4 _).length ≤ 1000000; rw [List.length_take]; omega⟩
   unfold fineM at hF2
   rw [Xn hF] at hF2
   rw [behL, if_pos (.inr (by omega))] at h2
   have hih := ih n (i + 1) (k + 1) c v (by omega) g2 h2 (by omega) hc (by omega)
   have e1 : (replM x ((i : Int) + 1) (nxAt x i)).dst = (i : Int) + 1 := rfl
   have e2 : (replM x ((i : Int) + 1) (nxAt x i)).term = x.tuple.term := rfl
   have e3 : (replM x ((i : Int) + 1) (nxAt x i)).kind = 3 := rfl
   rw [hs]
   simp only [e1, e2, e3, hF2, Option.bind_some, ne_eq, not_true, if_false, Bool.not_true, cond_false, decide_eq_false c2, if_neg c2, decide_eq_false (show ¬ (3 : Int) = 5 by decide), hih]
theorem p_InstallBeats (x : Co) : Zal x = some true := by
 obtain ⟨g, hg⟩ := p_Great_some x
 unfold Zal
 simp only [hg, Zfv, Option.bind_some]
 cases g with
 | true => rfl
 | false =>
 have hbd := (p_Great_no x hg).1
 simp only [cond_false, p_Right20 x hbd, Option.bind_some]
 unfold Zbt
 by_cases h : RightC x
 case neg => rw [Yc h]; rfl
 rw [Xn h]
 simp only [Bool.not_true, cond_false, Bool.cond_decide]
 by_cases hr : x.role = 2
 ·have hn := h.n
  have hl := beatL_len x x.n.toNat 0
  rw [(p_Beat x h hr).1, (p_Beat x h hr).2]
  simp only [Option.bind_some, if_neg (show ¬ x.role ≠ 2 from fun h => h hr)]
  have := beats_l1 x h hr ((beatL x x.n.toNat 0).map Prod.snd) ((behL x x.n.toNat 0).map Prod.fst) (by rw [List.length_map]; omega) (by rw [List.length_map]; omega) x.n.toNat X6 0 0 0 false (by omega) rfl rfl (Nat.zero_le _) (Nat.zero_le _) (by unfold X6; omega)
  exact this
 ·rw [(p_Beat_no x h hr).1, (p_Beat_no x h hr).2]
  simp only [Option.bind_some, if_pos (show x.role ≠ 2 from hr)]
  rfl
end Go.Proofs.Ytenagnncpaabdaa
