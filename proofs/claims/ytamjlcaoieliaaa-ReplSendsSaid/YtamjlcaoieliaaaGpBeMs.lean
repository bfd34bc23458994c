/- Texts of one claim put together. -/
import Derived.Test.YtamjlcaoieliaaaMs6
namespace Go.Proofs.Ytamjlcaoieliaaa
open Go Go.RowKit
set_option maxRecDepth 100000
theorem entB_of {t T : Int} {l : List En} (h : Zci t l = true) (hT : Zam t l ≤ T) : entB t T l := by
 induction l generalizing t with
 | nil => trivial
 | cons e l ih =>
  have h' := h
  simp only [Zci, Bool.and_eq_true, decide_eq_true_eq] at h
  have := Zfq _ _ h.2
  exact ⟨h.1.1, ⟨h.1.2, Int.le_trans this hT⟩, ih h.2 hT⟩
theorem lastT_take (t : Int) (l : List En) (k : Nat) (h : Zci t l = true) : Zam t (l.take k) ≤ Zam t l := by
 have := Zfq _ _ (logB_drop t l k h)
 rw [lastT_cut] at this
 exact this
def Zaz (x : Co) (dt nx : Int) : Ms := ⟨3, x.id, dt, x.tuple.term, x.binary, nx - 1, (Zba x.tuple (nx - 1)).getD 0, x.commit, false, (x.tuple.log.drop (nx - x.tuple.snap.index - 1).toNat).take 4, ⟨0, 0, 0, 0, false⟩⟩
def zeroM : Ms := ⟨0, 0, 0, 0, 0, 0, 0, 0, false, [], ⟨0, 0, 0, 0, false⟩⟩
theorem replM_fine (x : Co) (dt nx : Int) (h : RightC x) (hr : x.role = 2) (ht : 1 ≤ dt ∧ dt ≤ x.n ∧ dt ≠ x.id) (h1 : x.tuple.snap.index < nx) (h2 : nx ≤ x.tuple.last + 1) : FineM (Zaz x dt nx) x.n := by
 obtain ⟨g1, g2, g3, g4⟩ := (Zfj _).1 h.tup
 have hxb := Zea _ h.tup
 have hlen : x.tuple.last = x.tuple.snap.index + x.tuple.log.length := rfl
 have hcb := commit_bd h
 obtain ⟨k, hk⟩ : ∃ k : Nat, nx - 1 = x.tuple.snap.index + (k : Int) := ⟨(nx - 1 - x.tuple.snap.index).toNat, by omega⟩
 have hta := termAt_log x.tuple k (by omega)
 rw [← hk] at hta
 have hs0 : 0 ≤ x.tuple.snap.term := by
  rcases g1 with h | h
  ·rw [h]; decide
  ·omega
 have hm1 := Zfq _ _ (Zgs _ _ k g3)
 have hm2 := lastT_take _ _ k g3
 have hd := logB_drop _ _ k g3
 have hd4 := Zgs _ _ 4 hd
 have hd5 := lastT_take _ _ 4 hd
 rw [lastT_cut] at hd5
 have hlead : 0 < x.tuple.term := by rcases h.lead with h | h; omega; exact h.1
 have hid := h.id
 have hlt : 0 ≤ Zam x.tuple.snap.term (x.tuple.log.take k) ∧ Zam x.tuple.snap.term (x.tuple.log.take k) ≤ 1073741824 := by omega
 have hent : entB (Zam x.tuple.snap.term (x.tuple.log.take k)) x.tuple.term ((x.tuple.log.drop k).take 4) := entB_of hd4 (by omega)
 unfold Zaz
 rw [hta, show (nx - x.tuple.snap.index - 1).toNat = k by omega]
 refine ⟨h.n, hid, ⟨ht.1, ht.2.1⟩, fun h => ht.2.2 h.symm, by dsimp only; omega, ⟨by dsimp only; omega, g2.2.2.2.2⟩, h.bin, ⟨by dsimp only; omega, by dsimp only; omega⟩, hlt, ⟨by dsimp only; omega, by dsimp only; omega⟩, hent, by dsimp only; rw [List.length_take]; omega, fun h => (h rfl).elim, (fun h => by cases h), fun h => by dsimp only at h; omega, fun _ => rfl⟩
theorem repl_r1 (x : Co) (dt nx : Int) (t : Int × Bool) (l : List En) : ∀ (v : List En), v.length + l.length ≤ 1000000 → V4 x dt nx t l v = some (⟨3, x.id, dt, x.tuple.term, x.binary, IntKind.wrap .i64 (nx - 1), t.1, x.commit, false, v ++ l, ⟨0, 0, 0, 0, false⟩⟩, true) := by
 induction l with
 | nil => intro v _; rw [V4]; simp
 | cons e l ih =>
  intro v hv
  rw [List.length_cons] at hv
  rw [V4, Zez _ (by rw [List.length_append]; simp only [List.length_cons, List.length_nil]; omega), Option.bind_some]
  have := ih (v ++ [e]) (by rw [List.length_append]; simp only [List.length_cons, List.length_nil]; omega)
  rw [List.append_assoc] at this
  exact this
theorem next_in (x : Co) (dt : Int) (h : RightC x) (ht : 1 ≤ dt ∧ dt ≤ x.n) : ∃ nx, idx x.next (IntKind.wrap .i64 (dt - 1)) = some nx ∧ x.next[(dt - 1).toNat]? = some nx ∧ 1 ≤ nx ∧ nx ≤ x.tuple.last + 1 := by
 have h1 := h.ln
 obtain ⟨e, he, he2, hw⟩ := idx_in x.next dt (by omega) (by have := h.n; omega)
 rw [hw]
 have := h.next.get he2
 exact ⟨e, he, he2, this.1, this.2⟩
theorem p_rMessage (x : Co) (dt nx : Int) (h : RightC x) (hr : x.role = 2) (ht : 1 ≤ dt ∧ dt ≤ x.n) (hn : idx x.next (IntKind.wrap .i64 (dt - 1)) = some nx) (hb : 1 ≤ nx ∧ nx ≤ x.tuple.last + 1) :
  X6 x dt = some (if dt = x.id ∨ nx ≤ x.tuple.snap.index then (zeroM, false) else (Zaz x dt nx, true)) := by
 have hbd := h.bd
 have hxb := Zea _ h.tup
 have hlen : x.tuple.last = x.tuple.snap.index + x.tuple.log.length := rfl
 simp only [X6, Zfh x hbd, Zd4, Vb h, Option.bind_some, Bool.not_true, cond_false, Bool.cond_decide, if_neg (show ¬ x.role ≠ 2 from fun h => h hr), if_neg (show ¬ dt < 1 by omega), if_neg (show ¬ x.n < dt by omega), hn]
 by_cases c1 : dt = x.id
 ·rw [if_pos c1, if_pos (.inl c1)]; rfl
 rw [if_neg c1]
 by_cases c2 : nx ≤ x.tuple.snap.index
 ·rw [if_pos c2, if_pos (.inr c2)]; rfl
 rw [if_neg c2, if_neg (fun h => h.elim c1 c2)]
 have hf : Zgw x.tuple nx 4 = some ((x.tuple.log.drop (nx - x.tuple.snap.index - 1).toNat).take 4) := by
  unfold Zgw
  rw [if_pos ⟨hbd.tup, ⟨by omega, by omega⟩, by decide, by decide⟩, if_pos (by omega)]
  rfl
 rw [p_tTermAt x.tuple _ hbd.tup, Option.bind_some, hf, Option.bind_some, repl_r1 _ _ _ _ _ [] (by rw [List.length_nil, List.length_take]; omega), J2 (n := nx - 1) (by omega), List.nil_append]
 rfl
theorem p_rMessage_no (x : Co) (dt : Int) (h : RightC x) (hr : x.role ≠ 2) : X6 x dt = some (zeroM, false) := by
 simp only [X6, Zfh x h.bd, Zd4, Vb h, Option.bind_some, Bool.not_true, cond_false, Bool.cond_decide, if_pos (show x.role ≠ 2 from hr)]
 rfl
end Go.Proofs.Ytamjlcaoieliaaa
