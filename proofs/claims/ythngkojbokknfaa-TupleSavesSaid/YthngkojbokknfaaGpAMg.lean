/- Plain laws of what printed functions compute: small numbers, places of lists. -/
import Derived.Test.YthngkojbokknfaaGxCMg
namespace Go.Proofs.Ythngkojbokknfaa
open Go Go.RowKit
theorem w64i {n : Int} (h : -9223372036854775808 ≤ n ∧ n ≤ 9223372036854775807) : IntKind.wrap .i64 n = n := i64_in' h
theorem idx_nat {α : Type} (l : List α) (k : Nat) : idx l (k : Int) = l[k]? := by unfold idx; simp
theorem takeI_nat {α : Type} (l : List α) (k : Nat) (h : k ≤ l.length) : takeI l (k : Int) = some (l.take k) := by unfold takeI; rw [if_pos (by omega)]; simp
theorem dropI_nat {α : Type} (l : List α) (k : Nat) (h : k ≤ l.length) : dropI l (k : Int) = some (l.drop k) := by unfold dropI; rw [if_pos (by omega)]; simp
theorem fewI_ok {α : Type} (l : List α) (h : l.length ≤ 1000000000) : fewI l = some l := if_pos h
theorem remI_ok (m n : Int) (h : n ≠ 0) : remI m n = some (m.tmod n) := if_pos h
theorem makeI_nat {α : Type} (z : α) (n : Nat) (h : n ≤ 1000000000) : makeI z (n : Int) = some (List.replicate n z) := by unfold makeI; rw [if_pos (by omega)]; simp
theorem drop_step {α : Type} {l : List α} {k : Nat} (h : k < l.length) : ∃ e, l[k]? = some e ∧ l.drop k = e :: l.drop (k + 1) := ⟨l[k], List.getElem?_eq_getElem h, List.drop_eq_getElem_cons h⟩
/-- An index that is made to be one of so many. -/
theorem rem_two (a : Int) (n : Nat) (hn : n ≤ 1000000000) : ∃ k : Nat, k ≤ n ∧ (remI a (IntKind.wrap .i64 ((n : Int) + 1))).bind (fun _ => remI (IntKind.wrap .i64 ((Int.tmod a (IntKind.wrap .i64 ((n : Int) + 1))) + (IntKind.wrap .i64 ((n : Int) + 1)))) (IntKind.wrap .i64 ((n : Int) + 1))) = some (k : Int) ∧
    Int.tmod (IntKind.wrap .i64 ((Int.tmod a (IntKind.wrap .i64 ((n : Int) + 1))) + (IntKind.wrap .i64 ((n : Int) + 1)))) (IntKind.wrap .i64 ((n : Int) + 1)) = (k : Int) := by
  have hp : (0 : Int) < (n : Int) + 1 := by omega
  have h1 := Int.tmod_lt_of_pos a hp
  have h2 := Int.tmod_lt_of_pos (-a) hp
  rw [Int.neg_tmod] at h2
  rw [w64i (n := (n : Int) + 1) (by omega)]
  rw [w64i (n := a.tmod ((n : Int) + 1) + ((n : Int) + 1)) (by omega)]
  have h3 : 0 ≤ a.tmod ((n : Int) + 1) + ((n : Int) + 1) := by omega
  have h4 := Int.emod_nonneg (a.tmod ((n : Int) + 1) + ((n : Int) + 1)) (by omega : ((n : Int) + 1) ≠ 0)
  have h5 := Int.emod_lt_of_pos (a.tmod ((n : Int) + 1) + ((n : Int) + 1)) hp
  have h6 : Int.tmod (a.tmod ((n : Int) + 1) + ((n : Int) + 1)) ((n : Int) + 1) = (((a.tmod ((n : Int) + 1) + ((n : Int) + 1)) % ((n : Int) + 1)).toNat : Int) := by
    rw [Int.tmod_eq_emod_of_nonneg h3]; omega
  refine ⟨((a.tmod ((n : Int) + 1) + ((n : Int) + 1)) % ((n : Int) + 1)).toNat, by omega, ?_, h6⟩
  rw [remI_ok _ _ (by omega), Option.bind_some, remI_ok _ _ (by omega), h6]
theorem snap_eq (a b : St) : (decide (a.index = b.index) && (decide (a.term = b.term) && (decide (a.sum = b.sum) && (decide (a.level = b.level) && decide (a.final = b.final))))) = decide (a = b) := by
  obtain ⟨a1, a2, a3, a4, a5⟩ := a; obtain ⟨b1, b2, b3, b4, b5⟩ := b
  rw [Bool.eq_iff_iff]; simp
theorem en_eq (a b : En) : (decide (a.term = b.term) && (decide (a.kind = b.kind) && decide (a.value = b.value))) = decide (a = b) := by
  obtain ⟨a1, a2, a3⟩ := a; obtain ⟨b1, b2, b3⟩ := b
  rw [Bool.eq_iff_iff]; simp
end Go.Proofs.Ythngkojbokknfaa
