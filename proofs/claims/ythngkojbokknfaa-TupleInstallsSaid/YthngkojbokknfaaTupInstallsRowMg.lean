/-
  TupleInstalls: for any tuple that may be, and any state that may be: installed from another tuple with the same entries up to there, entries behind stay, else there are none; what is at or below Snap's index is none. The law returns true, and the arguments read afterwards as before. No condition.
-/
import Derived.Test.YthngkojbokknfaaMg1
import Derived.Test.YthngkojbokknfaaTupLiMg
import Derived.ProofKit
import Derived.OpenShut
namespace Go.Proofs.Ythngkojbokknfaa
open Go Go.ChangeShapes Go.WideShapes Go.ChangeAt Go.RowKit

namespace tupleInstalls
set_option maxRecDepth 100000 in
theorem lifted (os : Os) (started : os.Started) (H : Type) (enc : TypeId × Value → H) :
    ReturnsInHanded {} Try.checked os 6 .any (Rows.tupleInstallsSpec.pre6 enc Try.prog Try.f6 Rows.tupleInstallsRow.domain false) (Rows.tupleInstallsSpec.post enc Try.prog Try.f6 false true false false) := by
  refine returnsInHanded_of_change (C := Try.checked) own started (by kernel_rfl) Try.func6
    (ChangeSpec.witness6 (enc := enc) (C := Try.checked) false ⟨#[], #[.agg #[.int .i64 0, .int .i64 0, .int .i64 0, .int .i64 0, .bool false, .slice none 0 0, .int .i64 0, .int .i64 0], .agg #[.int .i64 0, .int .i64 0, .int .i64 0, .int .i64 0, .bool false]], []⟩ 8 (by kernel_rfl) (by kernel_rfl) (by kernel_rfl) (by kernel_rfl)) ?_
  intro W base args ds gs before hval0 hW _ _
  have hval : ∀ (j : Nat) t v, Try.f6.params[j]? = some t → args[j]? = some v → Value.okWide Try.prog W .any base t v := hval0
  have hW' := hW
  obtain ⟨p, q, hA0, hV, rfl, hfz, hnd⟩ := hW
  have hA : DataW.TrodAll enc Try.prog W 0 (fun _ => true) true Try.f6.params.toList args.toList ds p := hA0
  rw [Try.params6] at hA hval
  obtain ⟨v0, vs0, d0, ds0, p0, q0, hargs, rfl, rfl, h0, r0⟩ := trodAll_cons hA
  obtain ⟨v1, vs1, d1, ds1, p1, q1, rfl, rfl, rfl, h1, r1⟩ := trodAll_cons r0
  obtain ⟨rfl, rfl, rfl⟩ := trodAll_nil r1
  obtain rfl : args = #[v0, v1] := by cases args; simp_all
  obtain ⟨rfl, rfl⟩ := trodVars_none hV
  obtain ⟨Ax, cx, x, rfl, lex, mxx, rdx, bkx, okx⟩ := open_tuple (hval 0 26 v0 rfl rfl) h0
  obtain ⟨s, oks, rfl⟩ := open_state (hval 1 23 v1 rfl rfl) h1
  refine (installs_all x Ax cx s W lex mxx rdx bkx).mono fun e W' ⟨he, hb⟩ => ?_
  subst he
  exact ⟨_, rfl, law_met (P := Try.prog) laidOut Try.underlying4 rfl (by intro t ht; rw [Try.params6] at ht; revert t; decide +kernel) rfl hW' rfl rfl rfl hb⟩
theorem over : Rows.TupleInstallsSaid :=
  OpenClaim.holds_of_wide 6 Try.f6 rfl rfl rfl rfl rfl rfl rfl ⟨rfl, rfl, rfl, rfl, rfl⟩ rfl rfl rfl rfl rfl (by kernel_rfl) Try.func6 (by kernel_rfl)
    (of_decide_eq_true (by kernel_rfl)) (by unfold Func.isWrapper; first | (rw [if_pos (by decide +kernel)]; kernel_rfl) | (rw [if_neg (by decide +kernel)]; exact ⟨rfl, rfl⟩))
    (fun os started H enc _ => lifted os started H enc)
end tupleInstalls

theorem tupleInstalls_holds : Rows.TupleInstallsSaid := tupleInstalls.over
#print axioms tupleInstalls_holds
end Go.Proofs.Ythngkojbokknfaa
