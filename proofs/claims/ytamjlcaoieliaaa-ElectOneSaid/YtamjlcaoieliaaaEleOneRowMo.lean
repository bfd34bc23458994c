/-
  ElectOne: elections of at most five cores, whatever messages come, have at most one leader in a term. The law returns true, and the arguments read afterwards as before. No condition.
-/
import Derived.Test.YtamjlcaoieliaaaMo1
import Derived.Test.YtamjlcaoieliaaaMo5
import Derived.ProofKit
import Derived.OpenShut
namespace Go.Proofs.Ytamjlcaoieliaaa
open Go Go.ChangeShapes Go.WideShapes Go.ChangeAt Go.RowKit
set_option maxRecDepth 100000

namespace electOne
set_option maxRecDepth 100000 in
theorem lifted (os : Os) (started : os.Started) (H : Type) (enc : TypeId × Value → H) :
    ReturnsInHanded {} Try.checked os 4 .any (Rows.electOneSpec.pre6 enc Try.prog Try.f4 Rows.electOneRow.domain false) (Rows.electOneSpec.post enc Try.prog Try.f4 false true false false) := by
  refine returnsInHanded_of_change (C := Try.checked) own started (by kernel_rfl) Try.func4
    (ChangeSpec.witness6 (enc := enc) (C := Try.checked) false ⟨#[], #[.int .i64 0, .slice none 0 0], []⟩ 8 (by kernel_rfl) (by kernel_rfl) (by kernel_rfl) (by kernel_rfl)) ?_
  intro W base args ds gs before hval0 hW _ _
  have hval : ∀ (j : Nat) t v, Try.f4.params[j]? = some t → args[j]? = some v → Value.okWide Try.prog W .any base t v := hval0
  have hW' := hW
  obtain ⟨p, q, hA0, hV, rfl, hfz, hnd⟩ := hW
  have hA : DataW.TrodAll enc Try.prog W 0 (fun _ => true) true Try.f4.params.toList args.toList ds p := hA0
  rw [Try.params4] at hA hval
  obtain ⟨v0, vs0, d0, ds0, p0, q0, hargs, rfl, rfl, h0, r0⟩ := trodAll_cons hA
  obtain ⟨v1, vs1, d1, ds1, p1, q1, rfl, rfl, rfl, h1, r1⟩ := trodAll_cons r0
  obtain ⟨rfl, rfl, rfl⟩ := trodAll_nil r1
  obtain rfl : args = #[v0, v1] := by cases args; simp_all
  obtain ⟨rfl, rfl⟩ := trodVars_none hV
  obtain ⟨n, rfl, rfl, rfl, w0⟩ := open_int Try.underlying3 (hval 0 3 v0 rfl rfl) h0
  have okn := bounds_i64 w0
  obtain ⟨Al, cl, l, rfl, lel, mxl, rdl, okl⟩ := open_ints_rd (hval 1 28 v1 rfl rfl) h1
  have bkl := okWide_blk Try.underlying28 (hval 1 28 _ rfl rfl)
  refine (Calls.pure0 (c_law22_ElectOne n l Al cl W ⟨lel, mxl, (by rw [← ivs_encs]; exact rdl), bkl⟩ (p_ElectOne n l))).mono fun e W' ⟨he, hb⟩ => ?_
  subst he
  exact ⟨_, rfl, law_met (P := Try.prog) laidOut Try.underlying4 rfl (by intro t ht; rw [Try.params4] at ht; revert t; decide +kernel) rfl hW' rfl rfl rfl hb⟩
theorem over : Rows.ElectOneSaid :=
  OpenClaim.holds_of_wide 4 Try.f4 rfl rfl rfl rfl rfl rfl rfl ⟨rfl, rfl, rfl, rfl, rfl⟩ rfl rfl rfl rfl rfl (by kernel_rfl) Try.func4 (by kernel_rfl)
    (of_decide_eq_true (by kernel_rfl)) (by unfold Func.isWrapper; first | (rw [if_pos (by decide +kernel)]; kernel_rfl) | (rw [if_neg (by decide +kernel)]; exact ⟨rfl, rfl⟩))
    (fun os started H enc _ => lifted os started H enc)
end electOne

theorem electOne_holds : Rows.ElectOneSaid := electOne.over
#print axioms electOne_holds
end Go.Proofs.Ytamjlcaoieliaaa
