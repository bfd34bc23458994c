/-
  CommitAlone: one of one commits at once. The law returns true, and the arguments read afterwards as before. No condition.
-/
import Derived.Test.YtenagnncpaabdaaGreatMg1
import Derived.Test.YtenagnncpaabdaaGreatGxCCommitAloneMg
import Derived.Test.YtenagnncpaabdaaGreatGpMMg
import Derived.ProofKit
import Derived.OpenShut
namespace Go.Proofs.YtenagnncpaabdaaGreat
open Go Go.ChangeShapes Go.WideShapes Go.ChangeAt Go.RowKit
set_option maxRecDepth 100000

namespace commitAlone
set_option maxRecDepth 100000 in
theorem lifted (os : Os) (started : os.Started) (H : Type) (enc : TypeId × Value → H) :
    ReturnsInHanded {} Tryz.checked os 6 .any (Rows.commitAloneSpec.pre6 enc Tryz.prog Tryz.f6 Rows.commitAloneRow.domain false) (Rows.commitAloneSpec.post enc Tryz.prog Tryz.f6 false true false false) := by
  refine returnsInHanded_of_change (C := Tryz.checked) own started (by kernel_rfl) Tryz.func6
    (ChangeSpec.witness6 (enc := enc) (C := Tryz.checked) false ⟨#[], #[.slice none 0 0, .int .i64 0], []⟩ 8 (by kernel_rfl) (by kernel_rfl) (by kernel_rfl) (by kernel_rfl)) ?_
  intro W base args ds gs before hval0 hW _ _
  have hval : ∀ (j : Nat) t v, Tryz.f6.params[j]? = some t → args[j]? = some v → Value.okWide Tryz.prog W .any base t v := hval0
  have hW' := hW
  obtain ⟨p, q, hA0, hV, rfl, hfz, hnd⟩ := hW
  have hA : DataW.TrodAll enc Tryz.prog W 0 (fun _ => true) true Tryz.f6.params.toList args.toList ds p := hA0
  rw [Tryz.params6] at hA hval
  obtain ⟨v0, vs0, d0, ds0, p0, q0, hargs, rfl, rfl, h0, r0⟩ := trodAll_cons hA
  obtain ⟨v1, vs1, d1, ds1, p1, q1, rfl, rfl, rfl, h1, r1⟩ := trodAll_cons r0
  obtain ⟨rfl, rfl, rfl⟩ := trodAll_nil r1
  obtain rfl : args = #[v0, v1] := by cases args; simp_all
  obtain ⟨rfl, rfl⟩ := trodVars_none hV
  obtain ⟨Al, cl, l, rfl, lel, mxl, rdl, okl⟩ := open_ints_rd (hval 0 28 v0 rfl rfl) h0
  have bkl := okWide_blk Tryz.underlying28 (hval 0 28 _ rfl rfl)
  obtain ⟨b, rfl, rfl, rfl, w1⟩ := open_int Tryz.underlying3 (hval 1 3 v1 rfl rfl) h1
  have okb := bounds_i64 w1
  refine (Calls.pure0 (c_law24_CommitAlone l b Al cl W ⟨lel, mxl, (by rw [← ivs_encs]; exact rdl), bkl⟩ (p_CommitAlone l b))).mono fun e W' ⟨he, hb⟩ => ?_
  subst he
  exact ⟨_, rfl, law_met (P := Tryz.prog) laidOut Tryz.underlying4 rfl (by intro t ht; rw [Tryz.params6] at ht; revert t; decide +kernel) rfl hW' rfl rfl rfl hb⟩
theorem over : Rows.CommitAloneSaid :=
  OpenClaim.holds_of_wide 6 Tryz.f6 rfl rfl rfl rfl rfl rfl rfl ⟨rfl, rfl, rfl, rfl, rfl⟩ rfl rfl rfl rfl rfl (by kernel_rfl) Tryz.func6 (by kernel_rfl)
    (of_decide_eq_true (by kernel_rfl)) (by unfold Func.isWrapper; first | (rw [if_pos (by decide +kernel)]; kernel_rfl) | (rw [if_neg (by decide +kernel)]; exact ⟨rfl, rfl⟩))
    (fun os started H enc _ => lifted os started H enc)
end commitAlone

theorem commitAlone_holds : Rows.CommitAloneSaid := commitAlone.over
#print axioms commitAlone_holds
end Go.Proofs.YtenagnncpaabdaaGreat
