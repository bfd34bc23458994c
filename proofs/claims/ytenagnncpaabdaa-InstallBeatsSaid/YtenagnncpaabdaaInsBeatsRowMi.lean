/- Texts of one claim put together. -/
import Derived.Test.YtenagnncpaabdaaMi1
import Derived.Test.YtenagnncpaabdaaGxJInstallBeatsMi
import Derived.Test.YtenagnncpaabdaaGpYMi
import Derived.ProofKit
import Derived.OpenShut
namespace Go.Proofs.Ytenagnncpaabdaa
open Go Go.ChangeShapes Go.WideShapes Go.ChangeAt Go.RowKit
set_option maxRecDepth 100000
namespace installBeats
set_option maxRecDepth 100000 in
theorem lifted (os : Os) (started : os.Started) (H : Type) (enc : TypeId × Value → H) :
  ReturnsInHanded {} Try.checked os 5 .any (Rows.installBeatsSpec.pre6 enc Try.prog Try.f5 Rows.installBeatsRow.domain false) (Rows.installBeatsSpec.post enc Try.prog Try.f5 false true false false) := by
 refine returnsInHanded_of_change (C := Try.checked) own started (by kernel_rfl) Try.func5
  (ChangeSpec.witness6 (enc := enc) (C := Try.checked) false ⟨#[], #[.agg #[.int .i64 0, .int .i64 0, .int .u8 0, .int .i64 0, .int .i64 0, .int .i64 0, .int .i64 0, .int .i64 0, .bool false, .slice none 0 0, .int .i64 0, .int .i64 0, .int .i64 0, .int .i64 0, .int .i64 0, .int .i64 0, .int .i64 0, .bool false, .slice none 0 0, .slice none 0 0, .slice none 0 0, .slice none 0 0]], []⟩ 8 (by kernel_rfl) (by kernel_rfl) (by kernel_rfl) (by kernel_rfl)) ?_
 intro W base args ds gs before hval0 hW _ _
 have hval : ∀ (j : Nat) t v, Try.f5.params[j]? = some t → args[j]? = some v → Value.okWide Try.prog W .any base t v := hval0
 have hW' := hW
 obtain ⟨p, q, hA0, hV, rfl, hfz, hnd⟩ := hW
 have hA : DataW.TrodAll enc Try.prog W 0 (fun _ => true) true Try.f5.params.toList args.toList ds p := hA0
 rw [Try.params5] at hA hval
 obtain ⟨v0, vs0, d0, ds0, p0, q0, hargs, rfl, rfl, h0, r0⟩ := trodAll_cons hA
 obtain ⟨rfl, rfl, rfl⟩ := trodAll_nil r0
 obtain rfl : args = #[v0] := by cases args; simp_all
 obtain ⟨rfl, rfl⟩ := trodVars_none hV
 obtain ⟨Ac0, cc0, Ac1, cc1, Ac2, cc2, Ac3, cc3, Ac4, cc4, c, rfl, sc0, sc1, sc2, sc3, sc4, okc⟩ := open_Co (hval 0 30 v0 rfl rfl) h0
 refine (Calls.pure0 (c_law25_InstallBeats c Ac0 cc0 Ac1 cc1 Ac2 cc2 Ac3 cc3 Ac4 cc4 W sc0 sc1 sc2 sc3 sc4 (p_InstallBeats c))).mono fun e W' ⟨he, hb⟩ => ?_
 subst he
 exact ⟨_, rfl, law_met (P := Try.prog) laidOut Try.underlying4 rfl (by intro t ht; rw [Try.params5] at ht; revert t; decide +kernel) rfl hW' rfl rfl rfl hb⟩
theorem over : Rows.InstallBeatsSaid :=
 OpenClaim.holds_of_wide 5 Try.f5 rfl rfl rfl rfl rfl rfl rfl ⟨rfl, rfl, rfl, rfl, rfl⟩ rfl rfl rfl rfl rfl (by kernel_rfl) Try.func5 (by kernel_rfl)
  (of_decide_eq_true (by kernel_rfl)) (by unfold Func.isWrapper; first | (rw [if_pos (by decide +kernel)]; kernel_rfl) | (rw [if_neg (by decide +kernel)]; exact ⟨rfl, rfl⟩))
  (fun os started H enc _ => lifted os started H enc)
end installBeats
theorem installBeats_holds : Rows.InstallBeatsSaid := installBeats.over
#print axioms installBeats_holds
end Go.Proofs.Ytenagnncpaabdaa
