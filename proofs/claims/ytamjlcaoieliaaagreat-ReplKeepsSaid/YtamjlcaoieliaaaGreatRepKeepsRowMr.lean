/- Texts of one claim put together. -/
import Derived.Test.YtamjlcaoieliaaaGreatMr1
import Derived.Test.YtamjlcaoieliaaaGreatGxYReplKeepsMr
import Derived.Test.YtamjlcaoieliaaaGreatGpZMr
import Derived.ProofKit
import Derived.OpenShut
namespace Go.Proofs.YtamjlcaoieliaaaGreat
open Go Go.ChangeShapes Go.WideShapes Go.ChangeAt Go.RowKit
set_option maxRecDepth 100000
namespace replKeeps
set_option maxRecDepth 100000 in
theorem lifted (os : Os) (started : os.Started) (H : Type) (enc : TypeId × Value → H) :
  ReturnsInHanded {} Tryz.checked os 5 .any (Rows.replKeepsSpec.pre6 enc Tryz.prog Tryz.f5 Rows.replKeepsRow.domain false) (Rows.replKeepsSpec.post enc Tryz.prog Tryz.f5 false true false false) := by
 refine returnsInHanded_of_change (C := Tryz.checked) own started (by kernel_rfl) Tryz.func5
  (ChangeSpec.witness6 (enc := enc) (C := Tryz.checked) false ⟨#[], #[.agg #[.int .i64 0, .int .i64 0, .int .u8 0, .int .i64 0, .int .i64 0, .int .i64 0, .int .i64 0, .int .i64 0, .bool false, .slice none 0 0, .int .i64 0, .int .i64 0, .int .i64 0, .int .i64 0, .int .i64 0, .int .i64 0, .int .i64 0, .bool false, .slice none 0 0, .slice none 0 0, .slice none 0 0, .slice none 0 0], .agg #[.int .u8 0, .int .i64 0, .int .i64 0, .int .i64 0, .int .i64 0, .int .i64 0, .int .i64 0, .int .i64 0, .bool false, .slice none 0 0, .int .i64 0, .int .i64 0, .int .i64 0, .int .i64 0, .bool false]], []⟩ 8 (by kernel_rfl) (by kernel_rfl) (by kernel_rfl) (by kernel_rfl)) ?_
 intro W base args ds gs before hval0 hW _ _
 have hval : ∀ (j : Nat) t v, Tryz.f5.params[j]? = some t → args[j]? = some v → Value.okWide Tryz.prog W .any base t v := hval0
 have hW' := hW
 obtain ⟨p, q, hA0, hV, rfl, hfz, hnd⟩ := hW
 have hA : DataW.TrodAll enc Tryz.prog W 0 (fun _ => true) true Tryz.f5.params.toList args.toList ds p := hA0
 rw [Tryz.params5] at hA hval
 obtain ⟨v0, vs0, d0, ds0, p0, q0, hargs, rfl, rfl, h0, r0⟩ := trodAll_cons hA
 obtain ⟨v1, vs1, d1, ds1, p1, q1, rfl, rfl, rfl, h1, r1⟩ := trodAll_cons r0
 obtain ⟨rfl, rfl, rfl⟩ := trodAll_nil r1
 obtain rfl : args = #[v0, v1] := by cases args; simp_all
 obtain ⟨rfl, rfl⟩ := trodVars_none hV
 obtain ⟨Ac0, cc0, Ac1, cc1, Ac2, cc2, Ac3, cc3, Ac4, cc4, c, rfl, sc0, sc1, sc2, sc3, sc4, okc⟩ := open_Co (hval 0 30 v0 rfl rfl) h0
 obtain ⟨Am0, cm0, m, rfl, sm0, okm⟩ := open_Ms (hval 1 32 v1 rfl rfl) h1
 refine (Calls.pure0 (c_law23_ReplKeeps c m Ac0 cc0 Ac1 cc1 Ac2 cc2 Ac3 cc3 Ac4 cc4 Am0 cm0 W sc0 sc1 sc2 sc3 sc4 sm0 (p_ReplKeeps c m okm.1))).mono fun e W' ⟨he, hb⟩ => ?_
 subst he
 exact ⟨_, rfl, law_met (P := Tryz.prog) laidOut Tryz.underlying4 rfl (by intro t ht; rw [Tryz.params5] at ht; revert t; decide +kernel) rfl hW' rfl rfl rfl hb⟩
theorem over : Rows.ReplKeepsSaid :=
 OpenClaim.holds_of_wide 5 Tryz.f5 rfl rfl rfl rfl rfl rfl rfl ⟨rfl, rfl, rfl, rfl, rfl⟩ rfl rfl rfl rfl rfl (by kernel_rfl) Tryz.func5 (by kernel_rfl)
  (of_decide_eq_true (by kernel_rfl)) (by unfold Func.isWrapper; first | (rw [if_pos (by decide +kernel)]; kernel_rfl) | (rw [if_neg (by decide +kernel)]; exact ⟨rfl, rfl⟩))
  (fun os started H enc _ => lifted os started H enc)
end replKeeps
theorem replKeeps_holds : Rows.ReplKeepsSaid := replKeeps.over
#print axioms replKeeps_holds
end Go.Proofs.YtamjlcaoieliaaaGreat
