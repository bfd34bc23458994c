/-
  TupleRight: for any tuple that may be, and at most 30 deeds of at most 20 entries: it may be behind whatever is done, what is refused changes nothing, terms never fall, nor does Snap's index, and in one term a vote that was given stays. The law returns true, and the arguments read afterwards as before. No condition.
-/
import Derived.Test.YthngkojbokknfaaMg1
import Derived.Test.YthngkojbokknfaaTupLrMg
import Derived.ProofKit
import Derived.OpenShut
namespace Go.Proofs.Ythngkojbokknfaa
open Go Go.ChangeShapes Go.WideShapes Go.ChangeAt Go.RowKit

namespace tupleRight
set_option maxRecDepth 100000 in
theorem lifted (os : Os) (started : os.Started) (H : Type) (enc : TypeId × Value → H) :
    ReturnsInHanded {} Try.checked os 3 .any (Rows.tupleRightSpec.pre6 enc Try.prog Try.f3 Rows.tupleRightRow.domain false) (Rows.tupleRightSpec.post enc Try.prog Try.f3 false true false false) := by
  refine returnsInHanded_of_change (C := Try.checked) own started (by kernel_rfl) Try.func3
    (ChangeSpec.witness6 (enc := enc) (C := Try.checked) false ⟨#[], #[.agg #[.int .i64 0, .int .i64 0, .int .i64 0, .int .i64 0, .bool false, .slice none 0 0, .int .i64 0, .int .i64 0], .slice none 0 0], []⟩ 8 (by kernel_rfl) (by kernel_rfl) (by kernel_rfl) (by kernel_rfl)) ?_
  intro W base args ds gs before hval0 hW _ _
  have hval : ∀ (j : Nat) t v, Try.f3.params[j]? = some t → args[j]? = some v → Value.okWide Try.prog W .any base t v := hval0
  have hW' := hW
  obtain ⟨p, q, hA0, hV, rfl, hfz, hnd⟩ := hW
  have hA : DataW.TrodAll enc Try.prog W 0 (fun _ => true) true Try.f3.params.toList args.toList ds p := hA0
  rw [Try.params3] at hA hval
  obtain ⟨v0, vs0, d0, ds0, p0, q0, hargs, rfl, rfl, h0, r0⟩ := trodAll_cons hA
  obtain ⟨v1, vs1, d1, ds1, p1, q1, rfl, rfl, rfl, h1, r1⟩ := trodAll_cons r0
  obtain ⟨rfl, rfl, rfl⟩ := trodAll_nil r1
  obtain rfl : args = #[v0, v1] := by cases args; simp_all
  obtain ⟨rfl, rfl⟩ := trodVars_none hV
  obtain ⟨Ax, cx, x, rfl, lex, mxx, rdx, bkx, okx⟩ := open_tuple (hval 0 26 v0 rfl rfl) h0
  obtain ⟨Al, cl, l, rfl, lel, mxl, rdl, okl⟩ := open_deeds (hval 1 27 v1 rfl rfl) h1
  refine (right_all x Ax cx Al cl l W lex mxx rdx bkx lel rdl okl).mono fun e W' ⟨he, hb⟩ => ?_
  subst he
  exact ⟨_, rfl, law_met (P := Try.prog) laidOut Try.underlying4 rfl (by intro t ht; rw [Try.params3] at ht; revert t; decide +kernel) rfl hW' rfl rfl rfl hb⟩
theorem over : Rows.TupleRightSaid :=
  OpenClaim.holds_of_wide 3 Try.f3 rfl rfl rfl rfl rfl rfl rfl ⟨rfl, rfl, rfl, rfl, rfl⟩ rfl rfl rfl rfl rfl (by kernel_rfl) Try.func3 (by kernel_rfl)
    (of_decide_eq_true (by kernel_rfl)) (by unfold Func.isWrapper; first | (rw [if_pos (by decide +kernel)]; kernel_rfl) | (rw [if_neg (by decide +kernel)]; exact ⟨rfl, rfl⟩))
    (fun os started H enc _ => lifted os started H enc)
end tupleRight

theorem tupleRight_holds : Rows.TupleRightSaid := tupleRight.over
#print axioms tupleRight_holds
end Go.Proofs.Ythngkojbokknfaa
