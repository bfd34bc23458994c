/-
  TupleTells: for any two tuples, any entries, any state and any numbers: which tuples may be, indices, entries, what is done, states, and what is the same, are as the document's answer has them. The law returns true, and the arguments read afterwards as before. No condition.
-/
import Derived.Test.YthngkojbokknfaaMg1
import Derived.Test.YthngkojbokknfaaGxT2Mg
import Derived.Test.YthngkojbokknfaaGpVMg
import Derived.ProofKit
import Derived.OpenShut
namespace Go.Proofs.Ythngkojbokknfaa
open Go Go.ChangeShapes Go.WideShapes Go.ChangeAt Go.RowKit

namespace tupleTells
set_option maxRecDepth 100000 in
theorem lifted (os : Os) (started : os.Started) (H : Type) (enc : TypeId × Value → H) :
    ReturnsInHanded {} Try.checked os 7 .any (Rows.tupleTellsSpec.pre6 enc Try.prog Try.f7 Rows.tupleTellsRow.domain false) (Rows.tupleTellsSpec.post enc Try.prog Try.f7 false true false false) := by
  refine returnsInHanded_of_change (C := Try.checked) own started (by kernel_rfl) Try.func7
    (ChangeSpec.witness6 (enc := enc) (C := Try.checked) false ⟨#[], #[.agg #[.int .i64 0, .int .i64 0, .int .i64 0, .int .i64 0, .bool false, .slice none 0 0, .int .i64 0, .int .i64 0], .agg #[.int .i64 0, .int .i64 0, .int .i64 0, .int .i64 0, .bool false, .slice none 0 0, .int .i64 0, .int .i64 0], .slice none 0 0, .agg #[.int .i64 0, .int .i64 0, .int .i64 0, .int .i64 0, .bool false], .int .i64 0, .int .i64 0, .int .i64 0], []⟩ 8 (by kernel_rfl) (by kernel_rfl) (by kernel_rfl) (by kernel_rfl)) ?_
  intro W base args ds gs before hval0 hW _ _
  have hval : ∀ (j : Nat) t v, Try.f7.params[j]? = some t → args[j]? = some v → Value.okWide Try.prog W .any base t v := hval0
  have hW' := hW
  obtain ⟨p, q, hA0, hV, rfl, hfz, hnd⟩ := hW
  have hA : DataW.TrodAll enc Try.prog W 0 (fun _ => true) true Try.f7.params.toList args.toList ds p := hA0
  rw [Try.params7] at hA hval
  obtain ⟨v0, vs0, d0, ds0, p0, q0, hargs, rfl, rfl, h0, r0⟩ := trodAll_cons hA
  obtain ⟨v1, vs1, d1, ds1, p1, q1, rfl, rfl, rfl, h1, r1⟩ := trodAll_cons r0
  obtain ⟨v2, vs2, d2, ds2, p2, q2, rfl, rfl, rfl, h2, r2⟩ := trodAll_cons r1
  obtain ⟨v3, vs3, d3, ds3, p3, q3, rfl, rfl, rfl, h3, r3⟩ := trodAll_cons r2
  obtain ⟨v4, vs4, d4, ds4, p4, q4, rfl, rfl, rfl, h4, r4⟩ := trodAll_cons r3
  obtain ⟨v5, vs5, d5, ds5, p5, q5, rfl, rfl, rfl, h5, r5⟩ := trodAll_cons r4
  obtain ⟨v6, vs6, d6, ds6, p6, q6, rfl, rfl, rfl, h6, r6⟩ := trodAll_cons r5
  obtain ⟨rfl, rfl, rfl⟩ := trodAll_nil r6
  obtain rfl : args = #[v0, v1, v2, v3, v4, v5, v6] := by cases args; simp_all
  obtain ⟨rfl, rfl⟩ := trodVars_none hV
  obtain ⟨Ax, cx, x, rfl, lex, mxx, rdx, bkx, okx⟩ := open_tuple (hval 0 26 v0 rfl rfl) h0
  obtain ⟨Ao, co, o, rfl, leo, mxo, rdo, bko, oko⟩ := open_tuple (hval 1 26 v1 rfl rfl) h1
  obtain ⟨Al, cl, l, rfl, lel, mxl, rdl, okl⟩ := open_entries (hval 2 24 v2 rfl rfl) h2
  have bkl := okWide_blk Try.underlying24 (hval 2 24 _ rfl rfl)
  obtain ⟨s, oks, rfl⟩ := open_state (hval 3 23 v3 rfl rfl) h3
  obtain ⟨i, rfl, rfl, rfl, w4⟩ := open_int Try.underlying3 (hval 4 3 v4 rfl rfl) h4
  have oki := bounds_i64 w4
  obtain ⟨u, rfl, rfl, rfl, w5⟩ := open_int Try.underlying3 (hval 5 3 v5 rfl rfl) h5
  have oku := bounds_i64 w5
  obtain ⟨v, rfl, rfl, rfl, w6⟩ := open_int Try.underlying3 (hval 6 3 v6 rfl rfl) h6
  have okv := bounds_i64 w6
  refine (Calls.pure0 (c_law12_TupleTells x o l s i u v Ax cx Ao co Al cl W ⟨lex, mxx, rdx, bkx⟩ ⟨leo, mxo, rdo, bko⟩ ⟨lel, mxl, rdl, bkl⟩ (p_Tells x o l s i u v))).mono fun e W' ⟨he, hb⟩ => ?_
  subst he
  exact ⟨_, rfl, law_met (P := Try.prog) laidOut Try.underlying4 rfl (by intro t ht; rw [Try.params7] at ht; revert t; decide +kernel) rfl hW' rfl rfl rfl hb⟩
theorem over : Rows.TupleTellsSaid :=
  OpenClaim.holds_of_wide 7 Try.f7 rfl rfl rfl rfl rfl rfl rfl ⟨rfl, rfl, rfl, rfl, rfl⟩ rfl rfl rfl rfl rfl (by kernel_rfl) Try.func7 (by kernel_rfl)
    (of_decide_eq_true (by kernel_rfl)) (by unfold Func.isWrapper; first | (rw [if_pos (by decide +kernel)]; kernel_rfl) | (rw [if_neg (by decide +kernel)]; exact ⟨rfl, rfl⟩))
    (fun os started H enc _ => lifted os started H enc)
end tupleTells

theorem tupleTells_holds : Rows.TupleTellsSaid := tupleTells.over
#print axioms tupleTells_holds
end Go.Proofs.Ythngkojbokknfaa
