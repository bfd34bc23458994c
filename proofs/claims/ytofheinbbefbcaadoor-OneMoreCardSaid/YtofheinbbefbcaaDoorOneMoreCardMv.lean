/-
  OneMore: records put behind a segment are scanned behind its entries, and a segment is its head and the records of each (any number, twice at most 20 entries). The law returns true, and the arguments read afterwards as before. Condition: the package-level table that is read is laid as the program's text lays it (tied).
-/
import Derived.Test.YtofheinbbefbcaaDoorMv1
import Derived.Test.YtofheinbbefbcaaDoorCards
import Derived.Test.YtofheinbbefbcaaDoorGxSOneMoreMv
import Derived.Test.YtofheinbbefbcaaDoorMv2
import Derived.Test.YtofheinbbefbcaaDoorMv0
import Derived.SevenTiedAt
namespace Go.Proofs.YtofheinbbefbcaaDoor
open Go Go.ChangeShapes Go.WideShapes Go.ChangeAt Go.RowKit
set_option maxRecDepth 100000

namespace oneMore
set_option maxRecDepth 100000 in
theorem lifted (os : Os) (started : os.Started) (H : Type) (enc : TypeId × Value → H) :
    ReturnsInHanded {} Tryd.checked os 6 .any (fun w args => (Rows.oneMoreSpec.pre enc Tryd.prog Tryd.f6 Rows.oneMoreRow.domain false w args ∧ laidMetH Tryd.prog Rows.oneMoreRow.laid w) ∧ sizedMet enc Tryd.prog Tryd.f6 (OpenSpec.ofChange Rows.oneMoreSpec) false w args)
      (Rows.oneMoreSpec.post enc Tryd.prog Tryd.f6 false true false false) := by
  refine returnsInHanded_of_change_and (C := Tryd.checked) (X := fun w _ => laidMetH Tryd.prog Rows.oneMoreRow.laid w) (fun _ _ _ hh h => h.of_heap hh) own started (by kernel_rfl) Tryd.func6
    (ChangeSpec.witness_shaped (enc := enc) (C := Tryd.checked) (os := os) (X := fun w _ => laidMetH Tryd.prog Rows.oneMoreRow.laid w) false (World.doorLaid Tryd.prog 17 os) #[.int .i64 0, .slice none 0 0, .slice none 0 0] 8 rfl (World.shaped_of_RefB (by kernel_rfl) (by kernel_rfl)) (by kernel_rfl) (by kernel_rfl) (by kernel_rfl) (door_met os _)) ?_
  intro W base args ds gs before hval0 hW _ _ hL _
  have hval : ∀ (j : Nat) t v, Tryd.f6.params[j]? = some t → args[j]? = some v → Value.okWide Tryd.prog W .any base t v := hval0
  have hW' := hW
  obtain ⟨p, q, hA0, hV, rfl, hfz, hnd⟩ := hW
  have hA : DataW.TrodAll enc Tryd.prog W 0 (fun _ => true) true Tryd.f6.params.toList args.toList ds p := hA0
  rw [Tryd.params6] at hA hval
  obtain ⟨v0, vs0, d0, ds0, p0, q0, hargs, rfl, rfl, h0, r0⟩ := trodAll_cons hA
  obtain ⟨v1, vs1, d1, ds1, p1, q1, rfl, rfl, rfl, h1, r1⟩ := trodAll_cons r0
  obtain ⟨v2, vs2, d2, ds2, p2, q2, rfl, rfl, rfl, h2, r2⟩ := trodAll_cons r1
  obtain ⟨rfl, rfl, rfl⟩ := trodAll_nil r2
  obtain rfl : args = #[v0, v1, v2] := by cases args; simp_all
  obtain ⟨rfl, rfl⟩ := trodVars_none hV
  obtain ⟨n, rfl, rfl, rfl, w0⟩ := open_int Tryd.underlying3 (hval 0 3 v0 rfl rfl) h0
  have okn := bounds_i64 w0
  obtain ⟨Al, cl, l, rfl, lel, mxl, rdl, okl⟩ := open_entries (hval 1 22 v1 rfl rfl) h1
  have bkl := okWide_blk Tryd.underlying22 (hval 1 22 _ rfl rfl)
  obtain ⟨Am, cm, m, rfl, lem, mxm, rdm, okm⟩ := open_entries (hval 2 22 v2 rfl rfl) h2
  have bkm := okWide_blk Tryd.underlying22 (hval 2 22 _ rfl rfl)
  refine (Calls.pure0 (c_law07_OneMore n l m Al cl Am cm W ⟨lel, mxl, rdl, bkl⟩ ⟨lem, mxm, rdm, bkm⟩ (table_of_laid hL) (p_OneMore n l m))).mono fun e W' ⟨he, hb⟩ => ?_
  subst he
  exact ⟨_, rfl, law_met (P := Tryd.prog) laidOut Tryd.underlying4 rfl (by intro t ht; rw [Tryd.params6] at ht; revert t; decide +kernel) rfl hW' rfl rfl rfl hb⟩
theorem over : Rows.OneMoreSaid :=
  OpenClaim.holds_of_wide 6 Tryd.f6 rfl rfl rfl rfl rfl rfl rfl ⟨rfl, rfl, rfl, rfl, rfl⟩ rfl rfl rfl rfl rfl (by kernel_rfl) Tryd.func6 (by kernel_rfl)
    (of_decide_eq_true (by kernel_rfl)) (by unfold Func.isWrapper; first | (rw [if_pos (by decide +kernel)]; kernel_rfl) | (rw [if_neg (by decide +kernel)]; exact ⟨rfl, rfl⟩))
    (fun os started H enc _ => lifted os started H enc)
end oneMore

theorem oneMore_holds : Rows.OneMoreCardSaid :=
  Claim7.holds_tied_plain_at .later [] [.data] true Rows.oneMoreCard.stood.harness false
    oneMore.over (fun _ h => by cases h) (by kernel_rfl) (fun _ h => by cases h) oneMore_row_tie rfl ⟨rfl, rfl⟩ (by kernel_rfl) rfl
    (fun f fn hf hfn => by
      obtain rfl : f = 6 := Option.some.inj ((show Tryd.prog.funcNamed "moult/moultlaw07.OneMore" = some 6 by kernel_rfl).symm.trans hf) |>.symm
      obtain rfl : fn = Tryd.f6 := (Option.some.inj (Tryd.func6.symm.trans hfn)).symm
      exact ⟨by kernel_rfl, fun j t ht => by
        have hm : t ∈ Tryd.f6.params.toList := Array.mem_toList_iff.2 (Array.mem_of_getElem? ht)
        have hall : (Tryd.f6.params.toList.all fun u => !Tryd.prog.wantsStandIn u) = true := by kernel_rfl
        exact (show Tryd.prog.wantsStandIn t = false by simpa using List.all_eq_true.1 hall t hm)⟩)
    (by kernel_rfl)
#print axioms oneMore_holds
end Go.Proofs.YtofheinbbefbcaaDoor
