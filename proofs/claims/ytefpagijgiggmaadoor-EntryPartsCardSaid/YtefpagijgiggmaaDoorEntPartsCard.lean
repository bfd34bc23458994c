/-
  EntryParts: for any state, any two rows of entries, and any term: behind entries in two parts a state is as behind all; noops change index and term alone, wherever they stand. The law returns true, and the arguments read afterwards as before. Condition: the package-level table that is read is laid as the program's text lays it (tied).
-/
import Derived.Test.YtefpagijgiggmaaDoorEntDoor
import Derived.Test.YtefpagijgiggmaaDoorCards
import Derived.Test.YtefpagijgiggmaaDoorEntParts
import Derived.SevenTiedAt
namespace Go.Proofs.YtefpagijgiggmaaDoor
open Go Go.ChangeShapes Go.WideShapes Go.ChangeAt Go.RowKit

namespace entryParts
set_option maxRecDepth 100000 in
theorem lifted (os : Os) (started : os.Started) (H : Type) (enc : TypeId × Value → H) :
    ReturnsInHanded {} Tryd.checked os 4 .any (fun w args => (Rows.entryPartsSpec.pre enc Tryd.prog Tryd.f4 Rows.entryPartsRow.domain false w args ∧ laidMetH Tryd.prog Rows.entryPartsRow.laid w) ∧ sizedMet enc Tryd.prog Tryd.f4 (OpenSpec.ofChange Rows.entryPartsSpec) false w args)
      (Rows.entryPartsSpec.post enc Tryd.prog Tryd.f4 false true false false) := by
  refine returnsInHanded_of_change_and (C := Tryd.checked) (X := fun w _ => laidMetH Tryd.prog Rows.entryPartsRow.laid w) (fun _ _ _ hh h => h.of_heap hh) own started (by kernel_rfl) Tryd.func4
    (ChangeSpec.witness_shaped (enc := enc) (C := Tryd.checked) (os := os) (X := fun w _ => laidMetH Tryd.prog Rows.entryPartsRow.laid w) false (World.doorLaid Tryd.prog 17 os) #[.agg #[.int .i64 0, .int .i64 0, .int .i64 0, .int .i64 0, .bool false], .slice none 0 0, .slice none 0 0, .int .i64 0] 8 rfl (World.shaped_of_RefB (by kernel_rfl) (by kernel_rfl)) (by kernel_rfl) (by kernel_rfl) (by kernel_rfl) (door_met os _)) ?_
  intro W base args ds gs before hval0 hW _ _ hL _
  have hval : ∀ (j : Nat) t v, Tryd.f4.params[j]? = some t → args[j]? = some v → Value.okWide Tryd.prog W .any base t v := hval0
  have hW' := hW
  obtain ⟨p, q, hA0, hV, rfl, hfz, hnd⟩ := hW
  have hA : DataW.TrodAll enc Tryd.prog W 0 (fun _ => true) true Tryd.f4.params.toList args.toList ds p := hA0
  rw [Tryd.params4] at hA hval
  obtain ⟨v0, vs0, d0, ds0, p0, q0, hargs, rfl, rfl, h0, r0⟩ := trodAll_cons hA
  obtain ⟨v1, vs1, d1, ds1, p1, q1, rfl, rfl, rfl, h1, r1⟩ := trodAll_cons r0
  obtain ⟨v2, vs2, d2, ds2, p2, q2, rfl, rfl, rfl, h2, r2⟩ := trodAll_cons r1
  obtain ⟨v3, vs3, d3, ds3, p3, q3, rfl, rfl, rfl, h3, r3⟩ := trodAll_cons r2
  obtain ⟨rfl, rfl, rfl⟩ := trodAll_nil r3
  obtain rfl : args = #[v0, v1, v2, v3] := by cases args; simp_all
  obtain ⟨rfl, rfl⟩ := trodVars_none hV
  obtain ⟨s, oks, rfl⟩ := open_state (hval 0 23 v0 rfl rfl) h0
  obtain ⟨Al, cl, l, rfl, lel, mxl, rdl, okl⟩ := open_entries (hval 1 24 v1 rfl rfl) h1
  obtain ⟨Am, cm, m, rfl, lem, mxm, rdm, okm⟩ := open_entries (hval 2 24 v2 rfl rfl) h2
  obtain ⟨term, rfl, rfl, rfl, w3⟩ := open_int Tryd.underlying3 (hval 3 3 v3 rfl rfl) h3
  have okterm := bounds_i64 w3
  refine (parts_all s Al Am cl cm term l m W (names_of_laid hL) rdl rdm lel mxl lem mxm).mono fun e W' ⟨he, hb⟩ => ?_
  subst he
  exact ⟨_, rfl, law_met (P := Tryd.prog) laidOut Tryd.underlying4 rfl (by intro t ht; rw [Tryd.params4] at ht; revert t; decide +kernel) rfl hW' rfl rfl rfl hb⟩
theorem over : Rows.EntryPartsSaid :=
  OpenClaim.holds_of_wide 4 Tryd.f4 rfl rfl rfl rfl rfl rfl rfl ⟨rfl, rfl, rfl, rfl, rfl⟩ rfl rfl rfl rfl rfl (by kernel_rfl) Tryd.func4 (by kernel_rfl)
    (of_decide_eq_true (by kernel_rfl)) (by unfold Func.isWrapper; first | (rw [if_pos (by decide +kernel)]; kernel_rfl) | (rw [if_neg (by decide +kernel)]; exact ⟨rfl, rfl⟩))
    (fun os started H enc _ => lifted os started H enc)
end entryParts

theorem entryParts_holds : Rows.EntryPartsCardSaid :=
  Claim7.holds_tied_plain_at .later [] [.data] true Rows.entryPartsCard.stood.harness false
    entryParts.over (fun _ h => by cases h) (by kernel_rfl) (fun _ h => by cases h) entryParts_row_tie rfl ⟨rfl, rfl⟩ (by kernel_rfl) rfl
    (fun f fn hf hfn => by
      obtain rfl : f = 4 := Option.some.inj ((show Tryd.prog.funcNamed "moult/moultlaw06.EntryParts" = some 4 by kernel_rfl).symm.trans hf) |>.symm
      obtain rfl : fn = Tryd.f4 := (Option.some.inj (Tryd.func4.symm.trans hfn)).symm
      exact ⟨by kernel_rfl, fun j t ht => by
        have hm : t ∈ Tryd.f4.params.toList := Array.mem_toList_iff.2 (Array.mem_of_getElem? ht)
        have hall : (Tryd.f4.params.toList.all fun u => !Tryd.prog.wantsStandIn u) = true := by kernel_rfl
        exact (show Tryd.prog.wantsStandIn t = false by simpa using List.all_eq_true.1 hall t hm)⟩)
    (by kernel_rfl)
#print axioms entryParts_holds
end Go.Proofs.YtefpagijgiggmaaDoor
