/-
  EntryFine: for any state and any row of entries: behind whatever entries a state that may be may be; its index rises by one with each that may be; once final it is so always, and at level 2. The law returns true, and the arguments read afterwards as before. Condition: the package-level table that is read is laid as the program's text lays it (tied).
-/
import Derived.Test.YtefpagijgiggmaaDoorEntDoor
import Derived.Test.YtefpagijgiggmaaDoorCards
import Derived.Test.YtefpagijgiggmaaDoorEntFine
import Derived.SevenTiedAt
namespace Go.Proofs.YtefpagijgiggmaaDoor
open Go Go.ChangeShapes Go.WideShapes Go.ChangeAt Go.RowKit

namespace entryFine
set_option maxRecDepth 100000 in
theorem lifted (os : Os) (started : os.Started) (H : Type) (enc : TypeId × Value → H) :
    ReturnsInHanded {} Tryd.checked os 3 .any (fun w args => (Rows.entryFineSpec.pre enc Tryd.prog Tryd.f3 Rows.entryFineRow.domain false w args ∧ laidMetH Tryd.prog Rows.entryFineRow.laid w) ∧ sizedMet enc Tryd.prog Tryd.f3 (OpenSpec.ofChange Rows.entryFineSpec) false w args)
      (Rows.entryFineSpec.post enc Tryd.prog Tryd.f3 false true false false) := by
  refine returnsInHanded_of_change_and (C := Tryd.checked) (X := fun w _ => laidMetH Tryd.prog Rows.entryFineRow.laid w) (fun _ _ _ hh h => h.of_heap hh) own started (by kernel_rfl) Tryd.func3
    (ChangeSpec.witness_shaped (enc := enc) (C := Tryd.checked) (os := os) (X := fun w _ => laidMetH Tryd.prog Rows.entryFineRow.laid w) false (World.doorLaid Tryd.prog 17 os) #[.agg #[.int .i64 0, .int .i64 0, .int .i64 0, .int .i64 0, .bool false], .slice none 0 0] 8 rfl (World.shaped_of_RefB (by kernel_rfl) (by kernel_rfl)) (by kernel_rfl) (by kernel_rfl) (by kernel_rfl) (door_met os _)) ?_
  intro W base args ds gs before hval0 hW _ _ hL _
  have hval : ∀ (j : Nat) t v, Tryd.f3.params[j]? = some t → args[j]? = some v → Value.okWide Tryd.prog W .any base t v := hval0
  have hW' := hW
  obtain ⟨p, q, hA0, hV, rfl, hfz, hnd⟩ := hW
  have hA : DataW.TrodAll enc Tryd.prog W 0 (fun _ => true) true Tryd.f3.params.toList args.toList ds p := hA0
  rw [Tryd.params3] at hA hval
  obtain ⟨v0, vs0, d0, ds0, p0, q0, hargs, rfl, rfl, h0, r0⟩ := trodAll_cons hA
  obtain ⟨v1, vs1, d1, ds1, p1, q1, rfl, rfl, rfl, h1, r1⟩ := trodAll_cons r0
  obtain ⟨rfl, rfl, rfl⟩ := trodAll_nil r1
  obtain rfl : args = #[v0, v1] := by cases args; simp_all
  obtain ⟨rfl, rfl⟩ := trodVars_none hV
  obtain ⟨s, oks, rfl⟩ := open_state (hval 0 23 v0 rfl rfl) h0
  obtain ⟨Al, cl, l, rfl, lel, mxl, rdl, okl⟩ := open_entries (hval 1 24 v1 rfl rfl) h1
  refine (fine_all s Al cl l W (names_of_laid hL) rdl).mono fun e W' ⟨he, hb⟩ => ?_
  subst he
  exact ⟨_, rfl, law_met (P := Tryd.prog) laidOut Tryd.underlying4 rfl (by intro t ht; rw [Tryd.params3] at ht; revert t; decide +kernel) rfl hW' rfl rfl rfl hb⟩
theorem over : Rows.EntryFineSaid :=
  OpenClaim.holds_of_wide 3 Tryd.f3 rfl rfl rfl rfl rfl rfl rfl ⟨rfl, rfl, rfl, rfl, rfl⟩ rfl rfl rfl rfl rfl (by kernel_rfl) Tryd.func3 (by kernel_rfl)
    (of_decide_eq_true (by kernel_rfl)) (by unfold Func.isWrapper; first | (rw [if_pos (by decide +kernel)]; kernel_rfl) | (rw [if_neg (by decide +kernel)]; exact ⟨rfl, rfl⟩))
    (fun os started H enc _ => lifted os started H enc)
end entryFine

theorem entryFine_holds : Rows.EntryFineCardSaid :=
  Claim7.holds_tied_plain_at .later [] [.data] true Rows.entryFineCard.stood.harness false
    entryFine.over (fun _ h => by cases h) (by kernel_rfl) (fun _ h => by cases h) entryFine_row_tie rfl ⟨rfl, rfl⟩ (by kernel_rfl) rfl
    (fun f fn hf hfn => by
      obtain rfl : f = 3 := Option.some.inj ((show Tryd.prog.funcNamed "moult/moultlaw06.EntryFine" = some 3 by kernel_rfl).symm.trans hf) |>.symm
      obtain rfl : fn = Tryd.f3 := (Option.some.inj (Tryd.func3.symm.trans hfn)).symm
      exact ⟨by kernel_rfl, fun j t ht => by
        have hm : t ∈ Tryd.f3.params.toList := Array.mem_toList_iff.2 (Array.mem_of_getElem? ht)
        have hall : (Tryd.f3.params.toList.all fun u => !Tryd.prog.wantsStandIn u) = true := by kernel_rfl
        exact (show Tryd.prog.wantsStandIn t = false by simpa using List.all_eq_true.1 hall t hm)⟩)
    (by kernel_rfl)
#print axioms entryFine_holds
end Go.Proofs.YtefpagijgiggmaaDoor
