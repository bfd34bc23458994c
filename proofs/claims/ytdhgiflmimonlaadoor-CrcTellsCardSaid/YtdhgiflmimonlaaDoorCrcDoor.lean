/- The door of the laws of layer 3: the table as it is laid. -/
import Derived.Test.YtdhgiflmimonlaaDoorRows
import Derived.Test.YtdhgiflmimonlaaDoorTie
import Derived.Test.YtdhgiflmimonlaaDoorDoor
import Derived.Test.YtdhgiflmimonlaaDoorCrcFour
namespace Go.Proofs.YtdhgiflmimonlaaDoor
open Go Go.ChangeShapes Go.WideShapes Go.ChangeAt Go.RowKit

theorem own : ownKnob Tryd.prog.godebug = none := by kernel_rfl
theorem laidOut : laidOutB Tryd.prog = true := by kernel_rfl
def tabZ : List Int := tabL.map fun (n : Nat) => (n : Int)
theorem laid_tab : Rows.laid_moult_crc_rows (H := Unit) = Lib.tabData .u32 tabZ := rfl
theorem rows_of_laid {W : World} (h : laidMetH Tryd.prog [("moult/crc.rows", Rows.laid_moult_crc_rows)] W) : RowsOK W := by
  have h' : laidMet Tryd.prog [("moult/crc.rows", Lib.tabData .u32 tabZ)] W := h
  have hg : Tryd.prog.globalNamed "moult/crc.rows" = some 0 := by kernel_rfl
  have ht := Lib.tabIs_of_head hg (t := 43) (e := 23) (n := 16) (by kernel_rfl) Tryd.underlying43 Tryd.underlying23 (by kernel_rfl) (by kernel_rfl) h'
  intro i hi
  have := ht.cell hg i hi
  rw [this]
  have e : ∀ j, j < 16 → tabZ.getD j 0 = (tab j : Nat) := by decide
  rw [← e i hi]

theorem door_met (os : Os) (args : Array Value) : laidMetH Tryd.prog [("moult/crc.rows", Rows.laid_moult_crc_rows)] ((World.doorLaid Tryd.prog 17 os).forCall (fun _ _ => 0) ⟨#[], args, []⟩).memory :=
  laidMetH_of_parts3 (fuel := 8) (laidMet_of_run' 8 (by kernel_rfl) (by kernel_rfl)) (by kernel_rfl) (by kernel_rfl)

namespace crcFour
set_option maxRecDepth 100000 in
theorem lifted (os : Os) (started : os.Started) (H : Type) (enc : TypeId × Value → H) :
    ReturnsInHanded {} Tryd.checked os 7 .any (fun w args => (Rows.crcFourSpec.pre enc Tryd.prog Tryd.f7 Rows.crcFourRow.domain false w args ∧ laidMetH Tryd.prog Rows.crcFourRow.laid w) ∧ sizedMet enc Tryd.prog Tryd.f7 (OpenSpec.ofChange Rows.crcFourSpec) false w args)
      (Rows.crcFourSpec.post enc Tryd.prog Tryd.f7 false true false false) := by
  refine returnsInHanded_of_change_and (C := Tryd.checked) (X := fun w _ => laidMetH Tryd.prog Rows.crcFourRow.laid w) (fun _ _ _ hh h => h.of_heap hh) own started (by kernel_rfl) Tryd.func7
    (ChangeSpec.witness_shaped (enc := enc) (C := Tryd.checked) (os := os) (X := fun w _ => laidMetH Tryd.prog Rows.crcFourRow.laid w) false (World.doorLaid Tryd.prog 17 os) #[.int .u32 0, .int .u32 0] 8 rfl (World.shaped_of_RefB (by kernel_rfl) (by kernel_rfl)) (by kernel_rfl) (by kernel_rfl) (by kernel_rfl) (door_met os _)) ?_
  intro W base args ds gs before hval0 hW _ _ hL _
  have hval : ∀ (j : Nat) t v, Tryd.f7.params[j]? = some t → args[j]? = some v → Value.okWide Tryd.prog W .any base t v := hval0
  have hW' := hW
  obtain ⟨p, q, hA0, hV, rfl, hfz, hnd⟩ := hW
  have hA : DataW.TrodAll enc Tryd.prog W 0 (fun _ => true) true Tryd.f7.params.toList args.toList ds p := hA0
  rw [Tryd.params7] at hA hval
  obtain ⟨v0, vs0, d0, ds0, p0, q0, hargs, rfl, rfl, h0, r0⟩ := trodAll_cons hA
  obtain ⟨v1, vs1, d1, ds1, p1, q1, rfl, rfl, rfl, h1, r1⟩ := trodAll_cons r0
  obtain ⟨rfl, rfl, rfl⟩ := trodAll_nil r1
  obtain rfl : args = #[v0, v1] := by cases args; simp_all
  obtain ⟨rfl, rfl⟩ := trodVars_none hV
  obtain ⟨a0, rfl, rfl, rfl, w0⟩ := open_int Tryd.underlying23 (hval 0 23 v0 rfl rfl) h0
  obtain ⟨a1, rfl, rfl, rfl, w1⟩ := open_int Tryd.underlying23 (hval 1 23 v1 rfl rfl) h1
  have b0 := bounds_u32 w0
  have b1 := bounds_u32 w1
  obtain ⟨s, rfl⟩ := Int.eq_ofNat_of_zero_le b0.1
  obtain ⟨t, rfl⟩ := Int.eq_ofNat_of_zero_le b1.1
  refine (lawFour_any s t (by omega) (by omega) W (rows_of_laid hL)).mono fun e W' ⟨he, hb⟩ => ?_
  subst he
  exact ⟨_, rfl, law_met (P := Tryd.prog) laidOut Tryd.underlying4 rfl (by intro t ht; rw [Tryd.params7] at ht; revert t; decide +kernel) rfl hW' rfl rfl rfl hb⟩
theorem over : Rows.CrcFourSaid :=
  OpenClaim.holds_of_wide 7 Tryd.f7 rfl rfl rfl rfl rfl rfl rfl ⟨rfl, rfl, rfl, rfl, rfl⟩ rfl rfl rfl rfl rfl (by kernel_rfl) Tryd.func7 (by kernel_rfl)
    (of_decide_eq_true (by kernel_rfl)) (by unfold Func.isWrapper; first | (rw [if_pos (by decide +kernel)]; kernel_rfl) | (rw [if_neg (by decide +kernel)]; exact ⟨rfl, rfl⟩))
    (fun os started H enc _ => lifted os started H enc)
end crcFour
end Go.Proofs.YtdhgiflmimonlaaDoor
