/-
  CrcBurst of layer 3: for any bytes, any place, any four bytes: of rows as long as each other that differ within four bytes side by side alone the sums are not the same, and with such a difference no sum is taken. The law returns true, and the arguments read afterwards as before. Condition: the package's table of sums is laid as the program's text lays it (tied).
-/
import Derived.Test.YtdhgiflmimonlaaDoorCrcDoor
import Derived.Test.YtdhgiflmimonlaaDoorCards
import Derived.Test.YtdhgiflmimonlaaDoorCrcBurst
import Derived.Test.YtdhgiflmimonlaaDoorOpen
import Derived.SevenTiedAt
namespace Go.Proofs.YtdhgiflmimonlaaDoor
open Go Go.ChangeShapes Go.WideShapes Go.ChangeAt Go.RowKit

namespace crcBurst
set_option maxRecDepth 100000 in
theorem lifted (os : Os) (started : os.Started) (H : Type) (enc : TypeId × Value → H) :
    ReturnsInHanded {} Tryd.checked os 4 .any (fun w args => (Rows.crcBurstSpec.pre enc Tryd.prog Tryd.f4 Rows.crcBurstRow.domain false w args ∧ laidMetH Tryd.prog Rows.crcBurstRow.laid w) ∧ sizedMet enc Tryd.prog Tryd.f4 (OpenSpec.ofChange Rows.crcBurstSpec) false w args)
      (Rows.crcBurstSpec.post enc Tryd.prog Tryd.f4 false true false false) := by
  refine returnsInHanded_of_change_and (C := Tryd.checked) (X := fun w _ => laidMetH Tryd.prog Rows.crcBurstRow.laid w) (fun _ _ _ hh h => h.of_heap hh) own started (by kernel_rfl) Tryd.func4
    (ChangeSpec.witness_shaped (enc := enc) (C := Tryd.checked) (os := os) (X := fun w _ => laidMetH Tryd.prog Rows.crcBurstRow.laid w) false (World.doorLaid Tryd.prog 17 os) #[.slice none 0 0, .int .i64 0, .agg #[.int .u8 0, .int .u8 0, .int .u8 0, .int .u8 0]] 8 rfl (World.shaped_of_RefB (by kernel_rfl) (by kernel_rfl)) (by kernel_rfl) (by kernel_rfl) (by kernel_rfl) (door_met os _)) ?_
  intro W base args ds gs before hval0 hW _ _ hL _
  have hval : ∀ (j : Nat) t v, Tryd.f4.params[j]? = some t → args[j]? = some v → Value.okWide Tryd.prog W .any base t v := hval0
  have hW' := hW
  obtain ⟨p, q, hA0, hV, rfl, hfz, hnd⟩ := hW
  have hA : DataW.TrodAll enc Tryd.prog W 0 (fun _ => true) true Tryd.f4.params.toList args.toList ds p := hA0
  rw [Tryd.params4] at hA hval
  obtain ⟨v0, vs0, d0, ds0, p0, q0, hargs, rfl, rfl, h0, r0⟩ := trodAll_cons hA
  obtain ⟨v1, vs1, d1, ds1, p1, q1, rfl, rfl, rfl, h1, r1⟩ := trodAll_cons r0
  obtain ⟨v2, vs2, d2, ds2, p2, q2, rfl, rfl, rfl, h2, r2⟩ := trodAll_cons r1
  obtain ⟨rfl, rfl, rfl⟩ := trodAll_nil r2
  obtain rfl : args = #[v0, v1, v2] := by cases args; simp_all
  obtain ⟨rfl, rfl⟩ := trodVars_none hV
  obtain ⟨Ab, cb, b, rfl, leb, mxb, rdb⟩ := open_bytes_rd Tryd.underlying25 Tryd.underlying5 (by kernel_rfl) (hval 0 25 v0 rfl rfl) h0
  obtain ⟨at_, rfl, rfl, rfl, w1⟩ := open_int Tryd.underlying3 (hval 1 3 v1 rfl rfl) h1
  obtain ⟨y0, y1, y2, y3, rfl⟩ := open_arr4 Tryd.underlying33 Tryd.underlying5 (by kernel_rfl) (by kernel_rfl) (hval 2 33 v2 rfl rfl) h2
  refine (lawBurst_all Ab cb b at_ y0 y1 y2 y3 W rdb leb mxb (rows_of_laid hL)).mono fun e W' ⟨he, hb⟩ => ?_
  subst he
  exact ⟨_, rfl, law_met (P := Tryd.prog) laidOut Tryd.underlying4 rfl (by intro t ht; rw [Tryd.params4] at ht; revert t; decide +kernel) rfl hW' rfl rfl rfl hb⟩
theorem over : Rows.CrcBurstSaid :=
  OpenClaim.holds_of_wide 4 Tryd.f4 rfl rfl rfl rfl rfl rfl rfl ⟨rfl, rfl, rfl, rfl, rfl⟩ rfl rfl rfl rfl rfl (by kernel_rfl) Tryd.func4 (by kernel_rfl)
    (of_decide_eq_true (by kernel_rfl)) (by unfold Func.isWrapper; first | (rw [if_pos (by decide +kernel)]; kernel_rfl) | (rw [if_neg (by decide +kernel)]; exact ⟨rfl, rfl⟩))
    (fun os started H enc _ => lifted os started H enc)
end crcBurst

theorem crcBurst_holds : Rows.CrcBurstCardSaid :=
  Claim7.holds_tied_plain_at .later [] [.data] true Rows.crcBurstCard.stood.harness false
    crcBurst.over (fun _ h => by cases h) (by kernel_rfl) (fun _ h => by cases h) crcBurst_row_tie rfl ⟨rfl, rfl⟩ (by kernel_rfl) rfl
    (fun f fn hf hfn => by
      obtain rfl : f = 4 := Option.some.inj ((show Tryd.prog.funcNamed "moult/moultlaw03.CrcBurst" = some 4 by kernel_rfl).symm.trans hf) |>.symm
      obtain rfl : fn = Tryd.f4 := (Option.some.inj (Tryd.func4.symm.trans hfn)).symm
      exact ⟨by kernel_rfl, fun j t ht => by
        have hm : t ∈ Tryd.f4.params.toList := Array.mem_toList_iff.2 (Array.mem_of_getElem? ht)
        have hall : (Tryd.f4.params.toList.all fun u => !Tryd.prog.wantsStandIn u) = true := by kernel_rfl
        exact (show Tryd.prog.wantsStandIn t = false by simpa using List.all_eq_true.1 hall t hm)⟩)
    (by kernel_rfl)
#print axioms crcBurst_holds
end Go.Proofs.YtdhgiflmimonlaaDoor
