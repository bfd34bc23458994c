/-
  CrcThree of layer 3: for any three rows of bytes, two sums, two halves: the sum of three rows as long as each other, put together by exclusive or, is that of the three sums; and a step goes with it. The law returns true, and the arguments read afterwards as before. Condition: the package's table of sums is laid as the program's text lays it (tied).
-/
import Derived.Test.YtdhgiflmimonlaaDoorCrcDoor
import Derived.Test.YtdhgiflmimonlaaDoorCards
import Derived.Test.YtdhgiflmimonlaaDoorCrcThree
import Derived.Test.YtdhgiflmimonlaaDoorOpen
import Derived.SevenTiedAt
namespace Go.Proofs.YtdhgiflmimonlaaDoor
open Go Go.ChangeShapes Go.WideShapes Go.ChangeAt Go.RowKit

namespace crcThree
set_option maxRecDepth 100000 in
theorem lifted (os : Os) (started : os.Started) (H : Type) (enc : TypeId × Value → H) :
    ReturnsInHanded {} Tryd.checked os 6 .any (fun w args => (Rows.crcThreeSpec.pre enc Tryd.prog Tryd.f6 Rows.crcThreeRow.domain false w args ∧ laidMetH Tryd.prog Rows.crcThreeRow.laid w) ∧ sizedMet enc Tryd.prog Tryd.f6 (OpenSpec.ofChange Rows.crcThreeSpec) false w args)
      (Rows.crcThreeSpec.post enc Tryd.prog Tryd.f6 false true false false) := by
  refine returnsInHanded_of_change_and (C := Tryd.checked) (X := fun w _ => laidMetH Tryd.prog Rows.crcThreeRow.laid w) (fun _ _ _ hh h => h.of_heap hh) own started (by kernel_rfl) Tryd.func6
    (ChangeSpec.witness_shaped (enc := enc) (C := Tryd.checked) (os := os) (X := fun w _ => laidMetH Tryd.prog Rows.crcThreeRow.laid w) false (World.doorLaid Tryd.prog 17 os) #[.slice none 0 0, .slice none 0 0, .slice none 0 0, .int .u32 0, .int .u32 0, .int .u8 0, .int .u8 0] 8 rfl (World.shaped_of_RefB (by kernel_rfl) (by kernel_rfl)) (by kernel_rfl) (by kernel_rfl) (by kernel_rfl) (door_met os _)) ?_
  intro W base args ds gs before hval0 hW _ _ hL _
  have hval : ∀ (j : Nat) t v, Tryd.f6.params[j]? = some t → args[j]? = some v → Value.okWide Tryd.prog W .any base t v := hval0
  have hW' := hW
  obtain ⟨p, q, hA0, hV, rfl, hfz, hnd⟩ := hW
  have hA : DataW.TrodAll enc Tryd.prog W 0 (fun _ => true) true Tryd.f6.params.toList args.toList ds p := hA0
  rw [Tryd.params6] at hA hval
  obtain ⟨v0, vs0, d0, ds0, p0, q0, hargs, rfl, rfl, h0, r0⟩ := trodAll_cons hA
  obtain ⟨v1, vs1, d1, ds1, p1, q1, rfl, rfl, rfl, h1, r1⟩ := trodAll_cons r0
  obtain ⟨v2, vs2, d2, ds2, p2, q2, rfl, rfl, rfl, h2, r2⟩ := trodAll_cons r1
  obtain ⟨v3, vs3, d3, ds3, p3, q3, rfl, rfl, rfl, h3, r3⟩ := trodAll_cons r2
  obtain ⟨v4, vs4, d4, ds4, p4, q4, rfl, rfl, rfl, h4, r4⟩ := trodAll_cons r3
  obtain ⟨v5, vs5, d5, ds5, p5, q5, rfl, rfl, rfl, h5, r5⟩ := trodAll_cons r4
  obtain ⟨v6, vs6, d6, ds6, p6, q6, rfl, rfl, rfl, h6, r6⟩ := trodAll_cons r5
  obtain ⟨rfl, rfl, rfl⟩ := trodAll_nil r6
  obtain rfl : args = #[v0, v1, v2, v3, v4, v5, v6] := by cases args; simp_all
  obtain ⟨rfl, rfl⟩ := trodVars_none hV
  obtain ⟨Aa, ca, a, rfl, lea, mxa, rda⟩ := open_bytes_rd Tryd.underlying25 Tryd.underlying5 (by kernel_rfl) (hval 0 25 v0 rfl rfl) h0
  obtain ⟨Ab, cb, b, rfl, leb, mxb, rdb⟩ := open_bytes_rd Tryd.underlying25 Tryd.underlying5 (by kernel_rfl) (hval 1 25 v1 rfl rfl) h1
  obtain ⟨Ac, cc, c, rfl, lec, mxc, rdc⟩ := open_bytes_rd Tryd.underlying25 Tryd.underlying5 (by kernel_rfl) (hval 2 25 v2 rfl rfl) h2
  obtain ⟨s, rfl, rfl, rfl, w3⟩ := open_int Tryd.underlying23 (hval 3 23 v3 rfl rfl) h3
  have b3 := bounds_u32 w3
  obtain ⟨s, rfl⟩ := Int.eq_ofNat_of_zero_le b3.1
  obtain ⟨t, rfl, rfl, rfl, w4⟩ := open_int Tryd.underlying23 (hval 4 23 v4 rfl rfl) h4
  have b4 := bounds_u32 w4
  obtain ⟨t, rfl⟩ := Int.eq_ofNat_of_zero_le b4.1
  obtain ⟨h, rfl, rfl, rfl, w5⟩ := open_int Tryd.underlying5 (hval 5 5 v5 rfl rfl) h5
  have b5 := bounds_u8 w5
  obtain ⟨h, rfl⟩ := Int.eq_ofNat_of_zero_le b5.1
  obtain ⟨j, rfl, rfl, rfl, w6⟩ := open_int Tryd.underlying5 (hval 6 5 v6 rfl rfl) h6
  have b6 := bounds_u8 w6
  obtain ⟨j, rfl⟩ := Int.eq_ofNat_of_zero_le b6.1
  refine (lawThree_all Aa Ab Ac a b c ca cb cc s t h j (by omega) (by omega) (by omega) (by omega) W rda lea mxa rdb leb mxb rdc lec mxc (rows_of_laid hL)).mono fun e W' ⟨he, hb⟩ => ?_
  subst he
  exact ⟨_, rfl, law_met (P := Tryd.prog) laidOut Tryd.underlying4 rfl (by intro t ht; rw [Tryd.params6] at ht; revert t; decide +kernel) rfl hW' rfl rfl rfl hb⟩
theorem over : Rows.CrcThreeSaid :=
  OpenClaim.holds_of_wide 6 Tryd.f6 rfl rfl rfl rfl rfl rfl rfl ⟨rfl, rfl, rfl, rfl, rfl⟩ rfl rfl rfl rfl rfl (by kernel_rfl) Tryd.func6 (by kernel_rfl)
    (of_decide_eq_true (by kernel_rfl)) (by unfold Func.isWrapper; first | (rw [if_pos (by decide +kernel)]; kernel_rfl) | (rw [if_neg (by decide +kernel)]; exact ⟨rfl, rfl⟩))
    (fun os started H enc _ => lifted os started H enc)
end crcThree

theorem crcThree_holds : Rows.CrcThreeCardSaid :=
  Claim7.holds_tied_plain_at .later [] [.data] true Rows.crcThreeCard.stood.harness false
    crcThree.over (fun _ h => by cases h) (by kernel_rfl) (fun _ h => by cases h) crcThree_row_tie rfl ⟨rfl, rfl⟩ (by kernel_rfl) rfl
    (fun f fn hf hfn => by
      obtain rfl : f = 6 := Option.some.inj ((show Tryd.prog.funcNamed "moult/moultlaw03.CrcThree" = some 6 by kernel_rfl).symm.trans hf) |>.symm
      obtain rfl : fn = Tryd.f6 := (Option.some.inj (Tryd.func6.symm.trans hfn)).symm
      exact ⟨by kernel_rfl, fun j t ht => by
        have hm : t ∈ Tryd.f6.params.toList := Array.mem_toList_iff.2 (Array.mem_of_getElem? ht)
        have hall : (Tryd.f6.params.toList.all fun u => !Tryd.prog.wantsStandIn u) = true := by kernel_rfl
        exact (show Tryd.prog.wantsStandIn t = false by simpa using List.all_eq_true.1 hall t hm)⟩)
    (by kernel_rfl)
#print axioms crcThree_holds
end Go.Proofs.YtdhgiflmimonlaaDoor
