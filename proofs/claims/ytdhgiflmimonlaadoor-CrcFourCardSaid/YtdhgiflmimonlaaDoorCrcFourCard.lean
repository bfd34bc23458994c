/-
  CrcFour of layer 3: for any two sums the law returns true: a sum is told by its bytes, the lowest first; the arguments read afterwards as before. Condition: the package's table of sums is laid as the program's text lays it (tied).
-/
import Derived.Test.YtdhgiflmimonlaaDoorCrcDoor
import Derived.Test.YtdhgiflmimonlaaDoorCards
import Derived.SevenTiedAt
namespace Go.Proofs.YtdhgiflmimonlaaDoor
open Go

theorem crcFour_holds : Rows.CrcFourCardSaid :=
  Claim7.holds_tied_plain_at .later [] [.data] true Rows.crcFourCard.stood.harness false
    crcFour.over (fun _ h => by cases h) (by kernel_rfl) (fun _ h => by cases h) crcFour_row_tie rfl ⟨rfl, rfl⟩ (by kernel_rfl) rfl
    (fun f fn hf hfn => by
      obtain rfl : f = 7 := Option.some.inj ((show Tryd.prog.funcNamed "moult/moultlaw03.CrcFour" = some 7 by kernel_rfl).symm.trans hf) |>.symm
      obtain rfl : fn = Tryd.f7 := (Option.some.inj (Tryd.func7.symm.trans hfn)).symm
      exact ⟨by kernel_rfl, fun j t ht => by
        have hm : t ∈ Tryd.f7.params.toList := Array.mem_toList_iff.2 (Array.mem_of_getElem? ht)
        have hall : (Tryd.f7.params.toList.all fun u => !Tryd.prog.wantsStandIn u) = true := by kernel_rfl
        exact (show Tryd.prog.wantsStandIn t = false by simpa using List.all_eq_true.1 hall t hm)⟩)
    (by kernel_rfl)
#print axioms crcFour_holds
end Go.Proofs.YtdhgiflmimonlaaDoor
