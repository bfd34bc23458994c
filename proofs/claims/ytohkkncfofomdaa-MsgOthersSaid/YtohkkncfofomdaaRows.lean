/-
  No cell of these rows narrows 'for every input' (looked for: loops, veiled, ifaces, maps, wideKeys, modest, calm, conditions, laid).
  DERIVED. THE GIVEN ROWS OF THIS SEAT. 7 by the template 'for every input the law returns true; each argument reads behind the call as it read before'; 0 by the template 'total and deterministic' (their statements: YtohkkncfofomdaaTotals.lean).
  GIVEN WITH THE SEED: the statements are not yours to turn. If you find one false, say at which input.
  Laid BY PROGRAM, IN A SANDBOX (cutbox-rows.mjs): the forced cells as the released guide's own fill.sh prints them over the translation e4d0fff71ce8a2b8… (all of the seat's roots in one cut). By AI agents, Wed Nov 11 2026. No macro, syntax, notation, axiom, sorry.
-/
import Derived.Test.YtohkkncfofomdaaChecked
import GoSem.Claim
import GoSem.ClaimJoined
import GoSem.ClaimMapViews
import Derived.JoinedTies
import Derived.KernelRfl
namespace Go.Proofs.Ytohkkncfofomdaa
/- THE CELL 'sum', in the pinned program and in every row, IS THE sha256 OF THE DUMP (.gsa) THAT YtohkkncfofomdaaProg.lean LOADS. Nothing in Lean hashes anything: it is a label: what it is worth is what the hold of that sum in a sandbox is worth. -/
noncomputable def Try.pinned : Pinned := { name := "ytohkkncfofomdaa", sum := "e4d0fff71ce8a2b85d98e4ade40243af8b129ecc611a10ed8cde9a7b15f470d2", checked := Try.checked }
namespace Rows
def none {H : Type} : Left H := { results := [], args := [] }

/-- 'moultlaw20.MsgNew': WHATEVER THE INPUT: true; the input reads as it did. -/
def msgNewSpec : ChangeSpec := { name := "msgNew", fn := fun _ => fun
  | [d1, d2, d3, d4] => { results := [.lit (.bool true)], args := [d1, d2, d3, d4] }
  | _ => none }
def msgNewRow : OpenClaim := { program := "ytohkkncfofomdaa", sum := "e4d0fff71ce8a2b85d98e4ade40243af8b129ecc611a10ed8cde9a7b15f470d2", func := "moult/moultlaw20.MsgNew", spec := "msgNew", unfollowed := true, recurses := true, apart := false }
def MsgNewSaid : Prop := msgNewRow.holds Try.pinned (OpenSpec.ofChange msgNewSpec)

/-- ITS FALSE NEIGHBOUR: 'it returns false'. Refute it at one input. -/
def msgNewWrong : ChangeSpec := { name := "msgNew", fn := fun _ => fun
  | [d1, d2, d3, d4] => { results := [.lit (.bool false)], args := [d1, d2, d3, d4] }
  | _ => none }
def MsgNewWrongFalsely : Prop := msgNewRow.holds Try.pinned (OpenSpec.ofChange msgNewWrong)

/-- 'moultlaw20.MsgOthers': WHATEVER THE INPUT: true; the input reads as it did. -/
def msgOthersSpec : ChangeSpec := { name := "msgOthers", fn := fun _ => fun
  | [d1, d2] => { results := [.lit (.bool true)], args := [d1, d2] }
  | _ => none }
def msgOthersRow : OpenClaim := { program := "ytohkkncfofomdaa", sum := "e4d0fff71ce8a2b85d98e4ade40243af8b129ecc611a10ed8cde9a7b15f470d2", func := "moult/moultlaw20.MsgOthers", spec := "msgOthers", unfollowed := true, recurses := true, apart := false }
def MsgOthersSaid : Prop := msgOthersRow.holds Try.pinned (OpenSpec.ofChange msgOthersSpec)

/-- ITS FALSE NEIGHBOUR: 'it returns false'. Refute it at one input. -/
def msgOthersWrong : ChangeSpec := { name := "msgOthers", fn := fun _ => fun
  | [d1, d2] => { results := [.lit (.bool false)], args := [d1, d2] }
  | _ => none }
def MsgOthersWrongFalsely : Prop := msgOthersRow.holds Try.pinned (OpenSpec.ofChange msgOthersWrong)

/-- 'moultlaw20.MsgFine': WHATEVER THE INPUT: true; the input reads as it did. -/
def msgFineSpec : ChangeSpec := { name := "msgFine", fn := fun _ => fun
  | [d1, d2, d3] => { results := [.lit (.bool true)], args := [d1, d2, d3] }
  | _ => none }
def msgFineRow : OpenClaim := { program := "ytohkkncfofomdaa", sum := "e4d0fff71ce8a2b85d98e4ade40243af8b129ecc611a10ed8cde9a7b15f470d2", func := "moult/moultlaw20.MsgFine", spec := "msgFine", unfollowed := true, recurses := true, apart := false }
def MsgFineSaid : Prop := msgFineRow.holds Try.pinned (OpenSpec.ofChange msgFineSpec)

/-- ITS FALSE NEIGHBOUR: 'it returns false'. Refute it at one input. -/
def msgFineWrong : ChangeSpec := { name := "msgFine", fn := fun _ => fun
  | [d1, d2, d3] => { results := [.lit (.bool false)], args := [d1, d2, d3] }
  | _ => none }
def MsgFineWrongFalsely : Prop := msgFineRow.holds Try.pinned (OpenSpec.ofChange msgFineWrong)

/-- 'moultlaw20.MsgBack': WHATEVER THE INPUT: true; the input reads as it did. -/
def msgBackSpec : ChangeSpec := { name := "msgBack", fn := fun _ => fun
  | [d1, d2, d3, d4] => { results := [.lit (.bool true)], args := [d1, d2, d3, d4] }
  | _ => none }
def msgBackRow : OpenClaim := { program := "ytohkkncfofomdaa", sum := "e4d0fff71ce8a2b85d98e4ade40243af8b129ecc611a10ed8cde9a7b15f470d2", func := "moult/moultlaw20.MsgBack", spec := "msgBack", unfollowed := true, recurses := true, apart := false }
def MsgBackSaid : Prop := msgBackRow.holds Try.pinned (OpenSpec.ofChange msgBackSpec)

/-- ITS FALSE NEIGHBOUR: 'it returns false'. Refute it at one input. -/
def msgBackWrong : ChangeSpec := { name := "msgBack", fn := fun _ => fun
  | [d1, d2, d3, d4] => { results := [.lit (.bool false)], args := [d1, d2, d3, d4] }
  | _ => none }
def MsgBackWrongFalsely : Prop := msgBackRow.holds Try.pinned (OpenSpec.ofChange msgBackWrong)

/-- 'moultlaw21.AdvertRight': WHATEVER THE INPUT: true; the input reads as it did. -/
def advertRightSpec : ChangeSpec := { name := "advertRight", fn := fun _ => fun
  | [d1, d2, d3] => { results := [.lit (.bool true)], args := [d1, d2, d3] }
  | _ => none }
def advertRightRow : OpenClaim := { program := "ytohkkncfofomdaa", sum := "e4d0fff71ce8a2b85d98e4ade40243af8b129ecc611a10ed8cde9a7b15f470d2", func := "moult/moultlaw21.AdvertRight", spec := "advertRight", unfollowed := true, recurses := true, apart := false }
def AdvertRightSaid : Prop := advertRightRow.holds Try.pinned (OpenSpec.ofChange advertRightSpec)

/-- ITS FALSE NEIGHBOUR: 'it returns false'. Refute it at one input. -/
def advertRightWrong : ChangeSpec := { name := "advertRight", fn := fun _ => fun
  | [d1, d2, d3] => { results := [.lit (.bool false)], args := [d1, d2, d3] }
  | _ => none }
def AdvertRightWrongFalsely : Prop := advertRightRow.holds Try.pinned (OpenSpec.ofChange advertRightWrong)

/-- 'moultlaw21.AdvertAsks': WHATEVER THE INPUT: true; the input reads as it did. -/
def advertAsksSpec : ChangeSpec := { name := "advertAsks", fn := fun _ => fun
  | [d1, d2, d3] => { results := [.lit (.bool true)], args := [d1, d2, d3] }
  | _ => none }
def advertAsksRow : OpenClaim := { program := "ytohkkncfofomdaa", sum := "e4d0fff71ce8a2b85d98e4ade40243af8b129ecc611a10ed8cde9a7b15f470d2", func := "moult/moultlaw21.AdvertAsks", spec := "advertAsks", unfollowed := true, recurses := true, apart := false }
def AdvertAsksSaid : Prop := advertAsksRow.holds Try.pinned (OpenSpec.ofChange advertAsksSpec)

/-- ITS FALSE NEIGHBOUR: 'it returns false'. Refute it at one input. -/
def advertAsksWrong : ChangeSpec := { name := "advertAsks", fn := fun _ => fun
  | [d1, d2, d3] => { results := [.lit (.bool false)], args := [d1, d2, d3] }
  | _ => none }
def AdvertAsksWrongFalsely : Prop := advertAsksRow.holds Try.pinned (OpenSpec.ofChange advertAsksWrong)

/-- 'moultlaw21.AdvertNot': WHATEVER THE INPUT: true; the input reads as it did. -/
def advertNotSpec : ChangeSpec := { name := "advertNot", fn := fun _ => fun
  | [d1, d2, d3] => { results := [.lit (.bool true)], args := [d1, d2, d3] }
  | _ => none }
def advertNotRow : OpenClaim := { program := "ytohkkncfofomdaa", sum := "e4d0fff71ce8a2b85d98e4ade40243af8b129ecc611a10ed8cde9a7b15f470d2", func := "moult/moultlaw21.AdvertNot", spec := "advertNot", unfollowed := true, recurses := true, apart := false }
def AdvertNotSaid : Prop := advertNotRow.holds Try.pinned (OpenSpec.ofChange advertNotSpec)

/-- ITS FALSE NEIGHBOUR: 'it returns false'. Refute it at one input. -/
def advertNotWrong : ChangeSpec := { name := "advertNot", fn := fun _ => fun
  | [d1, d2, d3] => { results := [.lit (.bool false)], args := [d1, d2, d3] }
  | _ => none }
def AdvertNotWrongFalsely : Prop := advertNotRow.holds Try.pinned (OpenSpec.ofChange advertNotWrong)

/- THE SECOND FORM. 'bulk': how many values and letters a reading holds, each counted each time it is reached (what is shared counts as often as it is met; a slice's spare places count too). A statement '..UptoSaid' is the law's where the arguments, and the package variables that the reading takes, are together of bulk at most 1048576: NARROWER than '..Said'. Prove '..Said' where nothing that the law and all that it calls make is longer than what came in: it says more and counts as full. Else prove '..UptoSaid'. A law counts once. -/
mutual
def uptoBulk {H : Type} : DataW H → Nat
  | .lit (.string bytes) => bytes.length + 1
  | .lit _ => 1
  | .nil => 1
  | .ptr d => uptoBulk d + 1
  | .slice elems spare => uptoBulkAll elems + uptoBulkAll spare + 1
  | .agg parts => uptoBulkAll parts + 1
  | .iface _ d => uptoBulk d + 1
  | .map entries => uptoBulkEntries entries + 1
  | .held _ => 1
def uptoBulkAll {H : Type} : List (DataW H) → Nat
  | [] => 0
  | d :: r => uptoBulk d + uptoBulkAll r
def uptoBulkEntries {H : Type} : List (Lit × DataW H) → Nat
  | [] => 0
  | x :: r => uptoBulkEntry x + uptoBulkEntries r
def uptoBulkEntry {H : Type} : Lit × DataW H → Nat
  | (.string bytes, d) => bytes.length + uptoBulk d + 1
  | (_, d) => uptoBulk d + 1
 end
def uptoSmall : (H : Type) → List (DataW H) → Bool := fun _ ds => decide (uptoBulkAll ds ≤ 1048576)
def OpenSpec.upto (s : _root_.Go.ChangeSpec) : _root_.Go.OpenSpec := { _root_.Go.OpenSpec.ofChange s with cond := some uptoSmall }

/-- 'moultlaw20.MsgNew', WHERE WHAT IT READS IS OF BULK AT MOST 1048576: true; the input reads as it did. -/
def msgNewUptoRow : OpenClaim := { program := "ytohkkncfofomdaa", sum := "e4d0fff71ce8a2b85d98e4ade40243af8b129ecc611a10ed8cde9a7b15f470d2", func := "moult/moultlaw20.MsgNew", spec := "msgNew", unfollowed := true, recurses := true, apart := false, narrowed := true }
def MsgNewUptoSaid : Prop := msgNewUptoRow.holds Try.pinned (OpenSpec.upto msgNewSpec)

/-- 'moultlaw20.MsgOthers', WHERE WHAT IT READS IS OF BULK AT MOST 1048576: true; the input reads as it did. -/
def msgOthersUptoRow : OpenClaim := { program := "ytohkkncfofomdaa", sum := "e4d0fff71ce8a2b85d98e4ade40243af8b129ecc611a10ed8cde9a7b15f470d2", func := "moult/moultlaw20.MsgOthers", spec := "msgOthers", unfollowed := true, recurses := true, apart := false, narrowed := true }
def MsgOthersUptoSaid : Prop := msgOthersUptoRow.holds Try.pinned (OpenSpec.upto msgOthersSpec)

/-- 'moultlaw20.MsgFine', WHERE WHAT IT READS IS OF BULK AT MOST 1048576: true; the input reads as it did. -/
def msgFineUptoRow : OpenClaim := { program := "ytohkkncfofomdaa", sum := "e4d0fff71ce8a2b85d98e4ade40243af8b129ecc611a10ed8cde9a7b15f470d2", func := "moult/moultlaw20.MsgFine", spec := "msgFine", unfollowed := true, recurses := true, apart := false, narrowed := true }
def MsgFineUptoSaid : Prop := msgFineUptoRow.holds Try.pinned (OpenSpec.upto msgFineSpec)

/-- 'moultlaw20.MsgBack', WHERE WHAT IT READS IS OF BULK AT MOST 1048576: true; the input reads as it did. -/
def msgBackUptoRow : OpenClaim := { program := "ytohkkncfofomdaa", sum := "e4d0fff71ce8a2b85d98e4ade40243af8b129ecc611a10ed8cde9a7b15f470d2", func := "moult/moultlaw20.MsgBack", spec := "msgBack", unfollowed := true, recurses := true, apart := false, narrowed := true }
def MsgBackUptoSaid : Prop := msgBackUptoRow.holds Try.pinned (OpenSpec.upto msgBackSpec)

/-- 'moultlaw21.AdvertRight', WHERE WHAT IT READS IS OF BULK AT MOST 1048576: true; the input reads as it did. -/
def advertRightUptoRow : OpenClaim := { program := "ytohkkncfofomdaa", sum := "e4d0fff71ce8a2b85d98e4ade40243af8b129ecc611a10ed8cde9a7b15f470d2", func := "moult/moultlaw21.AdvertRight", spec := "advertRight", unfollowed := true, recurses := true, apart := false, narrowed := true }
def AdvertRightUptoSaid : Prop := advertRightUptoRow.holds Try.pinned (OpenSpec.upto advertRightSpec)

/-- 'moultlaw21.AdvertAsks', WHERE WHAT IT READS IS OF BULK AT MOST 1048576: true; the input reads as it did. -/
def advertAsksUptoRow : OpenClaim := { program := "ytohkkncfofomdaa", sum := "e4d0fff71ce8a2b85d98e4ade40243af8b129ecc611a10ed8cde9a7b15f470d2", func := "moult/moultlaw21.AdvertAsks", spec := "advertAsks", unfollowed := true, recurses := true, apart := false, narrowed := true }
def AdvertAsksUptoSaid : Prop := advertAsksUptoRow.holds Try.pinned (OpenSpec.upto advertAsksSpec)

/-- 'moultlaw21.AdvertNot', WHERE WHAT IT READS IS OF BULK AT MOST 1048576: true; the input reads as it did. -/
def advertNotUptoRow : OpenClaim := { program := "ytohkkncfofomdaa", sum := "e4d0fff71ce8a2b85d98e4ade40243af8b129ecc611a10ed8cde9a7b15f470d2", func := "moult/moultlaw21.AdvertNot", spec := "advertNot", unfollowed := true, recurses := true, apart := false, narrowed := true }
def AdvertNotUptoSaid : Prop := advertNotUptoRow.holds Try.pinned (OpenSpec.upto advertNotSpec)

end Rows
end Go.Proofs.Ytohkkncfofomdaa
