/-
  No cell of these rows narrows 'for every input' (looked for: loops, veiled, ifaces, maps, wideKeys, modest, calm, conditions, laid).
  DERIVED. THE GIVEN ROWS OF THIS SEAT. 4 by the template 'for every input the law returns true; each argument reads behind the call as it read before'; 0 by the template 'total and deterministic' (their statements: YtenagnncpaabdaaGreatTotals.lean).
  GIVEN WITH THE SEED: the statements are not yours to turn. If you find one false, say at which input.
  Laid BY PROGRAM, IN A SANDBOX (cutbox-rows.mjs): the forced cells as the released guide's own fill.sh prints them over the translation dfdb964ad94bd2b9… (all of the seat's roots in one cut). By AI agents, Wed Nov 11 2026. No macro, syntax, notation, axiom, sorry.
-/
import Derived.Test.YtenagnncpaabdaaGreatChecked
import GoSem.Claim
import GoSem.ClaimJoined
import GoSem.ClaimMapViews
import Derived.JoinedTies
import Derived.KernelRfl
namespace Go.Proofs.YtenagnncpaabdaaGreat
/- THE CELL 'sum', in the pinned program and in every row, IS THE sha256 OF THE DUMP (.gsa) THAT YtenagnncpaabdaaGreatProg.lean LOADS. Nothing in Lean hashes anything: it is a label: what it is worth is what the hold of that sum in a sandbox is worth. -/
noncomputable def Tryz.pinned : Pinned := { name := "ytenagnncpaabdaagreat", sum := "dfdb964ad94bd2b9861d235193ab1c67603e80ef8e07474c6c0eaa7df002a193", checked := Tryz.checked }
namespace Rows
def none {H : Type} : Left H := { results := [], args := [] }

/-- 'moultlaw24.CommitRight': WHATEVER THE INPUT: true; the input reads as it did. -/
def commitRightSpec : ChangeSpec := { name := "commitRight", fn := fun _ => fun
  | [d1, d2, d3, d4] => { results := [.lit (.bool true)], args := [d1, d2, d3, d4] }
  | _ => none }
def commitRightRow : OpenClaim := { program := "ytenagnncpaabdaagreat", sum := "dfdb964ad94bd2b9861d235193ab1c67603e80ef8e07474c6c0eaa7df002a193", func := "moult/moultlaw24.CommitRight", spec := "commitRight", unfollowed := true, recurses := true, apart := false }
def CommitRightSaid : Prop := commitRightRow.holds Tryz.pinned (OpenSpec.ofChange commitRightSpec)

/-- ITS FALSE NEIGHBOUR: 'it returns false'. Refute it at one input. -/
def commitRightWrong : ChangeSpec := { name := "commitRight", fn := fun _ => fun
  | [d1, d2, d3, d4] => { results := [.lit (.bool false)], args := [d1, d2, d3, d4] }
  | _ => none }
def CommitRightWrongFalsely : Prop := commitRightRow.holds Tryz.pinned (OpenSpec.ofChange commitRightWrong)

/-- 'moultlaw24.CommitHalf': WHATEVER THE INPUT: true; the input reads as it did. -/
def commitHalfSpec : ChangeSpec := { name := "commitHalf", fn := fun _ => fun
  | [d] => { results := [.lit (.bool true)], args := [d] }
  | _ => none }
def commitHalfRow : OpenClaim := { program := "ytenagnncpaabdaagreat", sum := "dfdb964ad94bd2b9861d235193ab1c67603e80ef8e07474c6c0eaa7df002a193", func := "moult/moultlaw24.CommitHalf", spec := "commitHalf", unfollowed := true, recurses := true, apart := false }
def CommitHalfSaid : Prop := commitHalfRow.holds Tryz.pinned (OpenSpec.ofChange commitHalfSpec)

/-- ITS FALSE NEIGHBOUR: 'it returns false'. Refute it at one input. -/
def commitHalfWrong : ChangeSpec := { name := "commitHalf", fn := fun _ => fun
  | [d] => { results := [.lit (.bool false)], args := [d] }
  | _ => none }
def CommitHalfWrongFalsely : Prop := commitHalfRow.holds Tryz.pinned (OpenSpec.ofChange commitHalfWrong)

/-- 'moultlaw24.CommitLevels': WHATEVER THE INPUT: true; the input reads as it did. -/
def commitLevelsSpec : ChangeSpec := { name := "commitLevels", fn := fun _ => fun
  | [d1, d2] => { results := [.lit (.bool true)], args := [d1, d2] }
  | _ => none }
def commitLevelsRow : OpenClaim := { program := "ytenagnncpaabdaagreat", sum := "dfdb964ad94bd2b9861d235193ab1c67603e80ef8e07474c6c0eaa7df002a193", func := "moult/moultlaw24.CommitLevels", spec := "commitLevels", unfollowed := true, recurses := true, apart := false }
def CommitLevelsSaid : Prop := commitLevelsRow.holds Tryz.pinned (OpenSpec.ofChange commitLevelsSpec)

/-- ITS FALSE NEIGHBOUR: 'it returns false'. Refute it at one input. -/
def commitLevelsWrong : ChangeSpec := { name := "commitLevels", fn := fun _ => fun
  | [d1, d2] => { results := [.lit (.bool false)], args := [d1, d2] }
  | _ => none }
def CommitLevelsWrongFalsely : Prop := commitLevelsRow.holds Tryz.pinned (OpenSpec.ofChange commitLevelsWrong)

/-- 'moultlaw24.CommitAlone': WHATEVER THE INPUT: true; the input reads as it did. -/
def commitAloneSpec : ChangeSpec := { name := "commitAlone", fn := fun _ => fun
  | [d1, d2] => { results := [.lit (.bool true)], args := [d1, d2] }
  | _ => none }
def commitAloneRow : OpenClaim := { program := "ytenagnncpaabdaagreat", sum := "dfdb964ad94bd2b9861d235193ab1c67603e80ef8e07474c6c0eaa7df002a193", func := "moult/moultlaw24.CommitAlone", spec := "commitAlone", unfollowed := true, recurses := true, apart := false }
def CommitAloneSaid : Prop := commitAloneRow.holds Tryz.pinned (OpenSpec.ofChange commitAloneSpec)

/-- ITS FALSE NEIGHBOUR: 'it returns false'. Refute it at one input. -/
def commitAloneWrong : ChangeSpec := { name := "commitAlone", fn := fun _ => fun
  | [d1, d2] => { results := [.lit (.bool false)], args := [d1, d2] }
  | _ => none }
def CommitAloneWrongFalsely : Prop := commitAloneRow.holds Tryz.pinned (OpenSpec.ofChange commitAloneWrong)

/- THE SECOND FORM. 'bulk': how many values and letters a reading holds, each counted each time it is reached (what is shared counts as often as it is met; a slice's spare places count too). A statement '..UptoSaid' is the law's where the arguments, and the package variables that the reading takes, are together of bulk at most 1048576: NARROWER than '..Said'. Prove '..Said' where nothing that the law and all that it calls make is longer than what came in: it says more and counts as full. Else prove '..UptoSaid'. A law counts once. -/
mutual
def uptoBulk {H : Type} : DataW H → Nat
  | .lit (.string bytes) => bytes.length + 1
  | .lit _ => 1
  | .nil => 1
  | .ptr d => uptoBulk d + 1
  | .slice elems spare => uptoBulkAll elems + uptoBulkAll spare + 1
  | .agg parts => uptoBulkAll parts + 1
  | .iface _ d => uptoBulk d + 1
  | .map entries => uptoBulkEntries entries + 1
  | .held _ => 1
def uptoBulkAll {H : Type} : List (DataW H) → Nat
  | [] => 0
  | d :: r => uptoBulk d + uptoBulkAll r
def uptoBulkEntries {H : Type} : List (Lit × DataW H) → Nat
  | [] => 0
  | x :: r => uptoBulkEntry x + uptoBulkEntries r
def uptoBulkEntry {H : Type} : Lit × DataW H → Nat
  | (.string bytes, d) => bytes.length + uptoBulk d + 1
  | (_, d) => uptoBulk d + 1
 end
def uptoSmall : (H : Type) → List (DataW H) → Bool := fun _ ds => decide (uptoBulkAll ds ≤ 1048576)
def OpenSpec.upto (s : _root_.Go.ChangeSpec) : _root_.Go.OpenSpec := { _root_.Go.OpenSpec.ofChange s with cond := some uptoSmall }

/-- 'moultlaw24.CommitRight', WHERE WHAT IT READS IS OF BULK AT MOST 1048576: true; the input reads as it did. -/
def commitRightUptoRow : OpenClaim := { program := "ytenagnncpaabdaagreat", sum := "dfdb964ad94bd2b9861d235193ab1c67603e80ef8e07474c6c0eaa7df002a193", func := "moult/moultlaw24.CommitRight", spec := "commitRight", unfollowed := true, recurses := true, apart := false, narrowed := true }
def CommitRightUptoSaid : Prop := commitRightUptoRow.holds Tryz.pinned (OpenSpec.upto commitRightSpec)

/-- 'moultlaw24.CommitHalf', WHERE WHAT IT READS IS OF BULK AT MOST 1048576: true; the input reads as it did. -/
def commitHalfUptoRow : OpenClaim := { program := "ytenagnncpaabdaagreat", sum := "dfdb964ad94bd2b9861d235193ab1c67603e80ef8e07474c6c0eaa7df002a193", func := "moult/moultlaw24.CommitHalf", spec := "commitHalf", unfollowed := true, recurses := true, apart := false, narrowed := true }
def CommitHalfUptoSaid : Prop := commitHalfUptoRow.holds Tryz.pinned (OpenSpec.upto commitHalfSpec)

/-- 'moultlaw24.CommitLevels', WHERE WHAT IT READS IS OF BULK AT MOST 1048576: true; the input reads as it did. -/
def commitLevelsUptoRow : OpenClaim := { program := "ytenagnncpaabdaagreat", sum := "dfdb964ad94bd2b9861d235193ab1c67603e80ef8e07474c6c0eaa7df002a193", func := "moult/moultlaw24.CommitLevels", spec := "commitLevels", unfollowed := true, recurses := true, apart := false, narrowed := true }
def CommitLevelsUptoSaid : Prop := commitLevelsUptoRow.holds Tryz.pinned (OpenSpec.upto commitLevelsSpec)

/-- 'moultlaw24.CommitAlone', WHERE WHAT IT READS IS OF BULK AT MOST 1048576: true; the input reads as it did. -/
def commitAloneUptoRow : OpenClaim := { program := "ytenagnncpaabdaagreat", sum := "dfdb964ad94bd2b9861d235193ab1c67603e80ef8e07474c6c0eaa7df002a193", func := "moult/moultlaw24.CommitAlone", spec := "commitAlone", unfollowed := true, recurses := true, apart := false, narrowed := true }
def CommitAloneUptoSaid : Prop := commitAloneUptoRow.holds Tryz.pinned (OpenSpec.upto commitAloneSpec)

end Rows
end Go.Proofs.YtenagnncpaabdaaGreat
