/-
  No cell of these rows narrows 'for every input' (looked for: loops, veiled, ifaces, maps, wideKeys, modest, calm, conditions, laid).
  DERIVED. THE GIVEN ROWS OF THIS SEAT. 4 by the template 'for every input the law returns true; each argument reads behind the call as it read before'; 0 by the template 'total and deterministic' (their statements: YtenagnncpaabdaaTotals.lean).
  GIVEN WITH THE SEED: the statements are not yours to turn. If you find one false, say at which input.
  Laid BY PROGRAM, IN A SANDBOX (cutbox-rows.mjs): the forced cells as the released guide's own fill.sh prints them over the translation af455626fbea486e… (all of the seat's roots in one cut). By AI agents, Wed Nov 11 2026. No macro, syntax, notation, axiom, sorry.
-/
import Derived.Test.YtenagnncpaabdaaChecked
import GoSem.Claim
import GoSem.ClaimJoined
import GoSem.ClaimMapViews
import Derived.JoinedTies
import Derived.KernelRfl
namespace Go.Proofs.Ytenagnncpaabdaa
/- THE CELL 'sum', in the pinned program and in every row, IS THE sha256 OF THE DUMP (.gsa) THAT YtenagnncpaabdaaProg.lean LOADS. Nothing in Lean hashes anything: it is a label: what it is worth is what the hold of that sum in a sandbox is worth. -/
noncomputable def Try.pinned : Pinned := { name := "ytenagnncpaabdaa", sum := "af455626fbea486ebcb1749e954afaf118da16601da368b97794944726950569", checked := Try.checked }
namespace Rows
def none {H : Type} : Left H := { results := [], args := [] }

/-- 'moultlaw25.InstallKeeps': WHATEVER THE INPUT: true; the input reads as it did. -/
def installKeepsSpec : ChangeSpec := { name := "installKeeps", fn := fun _ => fun
  | [d1, d2] => { results := [.lit (.bool true)], args := [d1, d2] }
  | _ => none }
def installKeepsRow : OpenClaim := { program := "ytenagnncpaabdaa", sum := "af455626fbea486ebcb1749e954afaf118da16601da368b97794944726950569", func := "moult/moultlaw25.InstallKeeps", spec := "installKeeps", unfollowed := true, recurses := true, apart := false }
def InstallKeepsSaid : Prop := installKeepsRow.holds Try.pinned (OpenSpec.ofChange installKeepsSpec)

/-- ITS FALSE NEIGHBOUR: 'it returns false'. Refute it at one input. -/
def installKeepsWrong : ChangeSpec := { name := "installKeeps", fn := fun _ => fun
  | [d1, d2] => { results := [.lit (.bool false)], args := [d1, d2] }
  | _ => none }
def InstallKeepsWrongFalsely : Prop := installKeepsRow.holds Try.pinned (OpenSpec.ofChange installKeepsWrong)

/-- 'moultlaw25.InstallCompacts': WHATEVER THE INPUT: true; the input reads as it did. -/
def installCompactsSpec : ChangeSpec := { name := "installCompacts", fn := fun _ => fun
  | [d] => { results := [.lit (.bool true)], args := [d] }
  | _ => none }
def installCompactsRow : OpenClaim := { program := "ytenagnncpaabdaa", sum := "af455626fbea486ebcb1749e954afaf118da16601da368b97794944726950569", func := "moult/moultlaw25.InstallCompacts", spec := "installCompacts", unfollowed := true, recurses := true, apart := false }
def InstallCompactsSaid : Prop := installCompactsRow.holds Try.pinned (OpenSpec.ofChange installCompactsSpec)

/-- ITS FALSE NEIGHBOUR: 'it returns false'. Refute it at one input. -/
def installCompactsWrong : ChangeSpec := { name := "installCompacts", fn := fun _ => fun
  | [d] => { results := [.lit (.bool false)], args := [d] }
  | _ => none }
def InstallCompactsWrongFalsely : Prop := installCompactsRow.holds Try.pinned (OpenSpec.ofChange installCompactsWrong)

/-- 'moultlaw25.InstallBeats': WHATEVER THE INPUT: true; the input reads as it did. -/
def installBeatsSpec : ChangeSpec := { name := "installBeats", fn := fun _ => fun
  | [d] => { results := [.lit (.bool true)], args := [d] }
  | _ => none }
def installBeatsRow : OpenClaim := { program := "ytenagnncpaabdaa", sum := "af455626fbea486ebcb1749e954afaf118da16601da368b97794944726950569", func := "moult/moultlaw25.InstallBeats", spec := "installBeats", unfollowed := true, recurses := true, apart := false }
def InstallBeatsSaid : Prop := installBeatsRow.holds Try.pinned (OpenSpec.ofChange installBeatsSpec)

/-- ITS FALSE NEIGHBOUR: 'it returns false'. Refute it at one input. -/
def installBeatsWrong : ChangeSpec := { name := "installBeats", fn := fun _ => fun
  | [d] => { results := [.lit (.bool false)], args := [d] }
  | _ => none }
def InstallBeatsWrongFalsely : Prop := installBeatsRow.holds Try.pinned (OpenSpec.ofChange installBeatsWrong)

/-- 'moultlaw25.InstallNot': WHATEVER THE INPUT: true; the input reads as it did. -/
def installNotSpec : ChangeSpec := { name := "installNot", fn := fun _ => fun
  | [d1, d2, d3] => { results := [.lit (.bool true)], args := [d1, d2, d3] }
  | _ => none }
def installNotRow : OpenClaim := { program := "ytenagnncpaabdaa", sum := "af455626fbea486ebcb1749e954afaf118da16601da368b97794944726950569", func := "moult/moultlaw25.InstallNot", spec := "installNot", unfollowed := true, recurses := true, apart := false }
def InstallNotSaid : Prop := installNotRow.holds Try.pinned (OpenSpec.ofChange installNotSpec)

/-- ITS FALSE NEIGHBOUR: 'it returns false'. Refute it at one input. -/
def installNotWrong : ChangeSpec := { name := "installNot", fn := fun _ => fun
  | [d1, d2, d3] => { results := [.lit (.bool false)], args := [d1, d2, d3] }
  | _ => none }
def InstallNotWrongFalsely : Prop := installNotRow.holds Try.pinned (OpenSpec.ofChange installNotWrong)

/- THE SECOND FORM. 'bulk': how many values and letters a reading holds, each counted each time it is reached (what is shared counts as often as it is met; a slice's spare places count too). A statement '..UptoSaid' is the law's where the arguments, and the package variables that the reading takes, are together of bulk at most 1048576: NARROWER than '..Said'. Prove '..Said' where nothing that the law and all that it calls make is longer than what came in: it says more and counts as full. Else prove '..UptoSaid'. A law counts once. -/
mutual
def uptoBulk {H : Type} : DataW H → Nat
  | .lit (.string bytes) => bytes.length + 1
  | .lit _ => 1
  | .nil => 1
  | .ptr d => uptoBulk d + 1
  | .slice elems spare => uptoBulkAll elems + uptoBulkAll spare + 1
  | .agg parts => uptoBulkAll parts + 1
  | .iface _ d => uptoBulk d + 1
  | .map entries => uptoBulkEntries entries + 1
  | .held _ => 1
def uptoBulkAll {H : Type} : List (DataW H) → Nat
  | [] => 0
  | d :: r => uptoBulk d + uptoBulkAll r
def uptoBulkEntries {H : Type} : List (Lit × DataW H) → Nat
  | [] => 0
  | x :: r => uptoBulkEntry x + uptoBulkEntries r
def uptoBulkEntry {H : Type} : Lit × DataW H → Nat
  | (.string bytes, d) => bytes.length + uptoBulk d + 1
  | (_, d) => uptoBulk d + 1
 end
def uptoSmall : (H : Type) → List (DataW H) → Bool := fun _ ds => decide (uptoBulkAll ds ≤ 1048576)
def OpenSpec.upto (s : _root_.Go.ChangeSpec) : _root_.Go.OpenSpec := { _root_.Go.OpenSpec.ofChange s with cond := some uptoSmall }

/-- 'moultlaw25.InstallKeeps', WHERE WHAT IT READS IS OF BULK AT MOST 1048576: true; the input reads as it did. -/
def installKeepsUptoRow : OpenClaim := { program := "ytenagnncpaabdaa", sum := "af455626fbea486ebcb1749e954afaf118da16601da368b97794944726950569", func := "moult/moultlaw25.InstallKeeps", spec := "installKeeps", unfollowed := true, recurses := true, apart := false, narrowed := true }
def InstallKeepsUptoSaid : Prop := installKeepsUptoRow.holds Try.pinned (OpenSpec.upto installKeepsSpec)

/-- 'moultlaw25.InstallCompacts', WHERE WHAT IT READS IS OF BULK AT MOST 1048576: true; the input reads as it did. -/
def installCompactsUptoRow : OpenClaim := { program := "ytenagnncpaabdaa", sum := "af455626fbea486ebcb1749e954afaf118da16601da368b97794944726950569", func := "moult/moultlaw25.InstallCompacts", spec := "installCompacts", unfollowed := true, recurses := true, apart := false, narrowed := true }
def InstallCompactsUptoSaid : Prop := installCompactsUptoRow.holds Try.pinned (OpenSpec.upto installCompactsSpec)

/-- 'moultlaw25.InstallBeats', WHERE WHAT IT READS IS OF BULK AT MOST 1048576: true; the input reads as it did. -/
def installBeatsUptoRow : OpenClaim := { program := "ytenagnncpaabdaa", sum := "af455626fbea486ebcb1749e954afaf118da16601da368b97794944726950569", func := "moult/moultlaw25.InstallBeats", spec := "installBeats", unfollowed := true, recurses := true, apart := false, narrowed := true }
def InstallBeatsUptoSaid : Prop := installBeatsUptoRow.holds Try.pinned (OpenSpec.upto installBeatsSpec)

/-- 'moultlaw25.InstallNot', WHERE WHAT IT READS IS OF BULK AT MOST 1048576: true; the input reads as it did. -/
def installNotUptoRow : OpenClaim := { program := "ytenagnncpaabdaa", sum := "af455626fbea486ebcb1749e954afaf118da16601da368b97794944726950569", func := "moult/moultlaw25.InstallNot", spec := "installNot", unfollowed := true, recurses := true, apart := false, narrowed := true }
def InstallNotUptoSaid : Prop := installNotUptoRow.holds Try.pinned (OpenSpec.upto installNotSpec)

end Rows
end Go.Proofs.Ytenagnncpaabdaa
