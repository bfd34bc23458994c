/-
  No cell of these rows narrows 'for every input' (looked for: loops, veiled, ifaces, maps, wideKeys, modest, calm, conditions, laid).
  DERIVED. THE GIVEN ROWS OF THIS SEAT. 3 by the template 'for every input the law returns true; each argument reads behind the call as it read before'; 0 by the template 'total and deterministic' (their statements: YtoehcmddfpompaaTotals.lean).
  GIVEN WITH THE SEED: the statements are not yours to turn. If you find one false, say at which input.
  Laid BY PROGRAM, IN A SANDBOX (cutbox-rows.mjs): the forced cells as the released guide's own fill.sh prints them over the translation 7afe3b018acf6e3b… (all of the seat's roots in one cut). By AI agents, Wed Nov 11 2026. No macro, syntax, notation, axiom, sorry.
-/
import Derived.Test.YtoehcmddfpompaaChecked
import GoSem.Claim
import GoSem.ClaimJoined
import GoSem.ClaimMapViews
import Derived.JoinedTies
import Derived.KernelRfl
namespace Go.Proofs.Ytoehcmddfpompaa
/- THE CELL 'sum', in the pinned program and in every row, IS THE sha256 OF THE DUMP (.gsa) THAT YtoehcmddfpompaaProg.lean LOADS. Nothing in Lean hashes anything: it is a label: what it is worth is what the hold of that sum in a sandbox is worth. -/
noncomputable def Try.pinned : Pinned := { name := "ytoehcmddfpompaa", sum := "7afe3b018acf6e3b07ad6ca7bf5d9cd583805ae2fb56badbefa4fb2c429b0006", checked := Try.checked }
namespace Rows
def none {H : Type} : Left H := { results := [], args := [] }

/-- 'moultlaw19.LevelAsks': WHATEVER THE INPUT: true; the input reads as it did. -/
def levelAsksSpec : ChangeSpec := { name := "levelAsks", fn := fun _ => fun
  | [d1, d2, d3] => { results := [.lit (.bool true)], args := [d1, d2, d3] }
  | _ => none }
def levelAsksRow : OpenClaim := { program := "ytoehcmddfpompaa", sum := "7afe3b018acf6e3b07ad6ca7bf5d9cd583805ae2fb56badbefa4fb2c429b0006", func := "moult/moultlaw19.LevelAsks", spec := "levelAsks", unfollowed := true, recurses := true, apart := false }
def LevelAsksSaid : Prop := levelAsksRow.holds Try.pinned (OpenSpec.ofChange levelAsksSpec)

/-- ITS FALSE NEIGHBOUR: 'it returns false'. Refute it at one input. -/
def levelAsksWrong : ChangeSpec := { name := "levelAsks", fn := fun _ => fun
  | [d1, d2, d3] => { results := [.lit (.bool false)], args := [d1, d2, d3] }
  | _ => none }
def LevelAsksWrongFalsely : Prop := levelAsksRow.holds Try.pinned (OpenSpec.ofChange levelAsksWrong)

/-- 'moultlaw19.LevelStages': WHATEVER THE INPUT: true; the input reads as it did. -/
def levelStagesSpec : ChangeSpec := { name := "levelStages", fn := fun _ => fun
  | [d1, d2, d3] => { results := [.lit (.bool true)], args := [d1, d2, d3] }
  | _ => none }
def levelStagesRow : OpenClaim := { program := "ytoehcmddfpompaa", sum := "7afe3b018acf6e3b07ad6ca7bf5d9cd583805ae2fb56badbefa4fb2c429b0006", func := "moult/moultlaw19.LevelStages", spec := "levelStages", unfollowed := true, recurses := true, apart := false }
def LevelStagesSaid : Prop := levelStagesRow.holds Try.pinned (OpenSpec.ofChange levelStagesSpec)

/-- ITS FALSE NEIGHBOUR: 'it returns false'. Refute it at one input. -/
def levelStagesWrong : ChangeSpec := { name := "levelStages", fn := fun _ => fun
  | [d1, d2, d3] => { results := [.lit (.bool false)], args := [d1, d2, d3] }
  | _ => none }
def LevelStagesWrongFalsely : Prop := levelStagesRow.holds Try.pinned (OpenSpec.ofChange levelStagesWrong)

/-- 'moultlaw19.LevelKnown': WHATEVER THE INPUT: true; the input reads as it did. -/
def levelKnownSpec : ChangeSpec := { name := "levelKnown", fn := fun _ => fun
  | [d1, d2] => { results := [.lit (.bool true)], args := [d1, d2] }
  | _ => none }
def levelKnownRow : OpenClaim := { program := "ytoehcmddfpompaa", sum := "7afe3b018acf6e3b07ad6ca7bf5d9cd583805ae2fb56badbefa4fb2c429b0006", func := "moult/moultlaw19.LevelKnown", spec := "levelKnown", unfollowed := true, recurses := true, apart := false }
def LevelKnownSaid : Prop := levelKnownRow.holds Try.pinned (OpenSpec.ofChange levelKnownSpec)

/-- ITS FALSE NEIGHBOUR: 'it returns false'. Refute it at one input. -/
def levelKnownWrong : ChangeSpec := { name := "levelKnown", fn := fun _ => fun
  | [d1, d2] => { results := [.lit (.bool false)], args := [d1, d2] }
  | _ => none }
def LevelKnownWrongFalsely : Prop := levelKnownRow.holds Try.pinned (OpenSpec.ofChange levelKnownWrong)

/- THE SECOND FORM. 'bulk': how many values and letters a reading holds, each counted each time it is reached (what is shared counts as often as it is met; a slice's spare places count too). A statement '..UptoSaid' is the law's where the arguments, and the package variables that the reading takes, are together of bulk at most 1048576: NARROWER than '..Said'. Prove '..Said' where nothing that the law and all that it calls make is longer than what came in: it says more and counts as full. Else prove '..UptoSaid'. A law counts once. -/
mutual
def uptoBulk {H : Type} : DataW H → Nat
  | .lit (.string bytes) => bytes.length + 1
  | .lit _ => 1
  | .nil => 1
  | .ptr d => uptoBulk d + 1
  | .slice elems spare => uptoBulkAll elems + uptoBulkAll spare + 1
  | .agg parts => uptoBulkAll parts + 1
  | .iface _ d => uptoBulk d + 1
  | .map entries => uptoBulkEntries entries + 1
  | .held _ => 1
def uptoBulkAll {H : Type} : List (DataW H) → Nat
  | [] => 0
  | d :: r => uptoBulk d + uptoBulkAll r
def uptoBulkEntries {H : Type} : List (Lit × DataW H) → Nat
  | [] => 0
  | x :: r => uptoBulkEntry x + uptoBulkEntries r
def uptoBulkEntry {H : Type} : Lit × DataW H → Nat
  | (.string bytes, d) => bytes.length + uptoBulk d + 1
  | (_, d) => uptoBulk d + 1
 end
def uptoSmall : (H : Type) → List (DataW H) → Bool := fun _ ds => decide (uptoBulkAll ds ≤ 1048576)
def OpenSpec.upto (s : _root_.Go.ChangeSpec) : _root_.Go.OpenSpec := { _root_.Go.OpenSpec.ofChange s with cond := some uptoSmall }

/-- 'moultlaw19.LevelAsks', WHERE WHAT IT READS IS OF BULK AT MOST 1048576: true; the input reads as it did. -/
def levelAsksUptoRow : OpenClaim := { program := "ytoehcmddfpompaa", sum := "7afe3b018acf6e3b07ad6ca7bf5d9cd583805ae2fb56badbefa4fb2c429b0006", func := "moult/moultlaw19.LevelAsks", spec := "levelAsks", unfollowed := true, recurses := true, apart := false, narrowed := true }
def LevelAsksUptoSaid : Prop := levelAsksUptoRow.holds Try.pinned (OpenSpec.upto levelAsksSpec)

/-- 'moultlaw19.LevelStages', WHERE WHAT IT READS IS OF BULK AT MOST 1048576: true; the input reads as it did. -/
def levelStagesUptoRow : OpenClaim := { program := "ytoehcmddfpompaa", sum := "7afe3b018acf6e3b07ad6ca7bf5d9cd583805ae2fb56badbefa4fb2c429b0006", func := "moult/moultlaw19.LevelStages", spec := "levelStages", unfollowed := true, recurses := true, apart := false, narrowed := true }
def LevelStagesUptoSaid : Prop := levelStagesUptoRow.holds Try.pinned (OpenSpec.upto levelStagesSpec)

/-- 'moultlaw19.LevelKnown', WHERE WHAT IT READS IS OF BULK AT MOST 1048576: true; the input reads as it did. -/
def levelKnownUptoRow : OpenClaim := { program := "ytoehcmddfpompaa", sum := "7afe3b018acf6e3b07ad6ca7bf5d9cd583805ae2fb56badbefa4fb2c429b0006", func := "moult/moultlaw19.LevelKnown", spec := "levelKnown", unfollowed := true, recurses := true, apart := false, narrowed := true }
def LevelKnownUptoSaid : Prop := levelKnownUptoRow.holds Try.pinned (OpenSpec.upto levelKnownSpec)

end Rows
end Go.Proofs.Ytoehcmddfpompaa
