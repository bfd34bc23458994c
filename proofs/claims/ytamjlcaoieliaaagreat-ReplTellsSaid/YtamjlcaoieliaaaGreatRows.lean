/-
  No cell of these rows narrows 'for every input' (looked for: loops, veiled, ifaces, maps, wideKeys, modest, calm, conditions, laid).
  DERIVED. THE GIVEN ROWS OF THIS SEAT. 4 by the template 'for every input the law returns true; each argument reads behind the call as it read before'; 0 by the template 'total and deterministic' (their statements: YtamjlcaoieliaaaGreatTotals.lean).
  GIVEN WITH THE SEED: the statements are not yours to turn. If you find one false, say at which input.
  Laid BY PROGRAM, IN A SANDBOX (cutbox-rows.mjs): the forced cells as the released guide's own fill.sh prints them over the translation 77b0c3b10d08a28e… (all of the seat's roots in one cut). By AI agents, Wed Nov 11 2026. No macro, syntax, notation, axiom, sorry.
-/
import Derived.Test.YtamjlcaoieliaaaGreatChecked
import GoSem.Claim
import GoSem.ClaimJoined
import GoSem.ClaimMapViews
import Derived.JoinedTies
import Derived.KernelRfl
namespace Go.Proofs.YtamjlcaoieliaaaGreat
/- THE CELL 'sum', in the pinned program and in every row, IS THE sha256 OF THE DUMP (.gsa) THAT YtamjlcaoieliaaaGreatProg.lean LOADS. Nothing in Lean hashes anything: it is a label: what it is worth is what the hold of that sum in a sandbox is worth. -/
noncomputable def Tryz.pinned : Pinned := { name := "ytamjlcaoieliaaagreat", sum := "77b0c3b10d08a28e64002a3774aa8e6e78a08d5725381a578cb8cb24b3495490", checked := Tryz.checked }
namespace Rows
def none {H : Type} : Left H := { results := [], args := [] }

/-- 'moultlaw22.ElectTells': WHATEVER THE INPUT: true; the input reads as it did. -/
def electTellsSpec : ChangeSpec := { name := "electTells", fn := fun _ => fun
  | [d1, d2, d3, d4, d5] => { results := [.lit (.bool true)], args := [d1, d2, d3, d4, d5] }
  | _ => none }
def electTellsRow : OpenClaim := { program := "ytamjlcaoieliaaagreat", sum := "77b0c3b10d08a28e64002a3774aa8e6e78a08d5725381a578cb8cb24b3495490", func := "moult/moultlaw22.ElectTells", spec := "electTells", unfollowed := true, recurses := true, apart := false }
def ElectTellsSaid : Prop := electTellsRow.holds Tryz.pinned (OpenSpec.ofChange electTellsSpec)

/-- ITS FALSE NEIGHBOUR: 'it returns false'. Refute it at one input. -/
def electTellsWrong : ChangeSpec := { name := "electTells", fn := fun _ => fun
  | [d1, d2, d3, d4, d5] => { results := [.lit (.bool false)], args := [d1, d2, d3, d4, d5] }
  | _ => none }
def ElectTellsWrongFalsely : Prop := electTellsRow.holds Tryz.pinned (OpenSpec.ofChange electTellsWrong)

/-- 'moultlaw23.ReplTells': WHATEVER THE INPUT: true; the input reads as it did. -/
def replTellsSpec : ChangeSpec := { name := "replTells", fn := fun _ => fun
  | [d1, d2, d3] => { results := [.lit (.bool true)], args := [d1, d2, d3] }
  | _ => none }
def replTellsRow : OpenClaim := { program := "ytamjlcaoieliaaagreat", sum := "77b0c3b10d08a28e64002a3774aa8e6e78a08d5725381a578cb8cb24b3495490", func := "moult/moultlaw23.ReplTells", spec := "replTells", unfollowed := true, recurses := true, apart := false }
def ReplTellsSaid : Prop := replTellsRow.holds Tryz.pinned (OpenSpec.ofChange replTellsSpec)

/-- ITS FALSE NEIGHBOUR: 'it returns false'. Refute it at one input. -/
def replTellsWrong : ChangeSpec := { name := "replTells", fn := fun _ => fun
  | [d1, d2, d3] => { results := [.lit (.bool false)], args := [d1, d2, d3] }
  | _ => none }
def ReplTellsWrongFalsely : Prop := replTellsRow.holds Tryz.pinned (OpenSpec.ofChange replTellsWrong)

/-- 'moultlaw23.ReplKeeps': WHATEVER THE INPUT: true; the input reads as it did. -/
def replKeepsSpec : ChangeSpec := { name := "replKeeps", fn := fun _ => fun
  | [d1, d2] => { results := [.lit (.bool true)], args := [d1, d2] }
  | _ => none }
def replKeepsRow : OpenClaim := { program := "ytamjlcaoieliaaagreat", sum := "77b0c3b10d08a28e64002a3774aa8e6e78a08d5725381a578cb8cb24b3495490", func := "moult/moultlaw23.ReplKeeps", spec := "replKeeps", unfollowed := true, recurses := true, apart := false }
def ReplKeepsSaid : Prop := replKeepsRow.holds Tryz.pinned (OpenSpec.ofChange replKeepsSpec)

/-- ITS FALSE NEIGHBOUR: 'it returns false'. Refute it at one input. -/
def replKeepsWrong : ChangeSpec := { name := "replKeeps", fn := fun _ => fun
  | [d1, d2] => { results := [.lit (.bool false)], args := [d1, d2] }
  | _ => none }
def ReplKeepsWrongFalsely : Prop := replKeepsRow.holds Tryz.pinned (OpenSpec.ofChange replKeepsWrong)

/-- 'moultlaw23.ReplTold': WHATEVER THE INPUT: true; the input reads as it did. -/
def replToldSpec : ChangeSpec := { name := "replTold", fn := fun _ => fun
  | [d1, d2] => { results := [.lit (.bool true)], args := [d1, d2] }
  | _ => none }
def replToldRow : OpenClaim := { program := "ytamjlcaoieliaaagreat", sum := "77b0c3b10d08a28e64002a3774aa8e6e78a08d5725381a578cb8cb24b3495490", func := "moult/moultlaw23.ReplTold", spec := "replTold", unfollowed := true, recurses := true, apart := false }
def ReplToldSaid : Prop := replToldRow.holds Tryz.pinned (OpenSpec.ofChange replToldSpec)

/-- ITS FALSE NEIGHBOUR: 'it returns false'. Refute it at one input. -/
def replToldWrong : ChangeSpec := { name := "replTold", fn := fun _ => fun
  | [d1, d2] => { results := [.lit (.bool false)], args := [d1, d2] }
  | _ => none }
def ReplToldWrongFalsely : Prop := replToldRow.holds Tryz.pinned (OpenSpec.ofChange replToldWrong)

/- THE SECOND FORM. 'bulk': how many values and letters a reading holds, each counted each time it is reached (what is shared counts as often as it is met; a slice's spare places count too). A statement '..UptoSaid' is the law's where the arguments, and the package variables that the reading takes, are together of bulk at most 1048576: NARROWER than '..Said'. Prove '..Said' where nothing that the law and all that it calls make is longer than what came in: it says more and counts as full. Else prove '..UptoSaid'. A law counts once. -/
mutual
def uptoBulk {H : Type} : DataW H → Nat
  | .lit (.string bytes) => bytes.length + 1
  | .lit _ => 1
  | .nil => 1
  | .ptr d => uptoBulk d + 1
  | .slice elems spare => uptoBulkAll elems + uptoBulkAll spare + 1
  | .agg parts => uptoBulkAll parts + 1
  | .iface _ d => uptoBulk d + 1
  | .map entries => uptoBulkEntries entries + 1
  | .held _ => 1
def uptoBulkAll {H : Type} : List (DataW H) → Nat
  | [] => 0
  | d :: r => uptoBulk d + uptoBulkAll r
def uptoBulkEntries {H : Type} : List (Lit × DataW H) → Nat
  | [] => 0
  | x :: r => uptoBulkEntry x + uptoBulkEntries r
def uptoBulkEntry {H : Type} : Lit × DataW H → Nat
  | (.string bytes, d) => bytes.length + uptoBulk d + 1
  | (_, d) => uptoBulk d + 1
 end
def uptoSmall : (H : Type) → List (DataW H) → Bool := fun _ ds => decide (uptoBulkAll ds ≤ 1048576)
def OpenSpec.upto (s : _root_.Go.ChangeSpec) : _root_.Go.OpenSpec := { _root_.Go.OpenSpec.ofChange s with cond := some uptoSmall }

/-- 'moultlaw22.ElectTells', WHERE WHAT IT READS IS OF BULK AT MOST 1048576: true; the input reads as it did. -/
def electTellsUptoRow : OpenClaim := { program := "ytamjlcaoieliaaagreat", sum := "77b0c3b10d08a28e64002a3774aa8e6e78a08d5725381a578cb8cb24b3495490", func := "moult/moultlaw22.ElectTells", spec := "electTells", unfollowed := true, recurses := true, apart := false, narrowed := true }
def ElectTellsUptoSaid : Prop := electTellsUptoRow.holds Tryz.pinned (OpenSpec.upto electTellsSpec)

/-- 'moultlaw23.ReplTells', WHERE WHAT IT READS IS OF BULK AT MOST 1048576: true; the input reads as it did. -/
def replTellsUptoRow : OpenClaim := { program := "ytamjlcaoieliaaagreat", sum := "77b0c3b10d08a28e64002a3774aa8e6e78a08d5725381a578cb8cb24b3495490", func := "moult/moultlaw23.ReplTells", spec := "replTells", unfollowed := true, recurses := true, apart := false, narrowed := true }
def ReplTellsUptoSaid : Prop := replTellsUptoRow.holds Tryz.pinned (OpenSpec.upto replTellsSpec)

/-- 'moultlaw23.ReplKeeps', WHERE WHAT IT READS IS OF BULK AT MOST 1048576: true; the input reads as it did. -/
def replKeepsUptoRow : OpenClaim := { program := "ytamjlcaoieliaaagreat", sum := "77b0c3b10d08a28e64002a3774aa8e6e78a08d5725381a578cb8cb24b3495490", func := "moult/moultlaw23.ReplKeeps", spec := "replKeeps", unfollowed := true, recurses := true, apart := false, narrowed := true }
def ReplKeepsUptoSaid : Prop := replKeepsUptoRow.holds Tryz.pinned (OpenSpec.upto replKeepsSpec)

/-- 'moultlaw23.ReplTold', WHERE WHAT IT READS IS OF BULK AT MOST 1048576: true; the input reads as it did. -/
def replToldUptoRow : OpenClaim := { program := "ytamjlcaoieliaaagreat", sum := "77b0c3b10d08a28e64002a3774aa8e6e78a08d5725381a578cb8cb24b3495490", func := "moult/moultlaw23.ReplTold", spec := "replTold", unfollowed := true, recurses := true, apart := false, narrowed := true }
def ReplToldUptoSaid : Prop := replToldUptoRow.holds Tryz.pinned (OpenSpec.upto replToldSpec)

end Rows
end Go.Proofs.YtamjlcaoieliaaaGreat
