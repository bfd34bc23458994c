/-
  No cell of these rows narrows 'for every input' (looked for: loops, veiled, ifaces, maps, wideKeys, modest, calm, conditions, laid).
  DERIVED. THE GIVEN ROWS OF THIS SEAT. 6 by the template 'for every input the law returns true; each argument reads behind the call as it read before'; 0 by the template 'total and deterministic' (their statements: YtamjlcaoieliaaaTotals.lean).
  GIVEN WITH THE SEED: the statements are not yours to turn. If you find one false, say at which input.
  Laid BY PROGRAM, IN A SANDBOX (cutbox-rows.mjs): the forced cells as the released guide's own fill.sh prints them over the translation 47993eee50d0fda9… (all of the seat's roots in one cut). By AI agents, Wed Nov 11 2026. No macro, syntax, notation, axiom, sorry.
-/
import Derived.Test.YtamjlcaoieliaaaChecked
import GoSem.Claim
import GoSem.ClaimJoined
import GoSem.ClaimMapViews
import Derived.JoinedTies
import Derived.KernelRfl
namespace Go.Proofs.Ytamjlcaoieliaaa
/- THE CELL 'sum', in the pinned program and in every row, IS THE sha256 OF THE DUMP (.gsa) THAT YtamjlcaoieliaaaProg.lean LOADS. Nothing in Lean hashes anything: it is a label: what it is worth is what the hold of that sum in a sandbox is worth. -/
noncomputable def Try.pinned : Pinned := { name := "ytamjlcaoieliaaa", sum := "47993eee50d0fda92ec8a0177bedca80557d86d7dc400a52a0c2262a6c9d8820", checked := Try.checked }
namespace Rows
def none {H : Type} : Left H := { results := [], args := [] }

/-- 'moultlaw22.ElectRight': WHATEVER THE INPUT: true; the input reads as it did. -/
def electRightSpec : ChangeSpec := { name := "electRight", fn := fun _ => fun
  | [d1, d2, d3] => { results := [.lit (.bool true)], args := [d1, d2, d3] }
  | _ => none }
def electRightRow : OpenClaim := { program := "ytamjlcaoieliaaa", sum := "47993eee50d0fda92ec8a0177bedca80557d86d7dc400a52a0c2262a6c9d8820", func := "moult/moultlaw22.ElectRight", spec := "electRight", unfollowed := true, recurses := true, apart := false }
def ElectRightSaid : Prop := electRightRow.holds Try.pinned (OpenSpec.ofChange electRightSpec)

/-- ITS FALSE NEIGHBOUR: 'it returns false'. Refute it at one input. -/
def electRightWrong : ChangeSpec := { name := "electRight", fn := fun _ => fun
  | [d1, d2, d3] => { results := [.lit (.bool false)], args := [d1, d2, d3] }
  | _ => none }
def ElectRightWrongFalsely : Prop := electRightRow.holds Try.pinned (OpenSpec.ofChange electRightWrong)

/-- 'moultlaw22.ElectOne': WHATEVER THE INPUT: true; the input reads as it did. -/
def electOneSpec : ChangeSpec := { name := "electOne", fn := fun _ => fun
  | [d1, d2] => { results := [.lit (.bool true)], args := [d1, d2] }
  | _ => none }
def electOneRow : OpenClaim := { program := "ytamjlcaoieliaaa", sum := "47993eee50d0fda92ec8a0177bedca80557d86d7dc400a52a0c2262a6c9d8820", func := "moult/moultlaw22.ElectOne", spec := "electOne", unfollowed := true, recurses := true, apart := false }
def ElectOneSaid : Prop := electOneRow.holds Try.pinned (OpenSpec.ofChange electOneSpec)

/-- ITS FALSE NEIGHBOUR: 'it returns false'. Refute it at one input. -/
def electOneWrong : ChangeSpec := { name := "electOne", fn := fun _ => fun
  | [d1, d2] => { results := [.lit (.bool false)], args := [d1, d2] }
  | _ => none }
def ElectOneWrongFalsely : Prop := electOneRow.holds Try.pinned (OpenSpec.ofChange electOneWrong)

/-- 'moultlaw22.ElectVotes': WHATEVER THE INPUT: true; the input reads as it did. -/
def electVotesSpec : ChangeSpec := { name := "electVotes", fn := fun _ => fun
  | [d1, d2, d3] => { results := [.lit (.bool true)], args := [d1, d2, d3] }
  | _ => none }
def electVotesRow : OpenClaim := { program := "ytamjlcaoieliaaa", sum := "47993eee50d0fda92ec8a0177bedca80557d86d7dc400a52a0c2262a6c9d8820", func := "moult/moultlaw22.ElectVotes", spec := "electVotes", unfollowed := true, recurses := true, apart := false }
def ElectVotesSaid : Prop := electVotesRow.holds Try.pinned (OpenSpec.ofChange electVotesSpec)

/-- ITS FALSE NEIGHBOUR: 'it returns false'. Refute it at one input. -/
def electVotesWrong : ChangeSpec := { name := "electVotes", fn := fun _ => fun
  | [d1, d2, d3] => { results := [.lit (.bool false)], args := [d1, d2, d3] }
  | _ => none }
def ElectVotesWrongFalsely : Prop := electVotesRow.holds Try.pinned (OpenSpec.ofChange electVotesWrong)

/-- 'moultlaw22.ElectLeads': WHATEVER THE INPUT: true; the input reads as it did. -/
def electLeadsSpec : ChangeSpec := { name := "electLeads", fn := fun _ => fun
  | [d] => { results := [.lit (.bool true)], args := [d] }
  | _ => none }
def electLeadsRow : OpenClaim := { program := "ytamjlcaoieliaaa", sum := "47993eee50d0fda92ec8a0177bedca80557d86d7dc400a52a0c2262a6c9d8820", func := "moult/moultlaw22.ElectLeads", spec := "electLeads", unfollowed := true, recurses := true, apart := false }
def ElectLeadsSaid : Prop := electLeadsRow.holds Try.pinned (OpenSpec.ofChange electLeadsSpec)

/-- ITS FALSE NEIGHBOUR: 'it returns false'. Refute it at one input. -/
def electLeadsWrong : ChangeSpec := { name := "electLeads", fn := fun _ => fun
  | [d] => { results := [.lit (.bool false)], args := [d] }
  | _ => none }
def ElectLeadsWrongFalsely : Prop := electLeadsRow.holds Try.pinned (OpenSpec.ofChange electLeadsWrong)

/-- 'moultlaw23.ReplSends': WHATEVER THE INPUT: true; the input reads as it did. -/
def replSendsSpec : ChangeSpec := { name := "replSends", fn := fun _ => fun
  | [d1, d2, d3] => { results := [.lit (.bool true)], args := [d1, d2, d3] }
  | _ => none }
def replSendsRow : OpenClaim := { program := "ytamjlcaoieliaaa", sum := "47993eee50d0fda92ec8a0177bedca80557d86d7dc400a52a0c2262a6c9d8820", func := "moult/moultlaw23.ReplSends", spec := "replSends", unfollowed := true, recurses := true, apart := false }
def ReplSendsSaid : Prop := replSendsRow.holds Try.pinned (OpenSpec.ofChange replSendsSpec)

/-- ITS FALSE NEIGHBOUR: 'it returns false'. Refute it at one input. -/
def replSendsWrong : ChangeSpec := { name := "replSends", fn := fun _ => fun
  | [d1, d2, d3] => { results := [.lit (.bool false)], args := [d1, d2, d3] }
  | _ => none }
def ReplSendsWrongFalsely : Prop := replSendsRow.holds Try.pinned (OpenSpec.ofChange replSendsWrong)

/-- 'moultlaw23.ReplFit': WHATEVER THE INPUT: true; the input reads as it did. -/
def replFitSpec : ChangeSpec := { name := "replFit", fn := fun _ => fun
  | [d] => { results := [.lit (.bool true)], args := [d] }
  | _ => none }
def replFitRow : OpenClaim := { program := "ytamjlcaoieliaaa", sum := "47993eee50d0fda92ec8a0177bedca80557d86d7dc400a52a0c2262a6c9d8820", func := "moult/moultlaw23.ReplFit", spec := "replFit", unfollowed := true, recurses := true, apart := false }
def ReplFitSaid : Prop := replFitRow.holds Try.pinned (OpenSpec.ofChange replFitSpec)

/-- ITS FALSE NEIGHBOUR: 'it returns false'. Refute it at one input. -/
def replFitWrong : ChangeSpec := { name := "replFit", fn := fun _ => fun
  | [d] => { results := [.lit (.bool false)], args := [d] }
  | _ => none }
def ReplFitWrongFalsely : Prop := replFitRow.holds Try.pinned (OpenSpec.ofChange replFitWrong)

/- THE SECOND FORM. 'bulk': how many values and letters a reading holds, each counted each time it is reached (what is shared counts as often as it is met; a slice's spare places count too). A statement '..UptoSaid' is the law's where the arguments, and the package variables that the reading takes, are together of bulk at most 1048576: NARROWER than '..Said'. Prove '..Said' where nothing that the law and all that it calls make is longer than what came in: it says more and counts as full. Else prove '..UptoSaid'. A law counts once. -/
mutual
def uptoBulk {H : Type} : DataW H → Nat
  | .lit (.string bytes) => bytes.length + 1
  | .lit _ => 1
  | .nil => 1
  | .ptr d => uptoBulk d + 1
  | .slice elems spare => uptoBulkAll elems + uptoBulkAll spare + 1
  | .agg parts => uptoBulkAll parts + 1
  | .iface _ d => uptoBulk d + 1
  | .map entries => uptoBulkEntries entries + 1
  | .held _ => 1
def uptoBulkAll {H : Type} : List (DataW H) → Nat
  | [] => 0
  | d :: r => uptoBulk d + uptoBulkAll r
def uptoBulkEntries {H : Type} : List (Lit × DataW H) → Nat
  | [] => 0
  | x :: r => uptoBulkEntry x + uptoBulkEntries r
def uptoBulkEntry {H : Type} : Lit × DataW H → Nat
  | (.string bytes, d) => bytes.length + uptoBulk d + 1
  | (_, d) => uptoBulk d + 1
 end
def uptoSmall : (H : Type) → List (DataW H) → Bool := fun _ ds => decide (uptoBulkAll ds ≤ 1048576)
def OpenSpec.upto (s : _root_.Go.ChangeSpec) : _root_.Go.OpenSpec := { _root_.Go.OpenSpec.ofChange s with cond := some uptoSmall }

/-- 'moultlaw22.ElectRight', WHERE WHAT IT READS IS OF BULK AT MOST 1048576: true; the input reads as it did. -/
def electRightUptoRow : OpenClaim := { program := "ytamjlcaoieliaaa", sum := "47993eee50d0fda92ec8a0177bedca80557d86d7dc400a52a0c2262a6c9d8820", func := "moult/moultlaw22.ElectRight", spec := "electRight", unfollowed := true, recurses := true, apart := false, narrowed := true }
def ElectRightUptoSaid : Prop := electRightUptoRow.holds Try.pinned (OpenSpec.upto electRightSpec)

/-- 'moultlaw22.ElectOne', WHERE WHAT IT READS IS OF BULK AT MOST 1048576: true; the input reads as it did. -/
def electOneUptoRow : OpenClaim := { program := "ytamjlcaoieliaaa", sum := "47993eee50d0fda92ec8a0177bedca80557d86d7dc400a52a0c2262a6c9d8820", func := "moult/moultlaw22.ElectOne", spec := "electOne", unfollowed := true, recurses := true, apart := false, narrowed := true }
def ElectOneUptoSaid : Prop := electOneUptoRow.holds Try.pinned (OpenSpec.upto electOneSpec)

/-- 'moultlaw22.ElectVotes', WHERE WHAT IT READS IS OF BULK AT MOST 1048576: true; the input reads as it did. -/
def electVotesUptoRow : OpenClaim := { program := "ytamjlcaoieliaaa", sum := "47993eee50d0fda92ec8a0177bedca80557d86d7dc400a52a0c2262a6c9d8820", func := "moult/moultlaw22.ElectVotes", spec := "electVotes", unfollowed := true, recurses := true, apart := false, narrowed := true }
def ElectVotesUptoSaid : Prop := electVotesUptoRow.holds Try.pinned (OpenSpec.upto electVotesSpec)

/-- 'moultlaw22.ElectLeads', WHERE WHAT IT READS IS OF BULK AT MOST 1048576: true; the input reads as it did. -/
def electLeadsUptoRow : OpenClaim := { program := "ytamjlcaoieliaaa", sum := "47993eee50d0fda92ec8a0177bedca80557d86d7dc400a52a0c2262a6c9d8820", func := "moult/moultlaw22.ElectLeads", spec := "electLeads", unfollowed := true, recurses := true, apart := false, narrowed := true }
def ElectLeadsUptoSaid : Prop := electLeadsUptoRow.holds Try.pinned (OpenSpec.upto electLeadsSpec)

/-- 'moultlaw23.ReplSends', WHERE WHAT IT READS IS OF BULK AT MOST 1048576: true; the input reads as it did. -/
def replSendsUptoRow : OpenClaim := { program := "ytamjlcaoieliaaa", sum := "47993eee50d0fda92ec8a0177bedca80557d86d7dc400a52a0c2262a6c9d8820", func := "moult/moultlaw23.ReplSends", spec := "replSends", unfollowed := true, recurses := true, apart := false, narrowed := true }
def ReplSendsUptoSaid : Prop := replSendsUptoRow.holds Try.pinned (OpenSpec.upto replSendsSpec)

/-- 'moultlaw23.ReplFit', WHERE WHAT IT READS IS OF BULK AT MOST 1048576: true; the input reads as it did. -/
def replFitUptoRow : OpenClaim := { program := "ytamjlcaoieliaaa", sum := "47993eee50d0fda92ec8a0177bedca80557d86d7dc400a52a0c2262a6c9d8820", func := "moult/moultlaw23.ReplFit", spec := "replFit", unfollowed := true, recurses := true, apart := false, narrowed := true }
def ReplFitUptoSaid : Prop := replFitUptoRow.holds Try.pinned (OpenSpec.upto replFitSpec)

end Rows
end Go.Proofs.Ytamjlcaoieliaaa
