/-
  NARROWER THAN 'FOR EVERY INPUT', by the rows' own cells (each row's printed sentence says how): EntryFine: laid · EntryParts: laid · EntrySums: laid · EntryLevels: laid.
  DERIVED. THE GIVEN ROWS OF THIS SEAT. 4 by the template 'for every input the law returns true; each argument reads behind the call as it read before'; 0 by the template 'total and deterministic' (their statements: YtefpagijgiggmaaDoorTotals.lean).
  GIVEN WITH THE SEED: the statements are not yours to turn. If you find one false, say at which input.
  Laid BY PROGRAM, IN A SANDBOX (cutbox-rows.mjs): the forced cells as the released guide's own fill.sh prints them over the translation 60143ba82ccfde9c… (all of the seat's roots in one cut). By AI agents, Wed Nov 11 2026. No macro, syntax, notation, axiom, sorry.
-/
import Derived.Test.YtefpagijgiggmaaDoorChecked
import GoSem.Claim
import GoSem.ClaimJoined
import GoSem.ClaimMapViews
import Derived.JoinedTies
import Derived.KernelRfl
namespace Go.Proofs.YtefpagijgiggmaaDoor
/- THE CELL 'sum', in the pinned program and in every row, IS THE sha256 OF THE DUMP (.gsa) THAT YtefpagijgiggmaaDoorProg.lean LOADS. Nothing in Lean hashes anything: it is a label: what it is worth is what the hold of that sum in a sandbox is worth. -/
noncomputable def Tryd.pinned : Pinned := { name := "ytefpagijgiggmaadoor", sum := "60143ba82ccfde9c4177400c52dc597555ad8b6892f57b27006a23ac937d76e3", checked := Tryd.checked }
namespace Rows
def none {H : Type} : Left H := { results := [], args := [] }

/- WHAT THE LISTED PACKAGE-LEVEL VARIABLES READ AS WHEN THE CALL BEGINS. Each datum BY PROGRAM (the guide's laid-datum.mjs) off the statement by which the dump's own 'gosem.cut.vars' lays the variable. In a bare row this is a premise. The card (YtefpagijgiggmaaDoorCards.lean) ties it to the program's text. -/
def laid_moult_entry_names {H : Type} : DataW H := .agg [.lit (.string [110, 111, 111, 112]), .lit (.string [100, 97, 116, 97]), .lit (.string [112, 114, 111, 112, 111, 115, 101]), .lit (.string [114, 101, 118, 101, 114, 116]), .lit (.string [102, 105, 110, 97, 108])]

/-- 'moultlaw06.EntryFine': WHATEVER THE INPUT: true; the input reads as it did. -/
def entryFineSpec : ChangeSpec := { name := "entryFine", fn := fun _ => fun
  | [d1, d2] => { results := [.lit (.bool true)], args := [d1, d2] }
  | _ => none }
def entryFineRow : OpenClaim := { program := "ytefpagijgiggmaadoor", sum := "60143ba82ccfde9c4177400c52dc597555ad8b6892f57b27006a23ac937d76e3", func := "moult/moultlaw06.EntryFine", spec := "entryFine", unfollowed := true, recurses := true, named := ["moult/entry.names"], apart := false, laid := [("moult/entry.names", laid_moult_entry_names)] }
def EntryFineSaid : Prop := entryFineRow.holds Tryd.pinned (OpenSpec.ofChange entryFineSpec)

/-- ITS FALSE NEIGHBOUR: 'it returns false'. Refute it at one input. -/
def entryFineWrong : ChangeSpec := { name := "entryFine", fn := fun _ => fun
  | [d1, d2] => { results := [.lit (.bool false)], args := [d1, d2] }
  | _ => none }
def EntryFineWrongFalsely : Prop := entryFineRow.holds Tryd.pinned (OpenSpec.ofChange entryFineWrong)

/-- 'moultlaw06.EntryParts': WHATEVER THE INPUT: true; the input reads as it did. -/
def entryPartsSpec : ChangeSpec := { name := "entryParts", fn := fun _ => fun
  | [d1, d2, d3, d4] => { results := [.lit (.bool true)], args := [d1, d2, d3, d4] }
  | _ => none }
def entryPartsRow : OpenClaim := { program := "ytefpagijgiggmaadoor", sum := "60143ba82ccfde9c4177400c52dc597555ad8b6892f57b27006a23ac937d76e3", func := "moult/moultlaw06.EntryParts", spec := "entryParts", unfollowed := true, recurses := true, named := ["moult/entry.names"], apart := false, laid := [("moult/entry.names", laid_moult_entry_names)] }
def EntryPartsSaid : Prop := entryPartsRow.holds Tryd.pinned (OpenSpec.ofChange entryPartsSpec)

/-- ITS FALSE NEIGHBOUR: 'it returns false'. Refute it at one input. -/
def entryPartsWrong : ChangeSpec := { name := "entryParts", fn := fun _ => fun
  | [d1, d2, d3, d4] => { results := [.lit (.bool false)], args := [d1, d2, d3, d4] }
  | _ => none }
def EntryPartsWrongFalsely : Prop := entryPartsRow.holds Tryd.pinned (OpenSpec.ofChange entryPartsWrong)

/-- 'moultlaw06.EntrySums': WHATEVER THE INPUT: true; the input reads as it did. -/
def entrySumsSpec : ChangeSpec := { name := "entrySums", fn := fun _ => fun
  | [d1, d2, d3, d4] => { results := [.lit (.bool true)], args := [d1, d2, d3, d4] }
  | _ => none }
def entrySumsRow : OpenClaim := { program := "ytefpagijgiggmaadoor", sum := "60143ba82ccfde9c4177400c52dc597555ad8b6892f57b27006a23ac937d76e3", func := "moult/moultlaw06.EntrySums", spec := "entrySums", unfollowed := true, recurses := true, named := ["moult/entry.names"], apart := false, laid := [("moult/entry.names", laid_moult_entry_names)] }
def EntrySumsSaid : Prop := entrySumsRow.holds Tryd.pinned (OpenSpec.ofChange entrySumsSpec)

/-- ITS FALSE NEIGHBOUR: 'it returns false'. Refute it at one input. -/
def entrySumsWrong : ChangeSpec := { name := "entrySums", fn := fun _ => fun
  | [d1, d2, d3, d4] => { results := [.lit (.bool false)], args := [d1, d2, d3, d4] }
  | _ => none }
def EntrySumsWrongFalsely : Prop := entrySumsRow.holds Tryd.pinned (OpenSpec.ofChange entrySumsWrong)

/-- 'moultlaw06.EntryLevels': WHATEVER THE INPUT: true; the input reads as it did. -/
def entryLevelsSpec : ChangeSpec := { name := "entryLevels", fn := fun _ => fun
  | [d] => { results := [.lit (.bool true)], args := [d] }
  | _ => none }
def entryLevelsRow : OpenClaim := { program := "ytefpagijgiggmaadoor", sum := "60143ba82ccfde9c4177400c52dc597555ad8b6892f57b27006a23ac937d76e3", func := "moult/moultlaw06.EntryLevels", spec := "entryLevels", unfollowed := true, recurses := true, named := ["moult/entry.names"], apart := false, laid := [("moult/entry.names", laid_moult_entry_names)] }
def EntryLevelsSaid : Prop := entryLevelsRow.holds Tryd.pinned (OpenSpec.ofChange entryLevelsSpec)

/-- ITS FALSE NEIGHBOUR: 'it returns false'. Refute it at one input. -/
def entryLevelsWrong : ChangeSpec := { name := "entryLevels", fn := fun _ => fun
  | [d] => { results := [.lit (.bool false)], args := [d] }
  | _ => none }
def EntryLevelsWrongFalsely : Prop := entryLevelsRow.holds Tryd.pinned (OpenSpec.ofChange entryLevelsWrong)

/- THE SECOND FORM. 'bulk': how many values and letters a reading holds, each counted each time it is reached (what is shared counts as often as it is met; a slice's spare places count too). A statement '..UptoSaid' is the law's where the arguments, and the package variables that the reading takes, are together of bulk at most 1048576: NARROWER than '..Said'. Prove '..Said' where nothing that the law and all that it calls make is longer than what came in: it says more and counts as full. Else prove '..UptoSaid'. A law counts once. -/
mutual
def uptoBulk {H : Type} : DataW H → Nat
  | .lit (.string bytes) => bytes.length + 1
  | .lit _ => 1
  | .nil => 1
  | .ptr d => uptoBulk d + 1
  | .slice elems spare => uptoBulkAll elems + uptoBulkAll spare + 1
  | .agg parts => uptoBulkAll parts + 1
  | .iface _ d => uptoBulk d + 1
  | .map entries => uptoBulkEntries entries + 1
  | .held _ => 1
def uptoBulkAll {H : Type} : List (DataW H) → Nat
  | [] => 0
  | d :: r => uptoBulk d + uptoBulkAll r
def uptoBulkEntries {H : Type} : List (Lit × DataW H) → Nat
  | [] => 0
  | x :: r => uptoBulkEntry x + uptoBulkEntries r
def uptoBulkEntry {H : Type} : Lit × DataW H → Nat
  | (.string bytes, d) => bytes.length + uptoBulk d + 1
  | (_, d) => uptoBulk d + 1
 end
def uptoSmall : (H : Type) → List (DataW H) → Bool := fun _ ds => decide (uptoBulkAll ds ≤ 1048576)
def OpenSpec.upto (s : _root_.Go.ChangeSpec) : _root_.Go.OpenSpec := { _root_.Go.OpenSpec.ofChange s with cond := some uptoSmall }

/-- 'moultlaw06.EntryFine', WHERE WHAT IT READS IS OF BULK AT MOST 1048576: true; the input reads as it did. -/
def entryFineUptoRow : OpenClaim := { program := "ytefpagijgiggmaadoor", sum := "60143ba82ccfde9c4177400c52dc597555ad8b6892f57b27006a23ac937d76e3", func := "moult/moultlaw06.EntryFine", spec := "entryFine", unfollowed := true, recurses := true, named := ["moult/entry.names"], apart := false, laid := [("moult/entry.names", laid_moult_entry_names)], narrowed := true }
def EntryFineUptoSaid : Prop := entryFineUptoRow.holds Tryd.pinned (OpenSpec.upto entryFineSpec)

/-- 'moultlaw06.EntryParts', WHERE WHAT IT READS IS OF BULK AT MOST 1048576: true; the input reads as it did. -/
def entryPartsUptoRow : OpenClaim := { program := "ytefpagijgiggmaadoor", sum := "60143ba82ccfde9c4177400c52dc597555ad8b6892f57b27006a23ac937d76e3", func := "moult/moultlaw06.EntryParts", spec := "entryParts", unfollowed := true, recurses := true, named := ["moult/entry.names"], apart := false, laid := [("moult/entry.names", laid_moult_entry_names)], narrowed := true }
def EntryPartsUptoSaid : Prop := entryPartsUptoRow.holds Tryd.pinned (OpenSpec.upto entryPartsSpec)

/-- 'moultlaw06.EntrySums', WHERE WHAT IT READS IS OF BULK AT MOST 1048576: true; the input reads as it did. -/
def entrySumsUptoRow : OpenClaim := { program := "ytefpagijgiggmaadoor", sum := "60143ba82ccfde9c4177400c52dc597555ad8b6892f57b27006a23ac937d76e3", func := "moult/moultlaw06.EntrySums", spec := "entrySums", unfollowed := true, recurses := true, named := ["moult/entry.names"], apart := false, laid := [("moult/entry.names", laid_moult_entry_names)], narrowed := true }
def EntrySumsUptoSaid : Prop := entrySumsUptoRow.holds Tryd.pinned (OpenSpec.upto entrySumsSpec)

/-- 'moultlaw06.EntryLevels', WHERE WHAT IT READS IS OF BULK AT MOST 1048576: true; the input reads as it did. -/
def entryLevelsUptoRow : OpenClaim := { program := "ytefpagijgiggmaadoor", sum := "60143ba82ccfde9c4177400c52dc597555ad8b6892f57b27006a23ac937d76e3", func := "moult/moultlaw06.EntryLevels", spec := "entryLevels", unfollowed := true, recurses := true, named := ["moult/entry.names"], apart := false, laid := [("moult/entry.names", laid_moult_entry_names)], narrowed := true }
def EntryLevelsUptoSaid : Prop := entryLevelsUptoRow.holds Tryd.pinned (OpenSpec.upto entryLevelsSpec)

end Rows
end Go.Proofs.YtefpagijgiggmaaDoor
