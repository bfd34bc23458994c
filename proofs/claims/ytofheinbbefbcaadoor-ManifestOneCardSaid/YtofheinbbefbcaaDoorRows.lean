/-
  NARROWER THAN 'FOR EVERY INPUT', by the rows' own cells (each row's printed sentence says how): OneTells: laid · OneBack: laid · OneOnly: laid · OneMore: laid · OneApart: laid · ManifestBack: laid · ManifestOnly: laid · ManifestNames: laid · ManifestOne: laid · ManifestTells: laid.
  DERIVED. THE GIVEN ROWS OF THIS SEAT. 10 by the template 'for every input the law returns true; each argument reads behind the call as it read before'; 0 by the template 'total and deterministic' (their statements: YtofheinbbefbcaaDoorTotals.lean).
  GIVEN WITH THE SEED: the statements are not yours to turn. If you find one false, say at which input.
  Laid BY PROGRAM, IN A SANDBOX (cutbox-rows.mjs): the forced cells as the released guide's own fill.sh prints them over the translation edc6127c7185fe1e… (all of the seat's roots in one cut). By AI agents, Wed Nov 11 2026. No macro, syntax, notation, axiom, sorry.
-/
import Derived.Test.YtofheinbbefbcaaDoorChecked
import GoSem.Claim
import GoSem.ClaimJoined
import GoSem.ClaimMapViews
import Derived.JoinedTies
import Derived.KernelRfl
namespace Go.Proofs.YtofheinbbefbcaaDoor
/- THE CELL 'sum', in the pinned program and in every row, IS THE sha256 OF THE DUMP (.gsa) THAT YtofheinbbefbcaaDoorProg.lean LOADS. Nothing in Lean hashes anything: it is a label: what it is worth is what the hold of that sum in a sandbox is worth. -/
noncomputable def Tryd.pinned : Pinned := { name := "ytofheinbbefbcaadoor", sum := "edc6127c7185fe1e9e87015fd5b8b7cfca9f703d52f07c6d4781c152e2618007", checked := Tryd.checked }
namespace Rows
def none {H : Type} : Left H := { results := [], args := [] }

/- WHAT THE LISTED PACKAGE-LEVEL VARIABLES READ AS WHEN THE CALL BEGINS. Each datum BY PROGRAM (the guide's laid-datum.mjs) off the statement by which the dump's own 'gosem.cut.vars' lays the variable. In a bare row this is a premise. The card (YtofheinbbefbcaaDoorCards.lean) ties it to the program's text. -/
def laid_moult_crc_rows {H : Type} : DataW H := .agg [.lit (.int .u32 0), .lit (.int .u32 274646895), .lit (.int .u32 549293790), .lit (.int .u32 820201905), .lit (.int .u32 1098587580), .lit (.int .u32 1361435347), .lit (.int .u32 1640403810), .lit (.int .u32 1905808397), .lit (.int .u32 2197175160), .lit (.int .u32 2460548119), .lit (.int .u32 2722870694), .lit (.int .u32 2987750089), .lit (.int .u32 3280807620), .lit (.int .u32 3553878443), .lit (.int .u32 3811616794), .lit (.int .u32 4084100981)]

/-- 'moultlaw07.OneTells': WHATEVER THE INPUT: true; the input reads as it did. -/
def oneTellsSpec : ChangeSpec := { name := "oneTells", fn := fun _ => fun
  | [d1, d2, d3] => { results := [.lit (.bool true)], args := [d1, d2, d3] }
  | _ => none }
def oneTellsRow : OpenClaim := { program := "ytofheinbbefbcaadoor", sum := "edc6127c7185fe1e9e87015fd5b8b7cfca9f703d52f07c6d4781c152e2618007", func := "moult/moultlaw07.OneTells", spec := "oneTells", unfollowed := true, recurses := true, named := ["moult/crc.rows"], apart := false, laid := [("moult/crc.rows", laid_moult_crc_rows)] }
def OneTellsSaid : Prop := oneTellsRow.holds Tryd.pinned (OpenSpec.ofChange oneTellsSpec)

/-- ITS FALSE NEIGHBOUR: 'it returns false'. Refute it at one input. -/
def oneTellsWrong : ChangeSpec := { name := "oneTells", fn := fun _ => fun
  | [d1, d2, d3] => { results := [.lit (.bool false)], args := [d1, d2, d3] }
  | _ => none }
def OneTellsWrongFalsely : Prop := oneTellsRow.holds Tryd.pinned (OpenSpec.ofChange oneTellsWrong)

/-- 'moultlaw07.OneBack': WHATEVER THE INPUT: true; the input reads as it did. -/
def oneBackSpec : ChangeSpec := { name := "oneBack", fn := fun _ => fun
  | [d1, d2, d3, d4, d5] => { results := [.lit (.bool true)], args := [d1, d2, d3, d4, d5] }
  | _ => none }
def oneBackRow : OpenClaim := { program := "ytofheinbbefbcaadoor", sum := "edc6127c7185fe1e9e87015fd5b8b7cfca9f703d52f07c6d4781c152e2618007", func := "moult/moultlaw07.OneBack", spec := "oneBack", unfollowed := true, recurses := true, named := ["moult/crc.rows"], apart := false, laid := [("moult/crc.rows", laid_moult_crc_rows)] }
def OneBackSaid : Prop := oneBackRow.holds Tryd.pinned (OpenSpec.ofChange oneBackSpec)

/-- ITS FALSE NEIGHBOUR: 'it returns false'. Refute it at one input. -/
def oneBackWrong : ChangeSpec := { name := "oneBack", fn := fun _ => fun
  | [d1, d2, d3, d4, d5] => { results := [.lit (.bool false)], args := [d1, d2, d3, d4, d5] }
  | _ => none }
def OneBackWrongFalsely : Prop := oneBackRow.holds Tryd.pinned (OpenSpec.ofChange oneBackWrong)

/-- 'moultlaw07.OneOnly': WHATEVER THE INPUT: true; the input reads as it did. -/
def oneOnlySpec : ChangeSpec := { name := "oneOnly", fn := fun _ => fun
  | [d] => { results := [.lit (.bool true)], args := [d] }
  | _ => none }
def oneOnlyRow : OpenClaim := { program := "ytofheinbbefbcaadoor", sum := "edc6127c7185fe1e9e87015fd5b8b7cfca9f703d52f07c6d4781c152e2618007", func := "moult/moultlaw07.OneOnly", spec := "oneOnly", unfollowed := true, recurses := true, named := ["moult/crc.rows"], apart := false, laid := [("moult/crc.rows", laid_moult_crc_rows)] }
def OneOnlySaid : Prop := oneOnlyRow.holds Tryd.pinned (OpenSpec.ofChange oneOnlySpec)

/-- ITS FALSE NEIGHBOUR: 'it returns false'. Refute it at one input. -/
def oneOnlyWrong : ChangeSpec := { name := "oneOnly", fn := fun _ => fun
  | [d] => { results := [.lit (.bool false)], args := [d] }
  | _ => none }
def OneOnlyWrongFalsely : Prop := oneOnlyRow.holds Tryd.pinned (OpenSpec.ofChange oneOnlyWrong)

/-- 'moultlaw07.OneMore': WHATEVER THE INPUT: true; the input reads as it did. -/
def oneMoreSpec : ChangeSpec := { name := "oneMore", fn := fun _ => fun
  | [d1, d2, d3] => { results := [.lit (.bool true)], args := [d1, d2, d3] }
  | _ => none }
def oneMoreRow : OpenClaim := { program := "ytofheinbbefbcaadoor", sum := "edc6127c7185fe1e9e87015fd5b8b7cfca9f703d52f07c6d4781c152e2618007", func := "moult/moultlaw07.OneMore", spec := "oneMore", unfollowed := true, recurses := true, named := ["moult/crc.rows"], apart := false, laid := [("moult/crc.rows", laid_moult_crc_rows)] }
def OneMoreSaid : Prop := oneMoreRow.holds Tryd.pinned (OpenSpec.ofChange oneMoreSpec)

/-- ITS FALSE NEIGHBOUR: 'it returns false'. Refute it at one input. -/
def oneMoreWrong : ChangeSpec := { name := "oneMore", fn := fun _ => fun
  | [d1, d2, d3] => { results := [.lit (.bool false)], args := [d1, d2, d3] }
  | _ => none }
def OneMoreWrongFalsely : Prop := oneMoreRow.holds Tryd.pinned (OpenSpec.ofChange oneMoreWrong)

/-- 'moultlaw07.OneApart': WHATEVER THE INPUT: true; the input reads as it did. -/
def oneApartSpec : ChangeSpec := { name := "oneApart", fn := fun _ => fun
  | [d1, d2, d3, d4] => { results := [.lit (.bool true)], args := [d1, d2, d3, d4] }
  | _ => none }
def oneApartRow : OpenClaim := { program := "ytofheinbbefbcaadoor", sum := "edc6127c7185fe1e9e87015fd5b8b7cfca9f703d52f07c6d4781c152e2618007", func := "moult/moultlaw07.OneApart", spec := "oneApart", unfollowed := true, recurses := true, named := ["moult/crc.rows"], apart := false, laid := [("moult/crc.rows", laid_moult_crc_rows)] }
def OneApartSaid : Prop := oneApartRow.holds Tryd.pinned (OpenSpec.ofChange oneApartSpec)

/-- ITS FALSE NEIGHBOUR: 'it returns false'. Refute it at one input. -/
def oneApartWrong : ChangeSpec := { name := "oneApart", fn := fun _ => fun
  | [d1, d2, d3, d4] => { results := [.lit (.bool false)], args := [d1, d2, d3, d4] }
  | _ => none }
def OneApartWrongFalsely : Prop := oneApartRow.holds Tryd.pinned (OpenSpec.ofChange oneApartWrong)

/-- 'moultlaw11.ManifestBack': WHATEVER THE INPUT: true; the input reads as it did. -/
def manifestBackSpec : ChangeSpec := { name := "manifestBack", fn := fun _ => fun
  | [d1, d2, d3] => { results := [.lit (.bool true)], args := [d1, d2, d3] }
  | _ => none }
def manifestBackRow : OpenClaim := { program := "ytofheinbbefbcaadoor", sum := "edc6127c7185fe1e9e87015fd5b8b7cfca9f703d52f07c6d4781c152e2618007", func := "moult/moultlaw11.ManifestBack", spec := "manifestBack", unfollowed := true, recurses := true, named := ["moult/crc.rows"], apart := false, laid := [("moult/crc.rows", laid_moult_crc_rows)] }
def ManifestBackSaid : Prop := manifestBackRow.holds Tryd.pinned (OpenSpec.ofChange manifestBackSpec)

/-- ITS FALSE NEIGHBOUR: 'it returns false'. Refute it at one input. -/
def manifestBackWrong : ChangeSpec := { name := "manifestBack", fn := fun _ => fun
  | [d1, d2, d3] => { results := [.lit (.bool false)], args := [d1, d2, d3] }
  | _ => none }
def ManifestBackWrongFalsely : Prop := manifestBackRow.holds Tryd.pinned (OpenSpec.ofChange manifestBackWrong)

/-- 'moultlaw11.ManifestOnly': WHATEVER THE INPUT: true; the input reads as it did. -/
def manifestOnlySpec : ChangeSpec := { name := "manifestOnly", fn := fun _ => fun
  | [d] => { results := [.lit (.bool true)], args := [d] }
  | _ => none }
def manifestOnlyRow : OpenClaim := { program := "ytofheinbbefbcaadoor", sum := "edc6127c7185fe1e9e87015fd5b8b7cfca9f703d52f07c6d4781c152e2618007", func := "moult/moultlaw11.ManifestOnly", spec := "manifestOnly", unfollowed := true, recurses := true, named := ["moult/crc.rows"], apart := false, laid := [("moult/crc.rows", laid_moult_crc_rows)] }
def ManifestOnlySaid : Prop := manifestOnlyRow.holds Tryd.pinned (OpenSpec.ofChange manifestOnlySpec)

/-- ITS FALSE NEIGHBOUR: 'it returns false'. Refute it at one input. -/
def manifestOnlyWrong : ChangeSpec := { name := "manifestOnly", fn := fun _ => fun
  | [d] => { results := [.lit (.bool false)], args := [d] }
  | _ => none }
def ManifestOnlyWrongFalsely : Prop := manifestOnlyRow.holds Tryd.pinned (OpenSpec.ofChange manifestOnlyWrong)

/-- 'moultlaw11.ManifestNames': WHATEVER THE INPUT: true; the input reads as it did. -/
def manifestNamesSpec : ChangeSpec := { name := "manifestNames", fn := fun _ => fun
  | [d] => { results := [.lit (.bool true)], args := [d] }
  | _ => none }
def manifestNamesRow : OpenClaim := { program := "ytofheinbbefbcaadoor", sum := "edc6127c7185fe1e9e87015fd5b8b7cfca9f703d52f07c6d4781c152e2618007", func := "moult/moultlaw11.ManifestNames", spec := "manifestNames", unfollowed := true, recurses := true, named := ["moult/crc.rows"], apart := false, laid := [("moult/crc.rows", laid_moult_crc_rows)] }
def ManifestNamesSaid : Prop := manifestNamesRow.holds Tryd.pinned (OpenSpec.ofChange manifestNamesSpec)

/-- ITS FALSE NEIGHBOUR: 'it returns false'. Refute it at one input. -/
def manifestNamesWrong : ChangeSpec := { name := "manifestNames", fn := fun _ => fun
  | [d] => { results := [.lit (.bool false)], args := [d] }
  | _ => none }
def ManifestNamesWrongFalsely : Prop := manifestNamesRow.holds Tryd.pinned (OpenSpec.ofChange manifestNamesWrong)

/-- 'moultlaw11.ManifestOne': WHATEVER THE INPUT: true; the input reads as it did. -/
def manifestOneSpec : ChangeSpec := { name := "manifestOne", fn := fun _ => fun
  | [d1, d2, d3] => { results := [.lit (.bool true)], args := [d1, d2, d3] }
  | _ => none }
def manifestOneRow : OpenClaim := { program := "ytofheinbbefbcaadoor", sum := "edc6127c7185fe1e9e87015fd5b8b7cfca9f703d52f07c6d4781c152e2618007", func := "moult/moultlaw11.ManifestOne", spec := "manifestOne", unfollowed := true, recurses := true, named := ["moult/crc.rows"], apart := false, laid := [("moult/crc.rows", laid_moult_crc_rows)] }
def ManifestOneSaid : Prop := manifestOneRow.holds Tryd.pinned (OpenSpec.ofChange manifestOneSpec)

/-- ITS FALSE NEIGHBOUR: 'it returns false'. Refute it at one input. -/
def manifestOneWrong : ChangeSpec := { name := "manifestOne", fn := fun _ => fun
  | [d1, d2, d3] => { results := [.lit (.bool false)], args := [d1, d2, d3] }
  | _ => none }
def ManifestOneWrongFalsely : Prop := manifestOneRow.holds Tryd.pinned (OpenSpec.ofChange manifestOneWrong)

/-- 'moultlaw11.ManifestTells': WHATEVER THE INPUT: true; the input reads as it did. -/
def manifestTellsSpec : ChangeSpec := { name := "manifestTells", fn := fun _ => fun
  | [d1, d2, d3] => { results := [.lit (.bool true)], args := [d1, d2, d3] }
  | _ => none }
def manifestTellsRow : OpenClaim := { program := "ytofheinbbefbcaadoor", sum := "edc6127c7185fe1e9e87015fd5b8b7cfca9f703d52f07c6d4781c152e2618007", func := "moult/moultlaw11.ManifestTells", spec := "manifestTells", unfollowed := true, recurses := true, named := ["moult/crc.rows"], apart := false, laid := [("moult/crc.rows", laid_moult_crc_rows)] }
def ManifestTellsSaid : Prop := manifestTellsRow.holds Tryd.pinned (OpenSpec.ofChange manifestTellsSpec)

/-- ITS FALSE NEIGHBOUR: 'it returns false'. Refute it at one input. -/
def manifestTellsWrong : ChangeSpec := { name := "manifestTells", fn := fun _ => fun
  | [d1, d2, d3] => { results := [.lit (.bool false)], args := [d1, d2, d3] }
  | _ => none }
def ManifestTellsWrongFalsely : Prop := manifestTellsRow.holds Tryd.pinned (OpenSpec.ofChange manifestTellsWrong)

/- THE SECOND FORM. 'bulk': how many values and letters a reading holds, each counted each time it is reached (what is shared counts as often as it is met; a slice's spare places count too). A statement '..UptoSaid' is the law's where the arguments, and the package variables that the reading takes, are together of bulk at most 1048576: NARROWER than '..Said'. Prove '..Said' where nothing that the law and all that it calls make is longer than what came in: it says more and counts as full. Else prove '..UptoSaid'. A law counts once. -/
mutual
def uptoBulk {H : Type} : DataW H → Nat
  | .lit (.string bytes) => bytes.length + 1
  | .lit _ => 1
  | .nil => 1
  | .ptr d => uptoBulk d + 1
  | .slice elems spare => uptoBulkAll elems + uptoBulkAll spare + 1
  | .agg parts => uptoBulkAll parts + 1
  | .iface _ d => uptoBulk d + 1
  | .map entries => uptoBulkEntries entries + 1
  | .held _ => 1
def uptoBulkAll {H : Type} : List (DataW H) → Nat
  | [] => 0
  | d :: r => uptoBulk d + uptoBulkAll r
def uptoBulkEntries {H : Type} : List (Lit × DataW H) → Nat
  | [] => 0
  | x :: r => uptoBulkEntry x + uptoBulkEntries r
def uptoBulkEntry {H : Type} : Lit × DataW H → Nat
  | (.string bytes, d) => bytes.length + uptoBulk d + 1
  | (_, d) => uptoBulk d + 1
 end
def uptoSmall : (H : Type) → List (DataW H) → Bool := fun _ ds => decide (uptoBulkAll ds ≤ 1048576)
def OpenSpec.upto (s : _root_.Go.ChangeSpec) : _root_.Go.OpenSpec := { _root_.Go.OpenSpec.ofChange s with cond := some uptoSmall }

/-- 'moultlaw07.OneTells', WHERE WHAT IT READS IS OF BULK AT MOST 1048576: true; the input reads as it did. -/
def oneTellsUptoRow : OpenClaim := { program := "ytofheinbbefbcaadoor", sum := "edc6127c7185fe1e9e87015fd5b8b7cfca9f703d52f07c6d4781c152e2618007", func := "moult/moultlaw07.OneTells", spec := "oneTells", unfollowed := true, recurses := true, named := ["moult/crc.rows"], apart := false, laid := [("moult/crc.rows", laid_moult_crc_rows)], narrowed := true }
def OneTellsUptoSaid : Prop := oneTellsUptoRow.holds Tryd.pinned (OpenSpec.upto oneTellsSpec)

/-- 'moultlaw07.OneBack', WHERE WHAT IT READS IS OF BULK AT MOST 1048576: true; the input reads as it did. -/
def oneBackUptoRow : OpenClaim := { program := "ytofheinbbefbcaadoor", sum := "edc6127c7185fe1e9e87015fd5b8b7cfca9f703d52f07c6d4781c152e2618007", func := "moult/moultlaw07.OneBack", spec := "oneBack", unfollowed := true, recurses := true, named := ["moult/crc.rows"], apart := false, laid := [("moult/crc.rows", laid_moult_crc_rows)], narrowed := true }
def OneBackUptoSaid : Prop := oneBackUptoRow.holds Tryd.pinned (OpenSpec.upto oneBackSpec)

/-- 'moultlaw07.OneOnly', WHERE WHAT IT READS IS OF BULK AT MOST 1048576: true; the input reads as it did. -/
def oneOnlyUptoRow : OpenClaim := { program := "ytofheinbbefbcaadoor", sum := "edc6127c7185fe1e9e87015fd5b8b7cfca9f703d52f07c6d4781c152e2618007", func := "moult/moultlaw07.OneOnly", spec := "oneOnly", unfollowed := true, recurses := true, named := ["moult/crc.rows"], apart := false, laid := [("moult/crc.rows", laid_moult_crc_rows)], narrowed := true }
def OneOnlyUptoSaid : Prop := oneOnlyUptoRow.holds Tryd.pinned (OpenSpec.upto oneOnlySpec)

/-- 'moultlaw07.OneMore', WHERE WHAT IT READS IS OF BULK AT MOST 1048576: true; the input reads as it did. -/
def oneMoreUptoRow : OpenClaim := { program := "ytofheinbbefbcaadoor", sum := "edc6127c7185fe1e9e87015fd5b8b7cfca9f703d52f07c6d4781c152e2618007", func := "moult/moultlaw07.OneMore", spec := "oneMore", unfollowed := true, recurses := true, named := ["moult/crc.rows"], apart := false, laid := [("moult/crc.rows", laid_moult_crc_rows)], narrowed := true }
def OneMoreUptoSaid : Prop := oneMoreUptoRow.holds Tryd.pinned (OpenSpec.upto oneMoreSpec)

/-- 'moultlaw07.OneApart', WHERE WHAT IT READS IS OF BULK AT MOST 1048576: true; the input reads as it did. -/
def oneApartUptoRow : OpenClaim := { program := "ytofheinbbefbcaadoor", sum := "edc6127c7185fe1e9e87015fd5b8b7cfca9f703d52f07c6d4781c152e2618007", func := "moult/moultlaw07.OneApart", spec := "oneApart", unfollowed := true, recurses := true, named := ["moult/crc.rows"], apart := false, laid := [("moult/crc.rows", laid_moult_crc_rows)], narrowed := true }
def OneApartUptoSaid : Prop := oneApartUptoRow.holds Tryd.pinned (OpenSpec.upto oneApartSpec)

/-- 'moultlaw11.ManifestBack', WHERE WHAT IT READS IS OF BULK AT MOST 1048576: true; the input reads as it did. -/
def manifestBackUptoRow : OpenClaim := { program := "ytofheinbbefbcaadoor", sum := "edc6127c7185fe1e9e87015fd5b8b7cfca9f703d52f07c6d4781c152e2618007", func := "moult/moultlaw11.ManifestBack", spec := "manifestBack", unfollowed := true, recurses := true, named := ["moult/crc.rows"], apart := false, laid := [("moult/crc.rows", laid_moult_crc_rows)], narrowed := true }
def ManifestBackUptoSaid : Prop := manifestBackUptoRow.holds Tryd.pinned (OpenSpec.upto manifestBackSpec)

/-- 'moultlaw11.ManifestOnly', WHERE WHAT IT READS IS OF BULK AT MOST 1048576: true; the input reads as it did. -/
def manifestOnlyUptoRow : OpenClaim := { program := "ytofheinbbefbcaadoor", sum := "edc6127c7185fe1e9e87015fd5b8b7cfca9f703d52f07c6d4781c152e2618007", func := "moult/moultlaw11.ManifestOnly", spec := "manifestOnly", unfollowed := true, recurses := true, named := ["moult/crc.rows"], apart := false, laid := [("moult/crc.rows", laid_moult_crc_rows)], narrowed := true }
def ManifestOnlyUptoSaid : Prop := manifestOnlyUptoRow.holds Tryd.pinned (OpenSpec.upto manifestOnlySpec)

/-- 'moultlaw11.ManifestNames', WHERE WHAT IT READS IS OF BULK AT MOST 1048576: true; the input reads as it did. -/
def manifestNamesUptoRow : OpenClaim := { program := "ytofheinbbefbcaadoor", sum := "edc6127c7185fe1e9e87015fd5b8b7cfca9f703d52f07c6d4781c152e2618007", func := "moult/moultlaw11.ManifestNames", spec := "manifestNames", unfollowed := true, recurses := true, named := ["moult/crc.rows"], apart := false, laid := [("moult/crc.rows", laid_moult_crc_rows)], narrowed := true }
def ManifestNamesUptoSaid : Prop := manifestNamesUptoRow.holds Tryd.pinned (OpenSpec.upto manifestNamesSpec)

/-- 'moultlaw11.ManifestOne', WHERE WHAT IT READS IS OF BULK AT MOST 1048576: true; the input reads as it did. -/
def manifestOneUptoRow : OpenClaim := { program := "ytofheinbbefbcaadoor", sum := "edc6127c7185fe1e9e87015fd5b8b7cfca9f703d52f07c6d4781c152e2618007", func := "moult/moultlaw11.ManifestOne", spec := "manifestOne", unfollowed := true, recurses := true, named := ["moult/crc.rows"], apart := false, laid := [("moult/crc.rows", laid_moult_crc_rows)], narrowed := true }
def ManifestOneUptoSaid : Prop := manifestOneUptoRow.holds Tryd.pinned (OpenSpec.upto manifestOneSpec)

/-- 'moultlaw11.ManifestTells', WHERE WHAT IT READS IS OF BULK AT MOST 1048576: true; the input reads as it did. -/
def manifestTellsUptoRow : OpenClaim := { program := "ytofheinbbefbcaadoor", sum := "edc6127c7185fe1e9e87015fd5b8b7cfca9f703d52f07c6d4781c152e2618007", func := "moult/moultlaw11.ManifestTells", spec := "manifestTells", unfollowed := true, recurses := true, named := ["moult/crc.rows"], apart := false, laid := [("moult/crc.rows", laid_moult_crc_rows)], narrowed := true }
def ManifestTellsUptoSaid : Prop := manifestTellsUptoRow.holds Tryd.pinned (OpenSpec.upto manifestTellsSpec)

end Rows
end Go.Proofs.YtofheinbbefbcaaDoor
