/- The door of the laws of layer 6: the names as they are laid. -/
import Derived.Test.YtefpagijgiggmaaDoorRows
import Derived.Test.YtefpagijgiggmaaDoorTie
import Derived.Test.YtefpagijgiggmaaDoorDoor
import Derived.Test.YtefpagijgiggmaaDoorEntOpen
import Derived.Test.YtefpagijgiggmaaDoorEntWi
namespace Go.Proofs.YtefpagijgiggmaaDoor
open Go Go.ChangeShapes Go.WideShapes Go.ChangeAt Go.RowKit

theorem own : ownKnob Tryd.prog.godebug = none := by kernel_rfl
theorem laidOut : laidOutB Tryd.prog = true := by kernel_rfl
theorem names_of_laid {W : World} (h : laidMetH Tryd.prog [("moult/entry.names", Rows.laid_moult_entry_names)] W) : NamesOK W := by
  have h' : laidMet Tryd.prog [("moult/entry.names", Rows.laid_moult_entry_names)] W := h
  have hg : Tryd.prog.globalNamed "moult/entry.names" = some 0 := by kernel_rfl
  have hty : (Tryd.prog.globals[0]?).map (·.type) = some 49 := by kernel_rfl
  obtain ⟨ps, ⟨g', t', cs, fuel, p, q, hg', ht', hvar, hd, _, _⟩, _⟩ := h'
  obtain rfl := Option.some.inj (hg.symm.trans hg')
  obtain rfl := Option.some.inj (hty.symm.trans ht')
  obtain ⟨xs, m, _, hx, _, hxl, hf⟩ := DataW.trod_array Tryd.underlying49 hd
  have h3 := hf 3 (by omega)
  have hxm : xs[3]? = some (xs[3]'(by omega)) := List.getElem?_eq_getElem (by omega)
  rw [hxm] at h3
  obtain ⟨s, hs, hxs, _⟩ := DataW.trod_string Tryd.underlying9 h3
  have hc : Tryd.prog.cellsOf 9 = 1 := by kernel_rfl
  rw [hc] at hs
  have hlit : (xs.map (·.1))[3]? = some (.lit (.string [114, 101, 118, 101, 114, 116])) := by
    have := congrArg Prod.fst hx
    simp only [Rows.laid_moult_entry_names, DataW.agg.injEq] at this
    rw [← this]; rfl
  rw [List.getElem?_map, hxm, hxs] at hlit
  simp only [Option.map_some, Option.some.injEq, DataW.lit.injEq, Lit.string.injEq] at hlit
  have hcell := World.var?_cell hg hvar 3
  unfold NamesOK
  rw [hcell]
  have hc3 : cs[3]? = some (.string s) := by
    have := congrArg (·[0]?) hs
    simpa [List.getElem?_take, List.getElem?_drop] using this
  simp only [List.getElem?_toArray, hc3, Option.some.injEq, Value.string.injEq]
  obtain ⟨⟨l⟩⟩ := s
  simp only at hlit
  subst hlit
  rfl
theorem door_met (os : Os) (args : Array Value) : laidMetH Tryd.prog [("moult/entry.names", Rows.laid_moult_entry_names)] ((World.doorLaid Tryd.prog 17 os).forCall (fun _ _ => 0) ⟨#[], args, []⟩).memory :=
  laidMetH_of_parts3 (fuel := 8) (laidMet_of_run' 8 (by kernel_rfl) (by kernel_rfl)) (by kernel_rfl) (by kernel_rfl)
end Go.Proofs.YtefpagijgiggmaaDoor
