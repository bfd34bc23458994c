/- Stages, formats, what is asked: in plain Lean. -/
import Derived.Test.YtoehcmddfpompaaEntFinePl
import Derived.Test.YtoehcmddfpompaaEntBx
namespace Go.Proofs.Ytoehcmddfpompaa

def stageS (s : St) : Int := if s.level = 2 then (if s.final = true then 2 else 1) else 0
def not2 (c : Int) : Bool := c != 2
def knownB (l : List Int) : Bool := !l.isEmpty && !(l.any not2)
def checkS (k : Int) (s : St) (l : List Int) : Int :=
  if k = 1 then 0 else if k = 2 then (if knownB l = true then 0 else 221) else if k = 3 then (if s.final = true then 222 else 0)
  else if k = 4 then (if s.final = true then 222 else if s.level = 2 then 0 else 223) else 2
def entryL (kind value term : Int) : En × Int := if rightB ⟨term, kind, value⟩ = true then (⟨term, kind, value⟩, 0) else (⟨0, 0, 0⟩, 2)
def formatS (s : St) (b : Int) : Int := min (max b 1) (min (1 + stageS s) 2)
theorem stageS_bd (s : St) : 0 ≤ stageS s ∧ stageS s ≤ 2 := by unfold stageS; split <;> (try split) <;> omega
/-- The stages behind entries, the state's own one first. -/
def stagesS (s : St) (l : List En) : List Int := stageS s :: (scanS s l).map stageS
theorem stagesS_len (s : St) (l : List En) : (stagesS s l).length = l.length + 1 := by simp [stagesS, scanS_length]
theorem stagesS_at (s : St) (l : List En) (k : Nat) (e : En) (h : l[k]? = some e) : (stagesS s l)[k + 1]? = some (stageS (allS s (l.take (k + 1)))) := by
  unfold stagesS
  rw [List.getElem?_cons_succ, List.getElem?_map, scanS_at s l k e h, allS_take s l k e h]
  rfl
end Go.Proofs.Ytoehcmddfpompaa
