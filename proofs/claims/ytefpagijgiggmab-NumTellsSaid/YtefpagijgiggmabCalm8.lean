/- The begin of a region that draws its order, walked in whatever grown world. -/
import Derived.Test.YtefpagijgiggmabCalm7
namespace Go.Proofs.Ytefpagijgiggmab
open Go Go.RowKit
section
variable {P : Program} {Q : Exit → Act → World → Prop}
/-- A region, in whatever order, with the world growing meanwhile; it does not panic. -/
theorem region_calm {id : Nat} {l : List Oper} {a : Act} {w : World} (n : Nat) (hm : (P.follows .mixedOrders = true ∧ l.length = n)) 
    (h : wpAnyM P .any l.toArray (NoPanic Q) n (Array.replicate n false) a w) : (Code.region id l.toArray true).wp P Q a w := by
  obtain ⟨hm, rfl⟩ := hm
  refine wp_region_noPanic (wp_region_any hm ?_)
  exact (h.mono (Below.refl w.heap.size w).drew).any
theorem region_calmB {id : Nat} {l : List Oper} {a : Act} {w : World} (n : Nat) (hm : (P.follows .mixedOrders = true ∧ l.length = n))
    (h : Below w.heap.size w w → wpAnyM P .any l.toArray (NoPanic Q) n (Array.replicate n false) a w) : (Code.region id l.toArray true).wp P Q a w :=
  region_calm n hm (h (Below.refl _ _))
theorem Lend.ok {A : Act} {w : World} : Lend A w .normal A w := ⟨rfl, rfl, rfl⟩
/-- All has come up. -/
theorem region_calm_end {l : List Oper} {a : Act} {w : World} {f : Nat} {listed : Array Bool} {md : Region.Mode} (hr : Region.ready md l.toArray listed = [])
    (h : ∀ w1, Below w.heap.size w w1 → Q .normal a w1) : wpAnyM P md l.toArray (NoPanic Q) f listed a w :=
  wpAnyM_done (Q := NoPanic Q) hr h f
end
end Go.Proofs.Ytefpagijgiggmab
