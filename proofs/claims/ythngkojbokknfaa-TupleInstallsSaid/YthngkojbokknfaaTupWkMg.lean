/- The walks of tuples: wakes. Printed by tools/gen_tupwakes.py. -/
import Derived.Test.YthngkojbokknfaaTupWjMg
namespace Go.Proofs.Ythngkojbokknfaa
open Go Go.RowKit
set_option maxRecDepth 10000
set_option maxHeartbeats 2000000
-- @EQ eqSt

theorem Chg.to {w0 w' : World} {x : Tu} {res : Option Tu} {e : Ending} (h : Chg w0 x res e w') (y : Tu) (er : Int) (hy : chgS x res = y) (he : chgE x res = er) :
    ∃ A2 c2, (e = .returned (.tuple #[.agg #[.int .i64 y.snap.index, .int .i64 y.snap.term, .int .i64 y.snap.sum, .int .i64 y.snap.level, .bool y.snap.final, .slice A2 y.log.length c2, .int .i64 y.term, .int .i64 y.vote], .int .i64 er]) ∧ Sl w0 w' A2 y.log.length c2 3 (ens y.log)) ∧ Below w0.heap.size w0 w' := by subst hy he; exact h

theorem wk1 (A : Option Addr) (c : Nat) (w0 : World) (hx : LI w0 A 0 c []) (hA : ∀ a, A = some a → a.block < w0.heap.size) :
    Calls Try.prog 26 #[.agg #[.int .i64 0, .int .i64 0, .int .i64 0, .int .i64 1, .bool false, .slice A 0 c, .int .i64 0, .int .i64 0], .int .i64 3, .int .i64 2] w0 fun e w' => ∃ A2 c2, (e = .returned (.tuple #[.agg #[.int .i64 0, .int .i64 0, .int .i64 0, .int .i64 1, .bool false, .slice A2 0 c2, .int .i64 3, .int .i64 2], .int .i64 0]) ∧ Sl w0 w' A2 0 c2 3 (ens [])) ∧ Below w0.heap.size w0 w' :=
  (hard_any ⟨⟨0, 0, 0, 1, false⟩, [], 0, 0⟩ A c 3 2 w0 hx hA).mono fun e w' h => h.to ⟨⟨0, 0, 0, 1, false⟩, [], 3, 2⟩ 0 (by decide +kernel) (by decide +kernel)

theorem wk2 (A : Option Addr) (c : Nat) (B : Option Addr) (d : Nat) (w0 : World) (hx : LI w0 A 0 c []) (hA : ∀ a, A = some a → a.block < w0.heap.size) (hl : LI w0 B 3 d [⟨2, 1, 5⟩, ⟨2, 1, 6⟩, ⟨2, 1, 7⟩]) :
    Calls Try.prog 17 #[.agg #[.int .i64 0, .int .i64 0, .int .i64 0, .int .i64 1, .bool false, .slice A 0 c, .int .i64 3, .int .i64 2], .slice B 3 d] w0 fun e w' => ∃ A2 c2, (e = .returned (.tuple #[.agg #[.int .i64 0, .int .i64 0, .int .i64 0, .int .i64 1, .bool false, .slice A2 3 c2, .int .i64 3, .int .i64 2], .int .i64 0]) ∧ Sl w0 w' A2 3 c2 3 (ens [⟨2, 1, 5⟩, ⟨2, 1, 6⟩, ⟨2, 1, 7⟩])) ∧ Below w0.heap.size w0 w' :=
  (append_any ⟨⟨0, 0, 0, 1, false⟩, [], 3, 2⟩ A B c 3 d [⟨2, 1, 5⟩, ⟨2, 1, 6⟩, ⟨2, 1, 7⟩] w0 hx hA hl (by omega)).mono fun e w' h => h.to ⟨⟨0, 0, 0, 1, false⟩, [⟨2, 1, 5⟩, ⟨2, 1, 6⟩, ⟨2, 1, 7⟩], 3, 2⟩ 0 (by decide +kernel) (by decide +kernel)

theorem wk3 (A : Option Addr) (c : Nat) (w0 : World) (hx : LI w0 A 3 c [⟨2, 1, 5⟩, ⟨2, 1, 6⟩, ⟨2, 1, 7⟩]) (hA : ∀ a, A = some a → a.block < w0.heap.size) :
    Calls Try.prog 16 #[.agg #[.int .i64 0, .int .i64 0, .int .i64 0, .int .i64 1, .bool false, .slice A 3 c, .int .i64 3, .int .i64 2], .int .i64 3] w0 fun e w' => ∃ A2 c2, (e = .returned (.tuple #[.agg #[.int .i64 0, .int .i64 0, .int .i64 0, .int .i64 1, .bool false, .slice A2 2 c2, .int .i64 3, .int .i64 2], .int .i64 0]) ∧ Sl w0 w' A2 2 c2 3 (ens [⟨2, 1, 5⟩, ⟨2, 1, 6⟩])) ∧ Below w0.heap.size w0 w' :=
  (cut_any ⟨⟨0, 0, 0, 1, false⟩, [⟨2, 1, 5⟩, ⟨2, 1, 6⟩, ⟨2, 1, 7⟩], 3, 2⟩ A c 3 w0 hx hA).mono fun e w' h => h.to ⟨⟨0, 0, 0, 1, false⟩, [⟨2, 1, 5⟩, ⟨2, 1, 6⟩], 3, 2⟩ 0 (by decide +kernel) (by decide +kernel)

theorem wk5 (A : Option Addr) (c : Nat) (w0 : World) (hx : LI w0 A 2 c [⟨2, 1, 5⟩, ⟨2, 1, 6⟩]) (hA : ∀ a, A = some a → a.block < w0.heap.size) :
    Calls Try.prog 13 #[.agg #[.int .i64 0, .int .i64 0, .int .i64 0, .int .i64 1, .bool false, .slice A 2 c, .int .i64 3, .int .i64 2], .agg #[.int .i64 1, .int .i64 2, .int .i64 6, .int .i64 1, .bool false]] w0 fun e w' => ∃ A2 c2, (e = .returned (.tuple #[.agg #[.int .i64 1, .int .i64 2, .int .i64 6, .int .i64 1, .bool false, .slice A2 1 c2, .int .i64 3, .int .i64 2], .int .i64 0]) ∧ Sl w0 w' A2 1 c2 3 (ens [⟨2, 1, 6⟩])) ∧ Below w0.heap.size w0 w' :=
  (save_any ⟨⟨0, 0, 0, 1, false⟩, [⟨2, 1, 5⟩, ⟨2, 1, 6⟩], 3, 2⟩ A c ⟨1, 2, 6, 1, false⟩ w0 hx hA).mono fun e w' h => h.to ⟨⟨1, 2, 6, 1, false⟩, [⟨2, 1, 6⟩], 3, 2⟩ 0 (by decide +kernel) (by decide +kernel)

theorem wk6 (A : Option Addr) (c : Nat) (w0 : World) (hx : LI w0 A 1 c [⟨2, 1, 6⟩]) (hA : ∀ a, A = some a → a.block < w0.heap.size) :
    Calls Try.prog 20 #[.agg #[.int .i64 1, .int .i64 2, .int .i64 6, .int .i64 1, .bool false, .slice A 1 c, .int .i64 3, .int .i64 2], .agg #[.int .i64 9, .int .i64 3, .int .i64 0, .int .i64 2, .bool false]] w0 fun e w' => ∃ A2 c2, (e = .returned (.tuple #[.agg #[.int .i64 9, .int .i64 3, .int .i64 0, .int .i64 2, .bool false, .slice A2 0 c2, .int .i64 3, .int .i64 2], .int .i64 0]) ∧ Sl w0 w' A2 0 c2 3 (ens [])) ∧ Below w0.heap.size w0 w' :=
  (install_any ⟨⟨1, 2, 6, 1, false⟩, [⟨2, 1, 6⟩], 3, 2⟩ A c ⟨9, 3, 0, 2, false⟩ w0 hx hA).mono fun e w' h => h.to ⟨⟨9, 3, 0, 2, false⟩, [], 3, 2⟩ 0 (by decide +kernel) (by decide +kernel)

theorem wk7 (A : Option Addr) (c : Nat) (w0 : World) (hx : LI w0 A 0 c []) (hA : ∀ a, A = some a → a.block < w0.heap.size) :
    Calls Try.prog 26 #[.agg #[.int .i64 0, .int .i64 0, .int .i64 0, .int .i64 1, .bool false, .slice A 0 c, .int .i64 3, .int .i64 2], .int .i64 3, .int .i64 1] w0 fun e w' => ∃ A2 c2, (e = .returned (.tuple #[.agg #[.int .i64 0, .int .i64 0, .int .i64 0, .int .i64 1, .bool false, .slice A2 0 c2, .int .i64 3, .int .i64 2], .int .i64 2]) ∧ Sl w0 w' A2 0 c2 3 (ens [])) ∧ Below w0.heap.size w0 w' :=
  (hard_any ⟨⟨0, 0, 0, 1, false⟩, [], 3, 2⟩ A c 3 1 w0 hx hA).mono fun e w' h => h.to ⟨⟨0, 0, 0, 1, false⟩, [], 3, 2⟩ 2 (by decide +kernel) (by decide +kernel)

theorem wk8 (A : Option Addr) (c : Nat) (B : Option Addr) (d : Nat) (w0 : World) (hx : LI w0 A 0 c []) (hA : ∀ a, A = some a → a.block < w0.heap.size) (hl : LI w0 B 1 d [⟨4, 1, 1⟩]) :
    Calls Try.prog 17 #[.agg #[.int .i64 0, .int .i64 0, .int .i64 0, .int .i64 1, .bool false, .slice A 0 c, .int .i64 3, .int .i64 2], .slice B 1 d] w0 fun e w' => ∃ A2 c2, (e = .returned (.tuple #[.agg #[.int .i64 0, .int .i64 0, .int .i64 0, .int .i64 1, .bool false, .slice A2 0 c2, .int .i64 3, .int .i64 2], .int .i64 2]) ∧ Sl w0 w' A2 0 c2 3 (ens [])) ∧ Below w0.heap.size w0 w' :=
  (append_any ⟨⟨0, 0, 0, 1, false⟩, [], 3, 2⟩ A B c 1 d [⟨4, 1, 1⟩] w0 hx hA hl (by omega)).mono fun e w' h => h.to ⟨⟨0, 0, 0, 1, false⟩, [], 3, 2⟩ 2 (by decide +kernel) (by decide +kernel)

end Go.Proofs.Ythngkojbokknfaa
