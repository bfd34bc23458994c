/- What the functions of entries and tuples compute that are walked by hand, in the form of the printed contracts. -/
import Derived.Test.YthngkojbokknfaaGxCMg
import Derived.Test.YthngkojbokknfaaMg2
namespace Go.Proofs.Ythngkojbokknfaa
open Go Go.RowKit
theorem SlI.li {w : World} {A : Option Addr} {c : Nat} {l : List En} (h : SlI w enE A c l) (hn : l.length ≤ 1000000) : LI w A l.length c l := ⟨rfl, hn, h.le, h.cap, h.rd⟩
theorem Sl.st0 {w w' : World} {A : Option Addr} {n c k : Nat} {xs : List Value} (hs : Sl w w' A n c k xs) (hB : Below w.heap.size w w') : St0 All w w' [.rd A xs] := (St0.start All w).slice hs hB
theorem PureC.st0 {P : Program} {f : Nat} {args : Array Value} {w : World} {v : Value} (h : PureC P f args w v) : Calls P f args w fun e w' => e = .returned v ∧ St0 All w w' [] := h.run.mono fun _ _ h => ⟨h.1, (St0.start All w).below h.2⟩
theorem calls_st0 {P : Program} {f : Nat} {args : Array Value} {w : World} {v : Value} (h : Calls P f args w fun e w' => e = .returned v ∧ Below w.heap.size w w') : Calls P f args w fun e w' => e = .returned v ∧ St0 All w w' [] := h.mono fun _ _ h => ⟨h.1, (St0.start All w).below h.2⟩
/-- Tuples whose numbers can be reckoned with. -/
def okT (x : Tu) : Bool := decide (x.log.length ≤ 1000000 ∧ -2000000000000 ≤ x.snap.index ∧ x.snap.index ≤ 2000000000000)
theorem okT_iff {x : Tu} : okT x = true ↔ x.log.length ≤ 1000000 ∧ -2000000000000 ≤ x.snap.index ∧ x.snap.index ≤ 2000000000000 := decide_eq_true_iff

def m_entry_Right (e : En) : Option Bool := some (rightB e)
theorem c_entry_Right (x0 : En) (w0 : World) {r : Bool} (H : m_entry_Right x0 = some r) : Calls Try.prog 61 #[.agg #[.int .i64 x0.term, .int .i64 x0.kind, .int .i64 x0.value]] w0 fun e w' => e = .returned (.bool r) ∧ St0 All w0 w' [] := by
  obtain rfl := Option.some.inj H
  exact calls_st0 (right_any x0 w0)
def m_tuple_Right (x : Tu) : Option Bool := cond (okT x) (some (tupB x)) none
theorem c_tuple_Right (x0 : Tu) (A0 : Option Addr) (c0 : Nat) (w0 : World) (s0 : SlI w0 enE A0 c0 x0.log) {r : Bool} (H : m_tuple_Right x0 = some r) : Calls Try.prog 32 #[.agg #[.int .i64 x0.snap.index, .int .i64 x0.snap.term, .int .i64 x0.snap.sum, .int .i64 x0.snap.level, .bool x0.snap.final, .slice A0 x0.log.length c0, .int .i64 x0.term, .int .i64 x0.vote]] w0 fun e w' => e = .returned (.bool r) ∧ St0 All w0 w' [] := by
  unfold m_tuple_Right at H
  cases hb : okT x0 with
  | false => rw [hb] at H; cases H
  | true =>
    rw [hb] at H
    obtain rfl := Option.some.inj H
    have h := okT_iff.1 hb
    exact (right_any2 x0.snap A0 x0.log.length c0 x0.log x0.term x0.vote w0 (s0.li h.1) h.2 s0.blk).st0
def m_tuple_State (x : Tu) (i : Int) : Option (St × Bool) := cond (okT x) (cond (decide (x.snap.index ≤ i ∧ i ≤ x.snap.index + x.log.length)) (some (allS x.snap (x.log.take (i - x.snap.index).toNat), true)) (some (⟨0, 0, 0, 0, false⟩, false))) none
theorem c_tuple_State (x0 : Tu) (x1 : Int) (A0 : Option Addr) (c0 : Nat) (w0 : World) (s0 : SlI w0 enE A0 c0 x0.log) {r : St × Bool} (H : m_tuple_State x0 x1 = some r) : Calls Try.prog 12 #[.agg #[.int .i64 x0.snap.index, .int .i64 x0.snap.term, .int .i64 x0.snap.sum, .int .i64 x0.snap.level, .bool x0.snap.final, .slice A0 x0.log.length c0, .int .i64 x0.term, .int .i64 x0.vote], .int .i64 x1] w0 fun e w' => e = .returned (.tuple #[.agg #[.int .i64 r.1.index, .int .i64 r.1.term, .int .i64 r.1.sum, .int .i64 r.1.level, .bool r.1.final], .bool r.2]) ∧ St0 All w0 w' [] := by
  unfold m_tuple_State at H
  cases hb : okT x0 with
  | false => rw [hb] at H; cases H
  | true =>
    rw [hb] at H
    have h := okT_iff.1 hb
    by_cases hi : x0.snap.index ≤ x1 ∧ x1 ≤ x0.snap.index + x0.log.length
    · rw [decide_eq_true hi] at H
      obtain rfl := Option.some.inj H
      exact (state_yes x0 A0 c0 (x1 - x0.snap.index).toNat w0 h.2 (s0.li h.1) x1 (by omega) (by omega)).st0
    · rw [decide_eq_false hi] at H
      obtain rfl := Option.some.inj H
      exact (state_no x0 A0 c0 w0 h.2 h.1 x1 (by omega)).st0
def m_chg (x : Tu) (res : Option Tu) : Tu × Int := (chgS x res, chgE x res)
theorem chg_st0 {w0 : World} {x : Tu} {res : Option Tu} {e : Ending} {w' : World} (h : Chg w0 x res e w') : ∃ (A0 : Option Addr) (c0 : Nat), e = .returned (.tuple #[.agg #[.int .i64 (m_chg x res).1.snap.index, .int .i64 (m_chg x res).1.snap.term, .int .i64 (m_chg x res).1.snap.sum, .int .i64 (m_chg x res).1.snap.level, .bool (m_chg x res).1.snap.final, .slice A0 (m_chg x res).1.log.length c0, .int .i64 (m_chg x res).1.term, .int .i64 (m_chg x res).1.vote], .int .i64 (m_chg x res).2]) ∧ ((m_chg x res).1.log.length ≤ c0 ∧ c0 ≤ maxLen) ∧ St0 All w0 w' [.rd A0 (encs enE (m_chg x res).1.log)] := by
  obtain ⟨A, c, ⟨rfl, hs⟩, hB⟩ := h
  exact ⟨A, c, rfl, ⟨hs.le, hs.cap⟩, hs.st0 hB⟩
def m_tuple_Append (x : Tu) (l : List En) : Option (Tu × Int) := cond (decide (x.log.length ≤ 1000000 ∧ l.length ≤ 300)) (some (m_chg x (some { x with log := x.log ++ l }))) none
theorem c_tuple_Append (x0 : Tu) (x1 : List En) (A0 : Option Addr) (c0 : Nat) (A1 : Option Addr) (c1 : Nat) (w0 : World) (s0 : SlI w0 enE A0 c0 x0.log) (s1 : SlI w0 enE A1 c1 x1) {r : Tu × Int} (H : m_tuple_Append x0 x1 = some r) : Calls Try.prog 17 #[.agg #[.int .i64 x0.snap.index, .int .i64 x0.snap.term, .int .i64 x0.snap.sum, .int .i64 x0.snap.level, .bool x0.snap.final, .slice A0 x0.log.length c0, .int .i64 x0.term, .int .i64 x0.vote], .slice A1 x1.length c1] w0 fun e w' => ∃ (A0 : Option Addr) (c0 : Nat), e = .returned (.tuple #[.agg #[.int .i64 r.1.snap.index, .int .i64 r.1.snap.term, .int .i64 r.1.snap.sum, .int .i64 r.1.snap.level, .bool r.1.snap.final, .slice A0 r.1.log.length c0, .int .i64 r.1.term, .int .i64 r.1.vote], .int .i64 r.2]) ∧ (r.1.log.length ≤ c0 ∧ c0 ≤ maxLen) ∧ St0 All w0 w' [.rd A0 (encs enE r.1.log)] := by
  unfold m_tuple_Append at H
  by_cases h : x0.log.length ≤ 1000000 ∧ x1.length ≤ 300
  · rw [decide_eq_true h] at H
    obtain rfl := Option.some.inj H
    exact (append_any x0 A0 A1 c0 x1.length c1 x1 w0 (s0.li h.1) s0.blk (s1.li (by omega)) h.2).mono fun _ _ h => chg_st0 h
  · rw [decide_eq_false h] at H; cases H
def m_tuple_Cut (x : Tu) (i : Int) : Option (Tu × Int) := cond (decide (x.log.length ≤ 1000000)) (some (m_chg x (cutR x i))) none
theorem c_tuple_Cut (x0 : Tu) (x1 : Int) (A0 : Option Addr) (c0 : Nat) (w0 : World) (s0 : SlI w0 enE A0 c0 x0.log) {r : Tu × Int} (H : m_tuple_Cut x0 x1 = some r) : Calls Try.prog 16 #[.agg #[.int .i64 x0.snap.index, .int .i64 x0.snap.term, .int .i64 x0.snap.sum, .int .i64 x0.snap.level, .bool x0.snap.final, .slice A0 x0.log.length c0, .int .i64 x0.term, .int .i64 x0.vote], .int .i64 x1] w0 fun e w' => ∃ (A0 : Option Addr) (c0 : Nat), e = .returned (.tuple #[.agg #[.int .i64 r.1.snap.index, .int .i64 r.1.snap.term, .int .i64 r.1.snap.sum, .int .i64 r.1.snap.level, .bool r.1.snap.final, .slice A0 r.1.log.length c0, .int .i64 r.1.term, .int .i64 r.1.vote], .int .i64 r.2]) ∧ (r.1.log.length ≤ c0 ∧ c0 ≤ maxLen) ∧ St0 All w0 w' [.rd A0 (encs enE r.1.log)] := by
  unfold m_tuple_Cut at H
  by_cases h : x0.log.length ≤ 1000000
  · rw [decide_eq_true h] at H
    obtain rfl := Option.some.inj H
    exact (cut_any x0 A0 c0 x1 w0 (s0.li h) s0.blk).mono fun _ _ h => chg_st0 h
  · rw [decide_eq_false h] at H; cases H
def m_tuple_Save (x : Tu) (s : St) : Option (Tu × Int) := cond (decide (x.log.length ≤ 1000000)) (some (m_chg x (saveR x s))) none
theorem c_tuple_Save (x0 : Tu) (x1 : St) (A0 : Option Addr) (c0 : Nat) (w0 : World) (s0 : SlI w0 enE A0 c0 x0.log) {r : Tu × Int} (H : m_tuple_Save x0 x1 = some r) : Calls Try.prog 13 #[.agg #[.int .i64 x0.snap.index, .int .i64 x0.snap.term, .int .i64 x0.snap.sum, .int .i64 x0.snap.level, .bool x0.snap.final, .slice A0 x0.log.length c0, .int .i64 x0.term, .int .i64 x0.vote], .agg #[.int .i64 x1.index, .int .i64 x1.term, .int .i64 x1.sum, .int .i64 x1.level, .bool x1.final]] w0 fun e w' => ∃ (A0 : Option Addr) (c0 : Nat), e = .returned (.tuple #[.agg #[.int .i64 r.1.snap.index, .int .i64 r.1.snap.term, .int .i64 r.1.snap.sum, .int .i64 r.1.snap.level, .bool r.1.snap.final, .slice A0 r.1.log.length c0, .int .i64 r.1.term, .int .i64 r.1.vote], .int .i64 r.2]) ∧ (r.1.log.length ≤ c0 ∧ c0 ≤ maxLen) ∧ St0 All w0 w' [.rd A0 (encs enE r.1.log)] := by
  unfold m_tuple_Save at H
  by_cases h : x0.log.length ≤ 1000000
  · rw [decide_eq_true h] at H
    obtain rfl := Option.some.inj H
    exact (save_any x0 A0 c0 x1 w0 (s0.li h) s0.blk).mono fun _ _ h => chg_st0 h
  · rw [decide_eq_false h] at H; cases H
def m_tuple_Install (x : Tu) (s : St) : Option (Tu × Int) := cond (decide (x.log.length ≤ 1000000)) (some (m_chg x (instR x s))) none
theorem c_tuple_Install (x0 : Tu) (x1 : St) (A0 : Option Addr) (c0 : Nat) (w0 : World) (s0 : SlI w0 enE A0 c0 x0.log) {r : Tu × Int} (H : m_tuple_Install x0 x1 = some r) : Calls Try.prog 20 #[.agg #[.int .i64 x0.snap.index, .int .i64 x0.snap.term, .int .i64 x0.snap.sum, .int .i64 x0.snap.level, .bool x0.snap.final, .slice A0 x0.log.length c0, .int .i64 x0.term, .int .i64 x0.vote], .agg #[.int .i64 x1.index, .int .i64 x1.term, .int .i64 x1.sum, .int .i64 x1.level, .bool x1.final]] w0 fun e w' => ∃ (A0 : Option Addr) (c0 : Nat), e = .returned (.tuple #[.agg #[.int .i64 r.1.snap.index, .int .i64 r.1.snap.term, .int .i64 r.1.snap.sum, .int .i64 r.1.snap.level, .bool r.1.snap.final, .slice A0 r.1.log.length c0, .int .i64 r.1.term, .int .i64 r.1.vote], .int .i64 r.2]) ∧ (r.1.log.length ≤ c0 ∧ c0 ≤ maxLen) ∧ St0 All w0 w' [.rd A0 (encs enE r.1.log)] := by
  unfold m_tuple_Install at H
  by_cases h : x0.log.length ≤ 1000000
  · rw [decide_eq_true h] at H
    obtain rfl := Option.some.inj H
    exact (install_any x0 A0 c0 x1 w0 (s0.li h) s0.blk).mono fun _ _ h => chg_st0 h
  · rw [decide_eq_false h] at H; cases H
def m_tuple_Hard (x : Tu) (t v : Int) : Option (Tu × Int) := cond (decide (x.log.length ≤ 1000000)) (some (m_chg x (hardR x t v))) none
theorem c_tuple_Hard (x0 : Tu) (x1 x2 : Int) (A0 : Option Addr) (c0 : Nat) (w0 : World) (s0 : SlI w0 enE A0 c0 x0.log) {r : Tu × Int} (H : m_tuple_Hard x0 x1 x2 = some r) : Calls Try.prog 26 #[.agg #[.int .i64 x0.snap.index, .int .i64 x0.snap.term, .int .i64 x0.snap.sum, .int .i64 x0.snap.level, .bool x0.snap.final, .slice A0 x0.log.length c0, .int .i64 x0.term, .int .i64 x0.vote], .int .i64 x1, .int .i64 x2] w0 fun e w' => ∃ (A0 : Option Addr) (c0 : Nat), e = .returned (.tuple #[.agg #[.int .i64 r.1.snap.index, .int .i64 r.1.snap.term, .int .i64 r.1.snap.sum, .int .i64 r.1.snap.level, .bool r.1.snap.final, .slice A0 r.1.log.length c0, .int .i64 r.1.term, .int .i64 r.1.vote], .int .i64 r.2]) ∧ (r.1.log.length ≤ c0 ∧ c0 ≤ maxLen) ∧ St0 All w0 w' [.rd A0 (encs enE r.1.log)] := by
  unfold m_tuple_Hard at H
  by_cases h : x0.log.length ≤ 1000000
  · rw [decide_eq_true h] at H
    obtain rfl := Option.some.inj H
    exact (hard_any x0 A0 c0 x1 x2 w0 (s0.li h) s0.blk).mono fun _ _ h => chg_st0 h
  · rw [decide_eq_false h] at H; cases H
end Go.Proofs.Ythngkojbokknfaa
