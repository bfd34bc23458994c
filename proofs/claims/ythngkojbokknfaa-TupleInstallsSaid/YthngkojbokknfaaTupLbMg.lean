/- The laws of layer 12: what their walks share. -/
import Derived.Test.YthngkojbokknfaaMg2
import Derived.Test.YthngkojbokknfaaTupWiMg
import Derived.Test.YthngkojbokknfaaTupWlMg
namespace Go.Proofs.Ythngkojbokknfaa
open Go Go.RowKit

theorem Chg.to5 {w0 w' : World} {x : Tu} {res : Option Tu} {e : Ending} (h : Chg w0 x res e w') (s : St) (l : List En) (t v er : Int) (hy : chgS x res = ⟨s, l, t, v⟩ ∧ chgE x res = er) :
    ∃ A2 c2, (e = .returned (.tuple #[.agg #[.int .i64 s.index, .int .i64 s.term, .int .i64 s.sum, .int .i64 s.level, .bool s.final, .slice A2 l.length c2, .int .i64 t, .int .i64 v], .int .i64 er]) ∧ Sl w0 w' A2 l.length c2 3 (ens l)) ∧ Below w0.heap.size w0 w' := by
  obtain ⟨hy, he⟩ := hy
  subst he
  unfold Chg at h
  rw [hy] at h
  exact h
theorem sameR_t (x : Tu) (A B : Option Addr) (c d : Nat) (w0 : World) (hx : LI w0 A x.log.length c x.log) (hy : LI w0 B x.log.length d x.log) :
    PureC Try.prog 11 #[.agg #[.int .i64 x.snap.index, .int .i64 x.snap.term, .int .i64 x.snap.sum, .int .i64 x.snap.level, .bool x.snap.final, .slice A x.log.length c, .int .i64 x.term, .int .i64 x.vote], .agg #[.int .i64 x.snap.index, .int .i64 x.snap.term, .int .i64 x.snap.sum, .int .i64 x.snap.level, .bool x.snap.final, .slice B x.log.length d, .int .i64 x.term, .int .i64 x.vote]] w0 (.bool true) := by
  have := sameR_any x x A B c d w0 hx hy
  rwa [decide_eq_true rfl] at this
theorem sameE_t (A B : Option Addr) (n m c d : Nat) (l : List En) (w0 : World) (hl : l.length = n) (hk : l.length = m) (hn : n ≤ 1000000000) (hA : Rd w0 A (ens l)) (hB : Rd w0 B (ens l)) :
    PureC Try.prog 18 #[.slice A n c, .slice B m d] w0 (.bool true) := by
  have := sameE_any A B n m c d l l w0 hl hk (by omega) hA hB
  rwa [decide_eq_true rfl] at this
theorem rightR12_b (x : Tu) (A : Option Addr) (c : Nat) (w0 : World) (hle : x.log.length ≤ c) (hrd : Rd w0 A (ens x.log)) (b : Bool) (h : tupB x = b) :
    PureC Try.prog 8 #[.agg #[.int .i64 x.snap.index, .int .i64 x.snap.term, .int .i64 x.snap.sum, .int .i64 x.snap.level, .bool x.snap.final, .slice A x.log.length c, .int .i64 x.term, .int .i64 x.vote]] w0 (.bool b) := by
  subst h; exact rightR12_any x A c w0 hle hrd
theorem yv_remq {P : Program} {L : List (Nat × Value)} {R : World → Prop} {d : Option Nat} {t' ty : TypeId} {pos : String} {af : Array Edge} {g : Option (Nat × Bool)} {x y : Operand} {t : TypeId} {m n q : Int} (hx : ev L x = some (.int .i64 m)) (hy : ev L y = some (.int .i64 n)) (h : n ≠ 0) (hq : m.tmod n = q) : Yv P L R ⟨d, .binOp .rem t x y t', ty, pos, af, g⟩ (.int .i64 q) := by
  subst hq; exact yv_rem hx hy h
/-- An index that is made to be one of so many. -/
theorem rem_twice (a : Int) (n : Nat) : ∃ q : Int, ∃ k : Nat, a.tmod ((n : Int) + 1) = q ∧ -((n : Int) + 1) < q ∧ q < (n : Int) + 1 ∧ (q + ((n : Int) + 1)).tmod ((n : Int) + 1) = k ∧ k ≤ n := by
  have hp : (0 : Int) < (n : Int) + 1 := by omega
  have h1 := Int.tmod_lt_of_pos a hp
  have h2 := Int.tmod_lt_of_pos (-a) hp
  rw [Int.neg_tmod] at h2
  have h3 : 0 ≤ a.tmod ((n : Int) + 1) + ((n : Int) + 1) := by omega
  have h4 := Int.emod_nonneg (a.tmod ((n : Int) + 1) + ((n : Int) + 1)) (by omega : ((n : Int) + 1) ≠ 0)
  have h5 := Int.emod_lt_of_pos (a.tmod ((n : Int) + 1) + ((n : Int) + 1)) hp
  refine ⟨_, ((a.tmod ((n : Int) + 1) + ((n : Int) + 1)) % ((n : Int) + 1)).toNat, rfl, by omega, h1, ?_, by omega⟩
  rw [Int.tmod_eq_emod_of_nonneg h3]
  omega
end Go.Proofs.Ythngkojbokknfaa
