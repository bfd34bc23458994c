/- Texts of one claim put together: what its walks share. -/
import Derived.Test.YtohkkncfofomdaaMg1
/- Structures, and arguments of their types opened; printed. -/
namespace Go.Proofs.Ytohkkncfofomdaa
open Go Go.ChangeShapes Go.WideShapes Go.ChangeAt Go.RowKit
set_option maxRecDepth 100000
structure Co where
  id : Int
  n : Int
  role : Int
  binary : Int
  tuple : Tu
  commit : Int
  applied : St
  votes : List Bool
  next : List Int
  mtch : List Int
  caps : List Int
deriving DecidableEq
structure Ms where
  kind : Int
  frm : Int
  dst : Int
  term : Int
  cap : Int
  last : Int
  lastTerm : Int
  commit : Int
  okk : Bool
  entries : List En
  snap : St
deriving DecidableEq
def Tu.ok (x : Tu) : Prop := x.snap.ok ∧ (∀ e ∈ x.log, e.ok) ∧ I64 x.term ∧ I64 x.vote
def Co.ok (x : Co) : Prop := I64 x.id ∧ I64 x.n ∧ (0 ≤ x.role ∧ x.role ≤ 255) ∧ I64 x.binary ∧ x.tuple.ok ∧ I64 x.commit ∧ x.applied.ok ∧ (∀ n ∈ x.next, I64 n) ∧ (∀ n ∈ x.mtch, I64 n) ∧ (∀ n ∈ x.caps, I64 n)
def Ms.ok (x : Ms) : Prop := (0 ≤ x.kind ∧ x.kind ≤ 255) ∧ I64 x.frm ∧ I64 x.dst ∧ I64 x.term ∧ I64 x.cap ∧ I64 x.last ∧ I64 x.lastTerm ∧ I64 x.commit ∧ (∀ e ∈ x.entries, e.ok) ∧ x.snap.ok
section
variable {H : Type} {enc : TypeId × Value → H} {W : World} {base0 : Nat} {sp : Nat → Bool} {held : Bool} {base : Nat}
theorem trod_l24 {fuel : Nat} {cs : List Value} {x : DataW H × List MemPlace} (h : DataW.trod enc Try.prog W base0 sp held fuel 24 cs = some x) :
    ∃ A c, ∃ l : List En, cs = [.slice A l.length c] ∧ l.length ≤ c ∧ c ≤ maxLen ∧ Rd W A (encs enE l) ∧ ∀ e ∈ l, (En.ok) e := trod_rows enE (En.ok) 3 (by omega) (fun _ => rfl) Try.underlying24 (by kernel_rfl) (fun _ _ _ h => trod_entry h) h
theorem trod_l29 {fuel : Nat} {cs : List Value} {x : DataW H × List MemPlace} (h : DataW.trod enc Try.prog W base0 sp held fuel 29 cs = some x) :
    ∃ A c, ∃ l : List Bool, cs = [.slice A l.length c] ∧ l.length ≤ c ∧ c ≤ maxLen ∧ Rd W A (encs enO l) ∧ ∀ e ∈ l, (fun _ => True) e := trod_rows enO (fun _ => True) 1 (by omega) (fun _ => rfl) Try.underlying29 (by kernel_rfl) (fun _ _ _ h => by obtain ⟨a, e, _⟩ := DataW.trod_bool Try.underlying4 h; exact ⟨a, trivial, e⟩) h
theorem trod_l30 {fuel : Nat} {cs : List Value} {x : DataW H × List MemPlace} (h : DataW.trod enc Try.prog W base0 sp held fuel 30 cs = some x) :
    ∃ A c, ∃ l : List Int, cs = [.slice A l.length c] ∧ l.length ≤ c ∧ c ≤ maxLen ∧ Rd W A (encs enI l) ∧ ∀ e ∈ l, (I64) e := trod_rows enI (I64) 1 (by omega) (fun _ => rfl) Try.underlying30 (by kernel_rfl) (fun _ _ _ h => by obtain ⟨a, e, _, w⟩ := DataW.trod_int Try.underlying3 h; exact ⟨a, bounds_i64 w, e⟩) h
theorem trod_Tu {fuel : Nat} {cs : List Value} {y : DataW H × List MemPlace} (h : DataW.trod enc Try.prog W base0 sp held fuel 26 cs = some y) :
    ∃ A0 c0, ∃ x : Tu, cs = [.int .i64 x.snap.index, .int .i64 x.snap.term, .int .i64 x.snap.sum, .int .i64 x.snap.level, .bool x.snap.final, .slice A0 x.log.length c0, .int .i64 x.term, .int .i64 x.vote] ∧ (x.log.length ≤ c0 ∧ c0 ≤ maxLen ∧ Rd W A0 (encs enE x.log)) ∧ x.ok := by
  obtain ⟨xs, n, _, _, hl, hlen, hf⟩ := DataW.trod_struct Try.underlying26 h
  rw [show Try.prog.cellsOf 26 = 8 by kernel_rfl] at hl
  have hlen' : xs.length = 4 := hlen
  have hc23 : Try.prog.cellsOf 23 = 5 := by kernel_rfl
  have hc24 : Try.prog.cellsOf 24 = 1 := by kernel_rfl
  have hc3 : Try.prog.cellsOf 3 = 1 := by kernel_rfl
  match cs, hl with
  | [k0, k1, k2, k3, k4, k5, k6, k7], _ =>
    match xs, hlen' with
    | [y0, y1, y2, y3], _ =>
      have h0 : DataW.trod enc Try.prog W base0 sp held n 23 [k0, k1, k2, k3, k4] = some y0 := by simpa [hc23, hc24, hc3] using hf 0 _ rfl
      obtain ⟨a0, s0, e0⟩ := trod_state h0
      have h1 : DataW.trod enc Try.prog W base0 sp held n 24 [k5] = some y1 := by simpa [hc23, hc24, hc3] using hf 1 _ rfl
      obtain ⟨B1, d1, a1, e1, g1a, g1b, g1c, g1d⟩ := trod_l24 h1
      have h2 : DataW.trod enc Try.prog W base0 sp held n 3 [k6] = some y2 := by simpa [hc23, hc24, hc3] using hf 2 _ rfl
      obtain ⟨a2, e2, _, w2⟩ := DataW.trod_int Try.underlying3 h2
      have h3 : DataW.trod enc Try.prog W base0 sp held n 3 [k7] = some y3 := by simpa [hc23, hc24, hc3] using hf 3 _ rfl
      obtain ⟨a3, e3, _, w3⟩ := DataW.trod_int Try.underlying3 h3
      simp only [List.cons.injEq, and_true] at e0 e1 e2 e3
      obtain ⟨rfl, rfl, rfl, rfl, rfl⟩ := e0
      subst e1
      subst e2
      subst e3
      exact ⟨B1, d1, ⟨a0, a1, a2, a3⟩, rfl, ⟨g1a, g1b, g1c⟩, s0, g1d, bounds_i64 w2, bounds_i64 w3⟩
theorem trod_Co {fuel : Nat} {cs : List Value} {y : DataW H × List MemPlace} (h : DataW.trod enc Try.prog W base0 sp held fuel 32 cs = some y) :
    ∃ A0 c0 A1 c1 A2 c2 A3 c3 A4 c4, ∃ x : Co, cs = [.int .i64 x.id, .int .i64 x.n, .int .u8 x.role, .int .i64 x.binary, .int .i64 x.tuple.snap.index, .int .i64 x.tuple.snap.term, .int .i64 x.tuple.snap.sum, .int .i64 x.tuple.snap.level, .bool x.tuple.snap.final, .slice A0 x.tuple.log.length c0, .int .i64 x.tuple.term, .int .i64 x.tuple.vote, .int .i64 x.commit, .int .i64 x.applied.index, .int .i64 x.applied.term, .int .i64 x.applied.sum, .int .i64 x.applied.level, .bool x.applied.final, .slice A1 x.votes.length c1, .slice A2 x.next.length c2, .slice A3 x.mtch.length c3, .slice A4 x.caps.length c4] ∧ (x.tuple.log.length ≤ c0 ∧ c0 ≤ maxLen ∧ Rd W A0 (encs enE x.tuple.log)) ∧ (x.votes.length ≤ c1 ∧ c1 ≤ maxLen ∧ Rd W A1 (encs enO x.votes)) ∧ (x.next.length ≤ c2 ∧ c2 ≤ maxLen ∧ Rd W A2 (encs enI x.next)) ∧ (x.mtch.length ≤ c3 ∧ c3 ≤ maxLen ∧ Rd W A3 (encs enI x.mtch)) ∧ (x.caps.length ≤ c4 ∧ c4 ≤ maxLen ∧ Rd W A4 (encs enI x.caps)) ∧ x.ok := by
  obtain ⟨xs, n, _, _, hl, hlen, hf⟩ := DataW.trod_struct Try.underlying32 h
  rw [show Try.prog.cellsOf 32 = 22 by kernel_rfl] at hl
  have hlen' : xs.length = 11 := hlen
  have hc3 : Try.prog.cellsOf 3 = 1 := by kernel_rfl
  have hc5 : Try.prog.cellsOf 5 = 1 := by kernel_rfl
  have hc26 : Try.prog.cellsOf 26 = 8 := by kernel_rfl
  have hc23 : Try.prog.cellsOf 23 = 5 := by kernel_rfl
  have hc29 : Try.prog.cellsOf 29 = 1 := by kernel_rfl
  have hc30 : Try.prog.cellsOf 30 = 1 := by kernel_rfl
  match cs, hl with
  | [k0, k1, k2, k3, k4, k5, k6, k7, k8, k9, k10, k11, k12, k13, k14, k15, k16, k17, k18, k19, k20, k21], _ =>
    match xs, hlen' with
    | [y0, y1, y2, y3, y4, y5, y6, y7, y8, y9, y10], _ =>
      have h0 : DataW.trod enc Try.prog W base0 sp held n 3 [k0] = some y0 := by simpa [hc3, hc5, hc26, hc23, hc29, hc30] using hf 0 _ rfl
      obtain ⟨a0, e0, _, w0⟩ := DataW.trod_int Try.underlying3 h0
      have h1 : DataW.trod enc Try.prog W base0 sp held n 3 [k1] = some y1 := by simpa [hc3, hc5, hc26, hc23, hc29, hc30] using hf 1 _ rfl
      obtain ⟨a1, e1, _, w1⟩ := DataW.trod_int Try.underlying3 h1
      have h2 : DataW.trod enc Try.prog W base0 sp held n 5 [k2] = some y2 := by simpa [hc3, hc5, hc26, hc23, hc29, hc30] using hf 2 _ rfl
      obtain ⟨a2, e2, _, w2⟩ := DataW.trod_int Try.underlying5 h2
      have h3 : DataW.trod enc Try.prog W base0 sp held n 3 [k3] = some y3 := by simpa [hc3, hc5, hc26, hc23, hc29, hc30] using hf 3 _ rfl
      obtain ⟨a3, e3, _, w3⟩ := DataW.trod_int Try.underlying3 h3
      have h4 : DataW.trod enc Try.prog W base0 sp held n 26 [k4, k5, k6, k7, k8, k9, k10, k11] = some y4 := by simpa [hc3, hc5, hc26, hc23, hc29, hc30] using hf 4 _ rfl
      obtain ⟨B4_0, d4_0, a4, e4, g4_0, s4⟩ := trod_Tu h4
      have h5 : DataW.trod enc Try.prog W base0 sp held n 3 [k12] = some y5 := by simpa [hc3, hc5, hc26, hc23, hc29, hc30] using hf 5 _ rfl
      obtain ⟨a5, e5, _, w5⟩ := DataW.trod_int Try.underlying3 h5
      have h6 : DataW.trod enc Try.prog W base0 sp held n 23 [k13, k14, k15, k16, k17] = some y6 := by simpa [hc3, hc5, hc26, hc23, hc29, hc30] using hf 6 _ rfl
      obtain ⟨a6, s6, e6⟩ := trod_state h6
      have h7 : DataW.trod enc Try.prog W base0 sp held n 29 [k18] = some y7 := by simpa [hc3, hc5, hc26, hc23, hc29, hc30] using hf 7 _ rfl
      obtain ⟨B7, d7, a7, e7, g7a, g7b, g7c, g7d⟩ := trod_l29 h7
      have h8 : DataW.trod enc Try.prog W base0 sp held n 30 [k19] = some y8 := by simpa [hc3, hc5, hc26, hc23, hc29, hc30] using hf 8 _ rfl
      obtain ⟨B8, d8, a8, e8, g8a, g8b, g8c, g8d⟩ := trod_l30 h8
      have h9 : DataW.trod enc Try.prog W base0 sp held n 30 [k20] = some y9 := by simpa [hc3, hc5, hc26, hc23, hc29, hc30] using hf 9 _ rfl
      obtain ⟨B9, d9, a9, e9, g9a, g9b, g9c, g9d⟩ := trod_l30 h9
      have h10 : DataW.trod enc Try.prog W base0 sp held n 30 [k21] = some y10 := by simpa [hc3, hc5, hc26, hc23, hc29, hc30] using hf 10 _ rfl
      obtain ⟨B10, d10, a10, e10, g10a, g10b, g10c, g10d⟩ := trod_l30 h10
      simp only [List.cons.injEq, and_true] at e0 e1 e2 e3 e4 e5 e6 e7 e8 e9 e10
      subst e0
      subst e1
      subst e2
      subst e3
      obtain ⟨rfl, rfl, rfl, rfl, rfl, rfl, rfl, rfl⟩ := e4
      subst e5
      obtain ⟨rfl, rfl, rfl, rfl, rfl⟩ := e6
      subst e7
      subst e8
      subst e9
      subst e10
      exact ⟨B4_0, d4_0, B7, d7, B8, d8, B9, d9, B10, d10, ⟨a0, a1, a2, a3, a4, a5, a6, a7, a8, a9, a10⟩, rfl, g4_0, ⟨g7a, g7b, g7c⟩, ⟨g8a, g8b, g8c⟩, ⟨g9a, g9b, g9c⟩, ⟨g10a, g10b, g10c⟩, bounds_i64 w0, bounds_i64 w1, bounds_u8 w2, bounds_i64 w3, s4, bounds_i64 w5, s6, g8d, g9d, g10d⟩
theorem open_Co {v : Value} {d : DataW H} {p : List MemPlace} (hval : Value.okWide Try.prog W .any base 32 v) (h1 : DataW.Trod enc Try.prog W base0 sp held 32 v d p) :
    ∃ A0 c0 A1 c1 A2 c2 A3 c3 A4 c4, ∃ x : Co, v = .agg #[.int .i64 x.id, .int .i64 x.n, .int .u8 x.role, .int .i64 x.binary, .int .i64 x.tuple.snap.index, .int .i64 x.tuple.snap.term, .int .i64 x.tuple.snap.sum, .int .i64 x.tuple.snap.level, .bool x.tuple.snap.final, .slice A0 x.tuple.log.length c0, .int .i64 x.tuple.term, .int .i64 x.tuple.vote, .int .i64 x.commit, .int .i64 x.applied.index, .int .i64 x.applied.term, .int .i64 x.applied.sum, .int .i64 x.applied.level, .bool x.applied.final, .slice A1 x.votes.length c1, .slice A2 x.next.length c2, .slice A3 x.mtch.length c3, .slice A4 x.caps.length c4] ∧ SlI W enE A0 c0 x.tuple.log ∧ SlI W enO A1 c1 x.votes ∧ SlI W enI A2 c2 x.next ∧ SlI W enI A3 c3 x.mtch ∧ SlI W enI A4 c4 x.caps ∧ x.ok := by
  obtain ⟨cs, rfl, hsz⟩ := okWide_struct Try.underlying32 hval
  obtain ⟨fuel, hf⟩ := h1
  obtain ⟨A0, c0, A1, c1, A2, c2, A3, c3, A4, c4, x, he, g0, g1, g2, g3, g4, hok⟩ := trod_Co hf
  simp only [Value.cells] at he
  obtain ⟨l⟩ := cs
  simp only at he
  subst he
  have b0 : ∀ a, A0 = some a → a.block < W.heap.size := fun a ha => by subst ha; exact okWide_part (i := 9) Try.underlying32 (by kernel_rfl : Try.prog.cellTypes Try.prog.depth 32 = some [3, 3, 5, 3, 3, 3, 3, 3, 4, 24, 3, 3, 3, 3, 3, 3, 3, 4, 29, 30, 30, 30]) rfl rfl Try.underlying24 hval rfl
  have b1 : ∀ a, A1 = some a → a.block < W.heap.size := fun a ha => by subst ha; exact okWide_part (i := 18) Try.underlying32 (by kernel_rfl : Try.prog.cellTypes Try.prog.depth 32 = some [3, 3, 5, 3, 3, 3, 3, 3, 4, 24, 3, 3, 3, 3, 3, 3, 3, 4, 29, 30, 30, 30]) rfl rfl Try.underlying29 hval rfl
  have b2 : ∀ a, A2 = some a → a.block < W.heap.size := fun a ha => by subst ha; exact okWide_part (i := 19) Try.underlying32 (by kernel_rfl : Try.prog.cellTypes Try.prog.depth 32 = some [3, 3, 5, 3, 3, 3, 3, 3, 4, 24, 3, 3, 3, 3, 3, 3, 3, 4, 29, 30, 30, 30]) rfl rfl Try.underlying30 hval rfl
  have b3 : ∀ a, A3 = some a → a.block < W.heap.size := fun a ha => by subst ha; exact okWide_part (i := 20) Try.underlying32 (by kernel_rfl : Try.prog.cellTypes Try.prog.depth 32 = some [3, 3, 5, 3, 3, 3, 3, 3, 4, 24, 3, 3, 3, 3, 3, 3, 3, 4, 29, 30, 30, 30]) rfl rfl Try.underlying30 hval rfl
  have b4 : ∀ a, A4 = some a → a.block < W.heap.size := fun a ha => by subst ha; exact okWide_part (i := 21) Try.underlying32 (by kernel_rfl : Try.prog.cellTypes Try.prog.depth 32 = some [3, 3, 5, 3, 3, 3, 3, 3, 4, 24, 3, 3, 3, 3, 3, 3, 3, 4, 29, 30, 30, 30]) rfl rfl Try.underlying30 hval rfl
  exact ⟨A0, c0, A1, c1, A2, c2, A3, c3, A4, c4, x, rfl, ⟨g0.1, g0.2.1, g0.2.2, b0⟩, ⟨g1.1, g1.2.1, g1.2.2, b1⟩, ⟨g2.1, g2.2.1, g2.2.2, b2⟩, ⟨g3.1, g3.2.1, g3.2.2, b3⟩, ⟨g4.1, g4.2.1, g4.2.2, b4⟩, hok⟩
theorem trod_Ms {fuel : Nat} {cs : List Value} {y : DataW H × List MemPlace} (h : DataW.trod enc Try.prog W base0 sp held fuel 39 cs = some y) :
    ∃ A0 c0, ∃ x : Ms, cs = [.int .u8 x.kind, .int .i64 x.frm, .int .i64 x.dst, .int .i64 x.term, .int .i64 x.cap, .int .i64 x.last, .int .i64 x.lastTerm, .int .i64 x.commit, .bool x.okk, .slice A0 x.entries.length c0, .int .i64 x.snap.index, .int .i64 x.snap.term, .int .i64 x.snap.sum, .int .i64 x.snap.level, .bool x.snap.final] ∧ (x.entries.length ≤ c0 ∧ c0 ≤ maxLen ∧ Rd W A0 (encs enE x.entries)) ∧ x.ok := by
  obtain ⟨xs, n, _, _, hl, hlen, hf⟩ := DataW.trod_struct Try.underlying39 h
  rw [show Try.prog.cellsOf 39 = 15 by kernel_rfl] at hl
  have hlen' : xs.length = 11 := hlen
  have hc5 : Try.prog.cellsOf 5 = 1 := by kernel_rfl
  have hc3 : Try.prog.cellsOf 3 = 1 := by kernel_rfl
  have hc4 : Try.prog.cellsOf 4 = 1 := by kernel_rfl
  have hc24 : Try.prog.cellsOf 24 = 1 := by kernel_rfl
  have hc23 : Try.prog.cellsOf 23 = 5 := by kernel_rfl
  match cs, hl with
  | [k0, k1, k2, k3, k4, k5, k6, k7, k8, k9, k10, k11, k12, k13, k14], _ =>
    match xs, hlen' with
    | [y0, y1, y2, y3, y4, y5, y6, y7, y8, y9, y10], _ =>
      have h0 : DataW.trod enc Try.prog W base0 sp held n 5 [k0] = some y0 := by simpa [hc5, hc3, hc4, hc24, hc23] using hf 0 _ rfl
      obtain ⟨a0, e0, _, w0⟩ := DataW.trod_int Try.underlying5 h0
      have h1 : DataW.trod enc Try.prog W base0 sp held n 3 [k1] = some y1 := by simpa [hc5, hc3, hc4, hc24, hc23] using hf 1 _ rfl
      obtain ⟨a1, e1, _, w1⟩ := DataW.trod_int Try.underlying3 h1
      have h2 : DataW.trod enc Try.prog W base0 sp held n 3 [k2] = some y2 := by simpa [hc5, hc3, hc4, hc24, hc23] using hf 2 _ rfl
      obtain ⟨a2, e2, _, w2⟩ := DataW.trod_int Try.underlying3 h2
      have h3 : DataW.trod enc Try.prog W base0 sp held n 3 [k3] = some y3 := by simpa [hc5, hc3, hc4, hc24, hc23] using hf 3 _ rfl
      obtain ⟨a3, e3, _, w3⟩ := DataW.trod_int Try.underlying3 h3
      have h4 : DataW.trod enc Try.prog W base0 sp held n 3 [k4] = some y4 := by simpa [hc5, hc3, hc4, hc24, hc23] using hf 4 _ rfl
      obtain ⟨a4, e4, _, w4⟩ := DataW.trod_int Try.underlying3 h4
      have h5 : DataW.trod enc Try.prog W base0 sp held n 3 [k5] = some y5 := by simpa [hc5, hc3, hc4, hc24, hc23] using hf 5 _ rfl
      obtain ⟨a5, e5, _, w5⟩ := DataW.trod_int Try.underlying3 h5
      have h6 : DataW.trod enc Try.prog W base0 sp held n 3 [k6] = some y6 := by simpa [hc5, hc3, hc4, hc24, hc23] using hf 6 _ rfl
      obtain ⟨a6, e6, _, w6⟩ := DataW.trod_int Try.underlying3 h6
      have h7 : DataW.trod enc Try.prog W base0 sp held n 3 [k7] = some y7 := by simpa [hc5, hc3, hc4, hc24, hc23] using hf 7 _ rfl
      obtain ⟨a7, e7, _, w7⟩ := DataW.trod_int Try.underlying3 h7
      have h8 : DataW.trod enc Try.prog W base0 sp held n 4 [k8] = some y8 := by simpa [hc5, hc3, hc4, hc24, hc23] using hf 8 _ rfl
      obtain ⟨a8, e8, _⟩ := DataW.trod_bool Try.underlying4 h8
      have h9 : DataW.trod enc Try.prog W base0 sp held n 24 [k9] = some y9 := by simpa [hc5, hc3, hc4, hc24, hc23] using hf 9 _ rfl
      obtain ⟨B9, d9, a9, e9, g9a, g9b, g9c, g9d⟩ := trod_l24 h9
      have h10 : DataW.trod enc Try.prog W base0 sp held n 23 [k10, k11, k12, k13, k14] = some y10 := by simpa [hc5, hc3, hc4, hc24, hc23] using hf 10 _ rfl
      obtain ⟨a10, s10, e10⟩ := trod_state h10
      simp only [List.cons.injEq, and_true] at e0 e1 e2 e3 e4 e5 e6 e7 e8 e9 e10
      subst e0
      subst e1
      subst e2
      subst e3
      subst e4
      subst e5
      subst e6
      subst e7
      subst e8
      subst e9
      obtain ⟨rfl, rfl, rfl, rfl, rfl⟩ := e10
      exact ⟨B9, d9, ⟨a0, a1, a2, a3, a4, a5, a6, a7, a8, a9, a10⟩, rfl, ⟨g9a, g9b, g9c⟩, bounds_u8 w0, bounds_i64 w1, bounds_i64 w2, bounds_i64 w3, bounds_i64 w4, bounds_i64 w5, bounds_i64 w6, bounds_i64 w7, g9d, s10⟩
theorem open_Ms {v : Value} {d : DataW H} {p : List MemPlace} (hval : Value.okWide Try.prog W .any base 39 v) (h1 : DataW.Trod enc Try.prog W base0 sp held 39 v d p) :
    ∃ A0 c0, ∃ x : Ms, v = .agg #[.int .u8 x.kind, .int .i64 x.frm, .int .i64 x.dst, .int .i64 x.term, .int .i64 x.cap, .int .i64 x.last, .int .i64 x.lastTerm, .int .i64 x.commit, .bool x.okk, .slice A0 x.entries.length c0, .int .i64 x.snap.index, .int .i64 x.snap.term, .int .i64 x.snap.sum, .int .i64 x.snap.level, .bool x.snap.final] ∧ SlI W enE A0 c0 x.entries ∧ x.ok := by
  obtain ⟨cs, rfl, hsz⟩ := okWide_struct Try.underlying39 hval
  obtain ⟨fuel, hf⟩ := h1
  obtain ⟨A0, c0, x, he, g0, hok⟩ := trod_Ms hf
  simp only [Value.cells] at he
  obtain ⟨l⟩ := cs
  simp only at he
  subst he
  have b0 : ∀ a, A0 = some a → a.block < W.heap.size := fun a ha => by subst ha; exact okWide_part (i := 9) Try.underlying39 (by kernel_rfl : Try.prog.cellTypes Try.prog.depth 39 = some [5, 3, 3, 3, 3, 3, 3, 3, 4, 24, 3, 3, 3, 3, 4]) rfl rfl Try.underlying24 hval rfl
  exact ⟨A0, c0, x, rfl, ⟨g0.1, g0.2.1, g0.2.2, b0⟩, hok⟩
end
end Go.Proofs.Ytohkkncfofomdaa
/- Plain laws of what printed functions compute: small numbers, places of lists. -/
namespace Go.Proofs.Ytohkkncfofomdaa
open Go Go.RowKit
set_option maxRecDepth 100000
theorem w64i {n : Int} (h : -9223372036854775808 ≤ n ∧ n ≤ 9223372036854775807) : IntKind.wrap .i64 n = n := i64_in' h
theorem idx_nat {α : Type} (l : List α) (k : Nat) : idx l (k : Int) = l[k]? := by unfold idx; simp
theorem takeI_nat {α : Type} (l : List α) (k : Nat) (h : k ≤ l.length) : takeI l (k : Int) = some (l.take k) := by unfold takeI; rw [if_pos (by omega)]; simp
theorem fewI_ok {α : Type} (l : List α) (h : l.length ≤ 1000000000) : fewI l = some l := if_pos h
theorem drop_step {α : Type} {l : List α} {k : Nat} (h : k < l.length) : ∃ e, l[k]? = some e ∧ l.drop k = e :: l.drop (k + 1) := ⟨l[k], List.getElem?_eq_getElem h, List.drop_eq_getElem_cons h⟩
theorem snap_eq (a b : St) : (decide (a.index = b.index) && (decide (a.term = b.term) && (decide (a.sum = b.sum) && (decide (a.level = b.level) && decide (a.final = b.final))))) = decide (a = b) := by
  obtain ⟨a1, a2, a3, a4, a5⟩ := a; obtain ⟨b1, b2, b3, b4, b5⟩ := b
  rw [Bool.eq_iff_iff]; simp
theorem en_eq (a b : En) : (decide (a.term = b.term) && (decide (a.kind = b.kind) && decide (a.value = b.value))) = decide (a = b) := by
  obtain ⟨a1, a2, a3⟩ := a; obtain ⟨b1, b2, b3⟩ := b
  rw [Bool.eq_iff_iff]; simp
end Go.Proofs.Ytohkkncfofomdaa
/- Iterators: what was heard. -/
namespace Go.Proofs.Ytohkkncfofomdaa
open Go Go.RowKit
set_option maxRecDepth 100000
def m_it_caps (x0 : Co) : Option (List (Int × Int)) := if x0.caps.length ≤ 1000000 then some (x0.caps.mapIdx fun i n => ((i : Int) + 1, n)) else none
theorem it_caps (x0 : Co) {A0 A1 A2 A3 A4 : Option Addr} {c0 c1 c2 c3 c4 : Nat} (wB wM w : World) (s4 : SlI wB enI A4 c4 x0.caps) (hB0 : Below wB.heap.size wB wM) (b : Nat) (hN : St0 All wM w [.box b [.int .i64 x0.id, .int .i64 x0.n, .int .u8 x0.role, .int .i64 x0.binary, .int .i64 x0.tuple.snap.index, .int .i64 x0.tuple.snap.term, .int .i64 x0.tuple.snap.sum, .int .i64 x0.tuple.snap.level, .bool x0.tuple.snap.final, .slice A0 x0.tuple.log.length c0, .int .i64 x0.tuple.term, .int .i64 x0.tuple.vote, .int .i64 x0.commit, .int .i64 x0.applied.index, .int .i64 x0.applied.term, .int .i64 x0.applied.sum, .int .i64 x0.applied.level, .bool x0.applied.final, .slice A1 x0.votes.length c1, .slice A2 x0.next.length c2, .slice A3 x0.mtch.length c3, .slice A4 x0.caps.length c4] 32]) {xs : List (Int × Int)} (H : m_it_caps x0 = some xs) :
    IterP Try.prog 94 #[.pointer (some ⟨b, 0, none⟩)] (fun p : Int × Int => [Value.int .i64 p.1, .int .i64 p.2].toArray) xs wB.heap.size wM.heap.size w := by
  unfold m_it_caps at H
  split at H
  case isFalse => cases H
  rename_i hl9
  obtain rfl := Option.some.inj H
  obtain ⟨hb, hbM, hbl⟩ := hN.cap
  have hA : Rd w A4 (encs enI x0.caps) := (s4.rd.below hB0).below hN.pure
  have hAn := s4.blk
  have hlc := s4.k
  intro lo J Jx Jp W hW hJ hJx hJp hy h0
  have hbW : W.heap[b]? = some (.cells #[.int .i64 x0.id, .int .i64 x0.n, .int .u8 x0.role, .int .i64 x0.binary, .int .i64 x0.tuple.snap.index, .int .i64 x0.tuple.snap.term, .int .i64 x0.tuple.snap.sum, .int .i64 x0.tuple.snap.level, .bool x0.tuple.snap.final, .slice A0 x0.tuple.log.length c0, .int .i64 x0.tuple.term, .int .i64 x0.tuple.vote, .int .i64 x0.commit, .int .i64 x0.applied.index, .int .i64 x0.applied.term, .int .i64 x0.applied.sum, .int .i64 x0.applied.level, .bool x0.applied.final, .slice A1 x0.votes.length c1, .slice A2 x0.next.length c2, .slice A3 x0.mtch.length c3, .slice A4 x0.caps.length c4] 32) := (hW.block b hbl).trans hb
  have hAW := hA.below hW
  show Calls _ _ #[_, _] _ _
  refine gw_enter2 Try.func94 rfl Try.ntmps94 rfl ?_
  have hS := St0.start All W
  repeat (first | apply wpS_nil | (apply QH_seq_k; assumption) | (apply wpC_seq_k; intro K hK) | apply wpC_region | (apply wpS_g; refine wpS_put rfl rfl rfl (by first | exact yv_move rfl | exact yv_fieldAddr (by first | exact fo_23_0 | exact fo_32_10) rfl | (apply yv_g_load; first | exact yv_load_ob (by first | exact sc_30) rfl (RW.here _) hS (by first | trivial) (by first | trivial) (by assumption) (by repeat (first | exact Seg.here (Pre.succ Pre.zero) | apply Seg.succ))) | (apply yv_g_bi; first | exact yv_len (by first | exact el_30) rfl)) ?_) | apply wpC_block)
  refine wpC_loop (X := Nat) (fun k => [(8, .int .i64 k), (7, .int .i64 x0.caps.length), (6, .slice A4 x0.caps.length c4), (1, .pointer (some ⟨b, 0, none⟩)), (0, .func (.yield lo) #[] #[])])
    (fun k B => k ≤ x0.caps.length ∧ J k B ∧ Rd B A4 (encs enI x0.caps) ∧ w.heap.size ≤ B.heap.size) (fun k => x0.caps.length - k) 0 (by repeat (first | exact Sub.nil | refine Sub.cons rfl ?_)) ⟨Nat.zero_le _, h0, hAW, hW.size⟩ ?_
  rintro k B ⟨hk, hJk, hAB, hz⟩
  clear hbW hAW hS h0
  have hS := St0.start All B
  rcases Nat.lt_or_ge k x0.caps.length with hlt | hge
  · obtain ⟨e, he, _⟩ := drop_step hlt
    have hEl := Rd.el hAB he_enI he
    repeat (first | (apply wpC_seq_k; intro K hK))
    apply wpC_region
    repeat (first | apply wpS_nil | (apply QH_seq_k; assumption) | (apply wpC_seq_k; intro K hK) | (apply wpS_g; refine wpS_put rfl rfl rfl (by first | (apply yv_g_bin; first | exact yv_lss_t rfl rfl (by omega))) ?_) | apply wpC_cond_t rfl rfl | apply wpC_skip | apply wpC_block)
    apply wpC_region
    repeat (first | apply wpS_nil | (apply QH_seq_k; assumption) | (apply wpC_seq_k; intro K hK) | (apply wpS_g; refine wpS_put rfl rfl rfl (by first | exact yx_idx (by first | exact el_29 | exact el_30) rfl rfl rfl hlt hEl | exact yx_ld0 (by first | exact sc_1 | exact sc_3) rfl (RW.here _) hEl rfl | exact yv_move rfl | exact yv_assign rfl) ?_))
    refine wpC_regionY 4 (by repeat (first | exact NL.body (by intro _ h; simp at h) | apply NL.then | apply NL.inBlock)) (by kernel_rfl) ?_
    dsimp only [List.take, List.drop]
    repeat (first | apply wpS_nil | (apply wpS_g; refine wpS_put rfl rfl rfl (by first | exact yv_move rfl | (apply yv_g_bin; first | exact yv_add rfl rfl (by omega))) ?_))
    refine QH_Y ?_
    have hk1 : KeepB All B B := hS.base
    refine wpSI_yield rfl rfl rfl rfl (hy k ((k : Int) + 1, e) B (by simp [he]) (hJ k B B hJk (hk1.sub fun _ _ _ => trivial)) (Nat.le_trans hz hk1.size)) ?_
    rintro ex w2 (⟨rfl, hJ2, hk2⟩ | ⟨rfl, hJ2, hk2⟩ | ⟨ch, rfl, hJ2⟩)
    · refine .inl ⟨_, rfl, wpSI_rest (by repeat (first | exact NL.body (by intro _ h; simp at h) | apply NL.then | apply NL.inBlock)) (by kernel_rfl) ?_⟩
      have hS := St0.start All w2
      repeat (first | apply wpS_nil | (apply QH_seq_k; assumption) | apply wpC_region | (apply wpS_g; refine wpS_put rfl rfl rfl (by first | exact yv_move rfl | (apply yv_g_bin; first | exact yv_add rfl rfl (by omega)) | exact yv_not rfl) ?_) | apply wpC_cond_f rfl rfl | apply wpC_skip | apply QH_block_normal)
      refine QH_again (k + 1) (by repeat (first | exact Sub.nil | refine Sub.cons rfl ?_)) ⟨hlt, hJ2, ?_, ?_⟩ (by show x0.caps.length - (k + 1) < x0.caps.length - k; omega)
      · exact hk2.rd (hk1.rd hAB (fun _ _ => trivial)) (fun p hp => .inl (hAn p hp))
      · exact Nat.le_trans hz (Nat.le_trans hk1.size hk2.size)
    · refine .inl ⟨_, rfl, wpSI_rest (by repeat (first | exact NL.body (by intro _ h; simp at h) | apply NL.then | apply NL.inBlock)) (by kernel_rfl) ?_⟩
      have hS := St0.start All w2
      repeat (first | apply wpS_nil | (apply QH_seq_k; assumption) | (apply wpS_g; refine wpS_put rfl rfl rfl (by first | exact yv_not rfl) ?_) | apply wpC_cond_t rfl rfl | apply wpC_ret | apply QH_then_ret | apply QH_block_ret)
      refine QH_ret rfl (by first | exact RV.nil) rfl ?_
      exact .inl ⟨⟨_, rfl⟩, .inr hJ2⟩
    · refine .inr ⟨ch, rfl, ?_⟩
      repeat (first | apply QH_then_panic | apply QH_block_panic)
      exact QH_panic rfl (.inr ⟨ch, rfl, hJ2⟩)
  · obtain rfl : k = x0.caps.length := by omega
    repeat (first | apply wpS_nil | (apply QH_seq_k; assumption) | (apply wpC_seq_k; intro K hK) | apply wpC_region | (apply wpS_g; refine wpS_put rfl rfl rfl (by first | (apply yv_g_bin; first | exact yv_lss_f rfl rfl (by omega))) ?_) | apply wpC_cond_f rfl rfl | apply wpC_exit | apply QH_then_exit | apply QH_block_hit)
    refine QH_end rfl (by first | exact RV.nil) rfl ?_
    refine .inl ⟨⟨_, rfl⟩, .inl ?_⟩
    rw [List.length_mapIdx]
    exact hJ _ _ _ hJk (hS.base.sub fun _ _ _ => trivial)
end Go.Proofs.Ytohkkncfofomdaa
/- What functions compute, in plain terms; printed. -/
namespace Go.Proofs.Ytohkkncfofomdaa
open Go Go.RowKit
set_option maxRecDepth 100000
def m_ref06_number (x0 : Int) : Option (Bool) :=
  cond (decide (0 ≤ x0))
   (
    some (decide (x0 ≤ 1073741824)))
   (
    some false)
def m_ref06_First : Option (St) :=
  some (⟨0, 0, 0, 1, false⟩ : St)
def m_ref06_Fine (x0 : St) : Option (Bool) :=
  (m_ref06_number x0.index).bind fun r6 =>
  cond (!r6)
   (
    some false)
   (
    (m_ref06_number x0.term).bind fun r9 =>
    cond (!r9)
     (
      some false)
     (
      (m_ref06_number x0.sum).bind fun r12 =>
      cond (!r12)
       (
        some false)
       (
        cond (decide ((decide (x0.term = 0)) ≠ (decide (x0.index = 0))))
         (
          some false)
         (
          cond (decide (x0.level ≠ 1))
           (
            cond (decide (x0.level ≠ 2))
             (
              some false)
             (
              cond x0.final
               (
                cond (decide (x0.level ≠ 2))
                 (
                  some false)
                 (
                  cond (decide (0 < x0.index))
                   (
                    some true)
                   (
                    (m_ref06_First).bind fun r19 =>
                    some (decide (x0.index = r19.index) && (decide (x0.term = r19.term) && (decide (x0.sum = r19.sum) && (decide (x0.level = r19.level) && (decide (x0.final = r19.final)))))))))
               (
                cond (decide (0 < x0.index))
                 (
                  some true)
                 (
                  (m_ref06_First).bind fun r22 =>
                  some (decide (x0.index = r22.index) && (decide (x0.term = r22.term) && (decide (x0.sum = r22.sum) && (decide (x0.level = r22.level) && (decide (x0.final = r22.final))))))))))
           (
            cond x0.final
             (
              cond (decide (x0.level ≠ 2))
               (
                some false)
               (
                cond (decide (0 < x0.index))
                 (
                  some true)
                 (
                  (m_ref06_First).bind fun r26 =>
                  some (decide (x0.index = r26.index) && (decide (x0.term = r26.term) && (decide (x0.sum = r26.sum) && (decide (x0.level = r26.level) && (decide (x0.final = r26.final)))))))))
             (
              cond (decide (0 < x0.index))
               (
                some true)
               (
                (m_ref06_First).bind fun r29 =>
                some (decide (x0.index = r29.index) && (decide (x0.term = r29.term) && (decide (x0.sum = r29.sum) && (decide (x0.level = r29.level) && (decide (x0.final = r29.final)))))))))))))
def m_ref06_Right (x0 : En) : Option (Bool) :=
  cond (decide (1 ≤ x0.term))
   (
    (m_ref06_number x0.term).bind fun r5 =>
    cond r5
     (
      cond (decide (0 ≤ x0.kind))
       (
        cond (decide (x0.kind < 5))
         (
          (m_ref06_number x0.value).bind fun r7 =>
          cond r7
           (
            cond (decide (x0.kind = 1))
             (
              some true)
             (
              some (decide (x0.value = 0))))
           (
            some false))
         (
          some false))
       (
        some false))
     (
      some false))
   (
    some false)
def m_ref12_Right_l1 (x0 : Tu) : Nat → Bool → Int → Int → Option (Bool)
  | 0, _, _, _ => none
  | n + 1, v16, v17, v18 =>
      cond (decide (v18 < (x0.log.length : Int)))
       (
        (idx x0.log v18).bind fun e24 =>
        (m_ref06_Right e24).bind fun r27 =>
        cond (!r27)
         (
          some false)
         (
          (idx x0.log v18).bind fun e30 =>
          cond (decide (e30.term < v17))
           (
            some false)
           (
            (idx x0.log v18).bind fun e34 =>
            m_ref12_Right_l1 x0 n v16 e34.term (IntKind.wrap .i64 (v18 + 1)))))
       (
        cond (decide (v17 ≤ x0.term))
         (
          cond (decide (0 ≤ x0.term))
           (
            some (decide (x0.term ≤ 1073741824)))
           (
            some false))
         (
          some false))
def m_ref12_Right (x0 : Tu) : Option (Bool) :=
  (m_ref06_Fine x0.snap).bind fun r6 =>
  cond (!r6)
   (
    some false)
   (
    cond (decide (1073740824 < x0.snap.index))
     (
      some false)
     (
      cond (decide (200 < (x0.log.length : Int)))
       (
        some false)
       (
        cond (decide (x0.vote < 0))
         (
          some false)
         (
          cond (decide (5 < x0.vote))
           (
            some false)
           (
            m_ref12_Right_l1 x0 fuelN false x0.snap.term 0)))))
def m_ref12_First : Option (Tu) :=
  (m_ref06_First).bind fun r5 =>
  some (⟨r5, [], 0, 0⟩ : Tu)
def m_msg_within (x0 : Int) (x1 : Int) (x2 : Int) : Option (Bool) :=
  cond (decide (x1 ≤ x0))
   (
    some (decide (x0 ≤ x2)))
   (
    some false)
def m_slices_Clone___api_Entry_api_Entry_ (x0 : List En) : Option (List En) := fewI x0
def m_tuple_Own (x0 : Tu) : Option (Tu) :=
  (m_slices_Clone___api_Entry_api_Entry_ x0.log).bind fun r7 =>
  some (⟨x0.snap, r7, x0.term, x0.vote⟩ : Tu)
def m_tuple_Last (x0 : Tu) : Option (Int) :=
  some (IntKind.wrap .i64 (x0.snap.index + (x0.log.length : Int)))
def m_entry_First : Option (St) :=
  some (⟨0, 0, 0, 1, false⟩ : St)
def m_entry_number (x0 : Int) : Option (Bool) :=
  cond (decide (0 ≤ x0))
   (
    some (decide (x0 ≤ 1073741824)))
   (
    some false)
def m_entry_Fine (x0 : St) : Option (Bool) :=
  cond (decide (x0.index = 0))
   (
    (m_entry_First).bind fun r7 =>
    some (decide (x0.index = r7.index) && (decide (x0.term = r7.term) && (decide (x0.sum = r7.sum) && (decide (x0.level = r7.level) && (decide (x0.final = r7.final)))))))
   (
    cond x0.final
     (
      cond (decide (x0.level = 2))
       (
        (m_entry_number x0.index).bind fun r11 =>
        cond r11
         (
          cond (decide (0 < x0.term))
           (
            (m_entry_number x0.term).bind fun r13 =>
            cond r13
             (
              (m_entry_number x0.sum).bind fun r15 =>
              some r15)
             (
              some false))
           (
            some false))
         (
          some false))
       (
        some false))
     (
      cond (decide (x0.level = 1))
       (
        (m_entry_number x0.index).bind fun r18 =>
        cond r18
         (
          cond (decide (0 < x0.term))
           (
            (m_entry_number x0.term).bind fun r20 =>
            cond r20
             (
              (m_entry_number x0.sum).bind fun r22 =>
              some r22)
             (
              some false))
           (
            some false))
         (
          some false))
       (
        cond (decide (x0.level = 2))
         (
          (m_entry_number x0.index).bind fun r24 =>
          cond r24
           (
            cond (decide (0 < x0.term))
             (
              (m_entry_number x0.term).bind fun r26 =>
              cond r26
               (
                (m_entry_number x0.sum).bind fun r28 =>
                some r28)
               (
                some false))
             (
              some false))
           (
            some false))
         (
          some false))))
def m_msg_each_l1 (x0 : List Int) (x2 : Int) (x3 : Int) : Nat → Int → Int → Option (Bool)
  | 0, _, _ => none
  | n + 1, v12, v13 =>
      cond (decide (v13 < (x0.length : Int)))
       (
        (idx x0 v13).bind fun e19 =>
        (m_msg_within e19 x2 x3).bind fun r24 =>
        cond (!r24)
         (
          some (!(decide (0 ≤ v13))))
         (
          m_msg_each_l1 x0 x2 x3 n v12 (IntKind.wrap .i64 (v13 + 1))))
       (
        some (!(decide (0 ≤ (-1)))))
def m_msg_each (x0 : List Int) (x1 : Int) (x2 : Int) (x3 : Int) : Option (Bool) :=
  cond (decide ((x0.length : Int) = x1))
   (
    m_msg_each_l1 x0 x2 x3 fuelN 0 0)
   (
    some false)
def m_msg_Right (x0 : Co) : Option (Bool) :=
  (m_tuple_Last x0.tuple).bind fun r5 =>
  (m_msg_within x0.n 1 5).bind fun r18 =>
  cond r18
   (
    (m_msg_within x0.id 1 x0.n).bind fun r20 =>
    cond (!r20)
     (
      some false)
     (
      cond (decide (x0.role ≤ 2))
       (
        (m_msg_within x0.binary 1 2).bind fun r30 =>
        cond r30
         (
          (m_tuple_Right x0.tuple).bind fun r32 =>
          cond (!r32)
           (
            some false)
           (
            (m_tuple_State x0.tuple x0.commit).bind fun r42 =>
            cond r42.2
             (
              cond (!(decide (r42.1.index = x0.applied.index) && (decide (r42.1.term = x0.applied.term) && (decide (r42.1.sum = x0.applied.sum) && (decide (r42.1.level = x0.applied.level) && (decide (r42.1.final = x0.applied.final)))))))
               (
                some false)
               (
                cond (decide ((x0.votes.length : Int) = x0.n))
                 (
                  (m_msg_each x0.next x0.n 1 (IntKind.wrap .i64 (r5 + 1))).bind fun r55 =>
                  cond r55
                   (
                    (m_msg_each x0.mtch x0.n 0 r5).bind fun r57 =>
                    cond (!r57)
                     (
                      some false)
                     (
                      (m_msg_each x0.caps x0.n 0 2).bind fun r67 =>
                      cond r67
                       (
                        (idx x0.caps (IntKind.wrap .i64 (x0.id - 1))).bind fun e69 =>
                        cond (!(decide (e69 = x0.binary)))
                         (
                          some false)
                         (
                          cond (decide (x0.role = 0))
                           (
                            some true)
                           (
                            cond (decide (0 < x0.tuple.term))
                             (
                              cond (!(decide (x0.tuple.vote = x0.id)))
                               (
                                some false)
                               (
                                some true))
                             (
                              some false))))
                       (
                        some false)))
                   (
                    some false))
                 (
                  some false)))
             (
              some false)))
         (
          some false))
       (
        some false)))
   (
    some false)
def m_slices_Clone___bool_bool_ (x0 : List Bool) : Option (List Bool) := fewI x0
def m_slices_Clone___int_int_ (x0 : List Int) : Option (List Int) := fewI x0
def m_msg_Own (x0 : Co) : Option (Co) :=
  (m_tuple_Own x0.tuple).bind fun r7 =>
  (m_slices_Clone___bool_bool_ x0.votes).bind fun r14 =>
  (m_slices_Clone___int_int_ x0.next).bind fun r20 =>
  (m_slices_Clone___int_int_ x0.mtch).bind fun r26 =>
  (m_slices_Clone___int_int_ x0.caps).bind fun r32 =>
  some (⟨x0.id, x0.n, x0.role, x0.binary, r7, x0.commit, x0.applied, r14, r20, r26, r32⟩ : Co)
def m_msg_entries_l1 (x0 : Ms) : Nat → Bool → Int → Int → Option (Bool)
  | 0, _, _, _ => none
  | n + 1, v7, v8, v9 =>
      cond (decide (v9 < (x0.entries.length : Int)))
       (
        (idx x0.entries v9).bind fun e14 =>
        (m_entry_Right e14).bind fun r21 =>
        cond (!r21)
         (
          some false)
         (
          (m_msg_within e14.term v8 x0.term).bind fun r24 =>
          cond (!r24)
           (
            some false)
           (
            m_msg_entries_l1 x0 n v7 e14.term (IntKind.wrap .i64 (v9 + 1)))))
       (
        some (decide ((x0.entries.length : Int) ≤ 4)))
def m_msg_entries (x0 : Ms) : Option (Bool) :=
  m_msg_entries_l1 x0 fuelN false x0.lastTerm 0
def m_msg_Fine (x0 : Ms) (x1 : Int) : Option (Bool) :=
  (m_msg_within x1 1 5).bind fun r6 =>
  cond (!r6)
   (
    some false)
   (
    (m_msg_each ([x0.frm, x0.dst] : List Int) 2 1 x1).bind fun r12 =>
    cond (!r12)
     (
      some false)
     (
      cond (decide (x0.frm = x0.dst))
       (
        some false)
       (
        (m_msg_within (IntKind.wrap .i64 x0.kind) 1 5).bind fun r20 =>
        cond (!r20)
         (
          some false)
         (
          (m_msg_within x0.term 1 1073741824).bind fun r24 =>
          cond (!r24)
           (
            some false)
           (
            (m_msg_within x0.cap 1 2).bind fun r28 =>
            cond (!r28)
             (
              some false)
             (
              (m_msg_each ([x0.last, x0.lastTerm, x0.commit] : List Int) 3 0 1073741824).bind fun r36 =>
              cond (!r36)
               (
                some false)
               (
                (m_msg_entries x0).bind fun r40 =>
                cond (!r40)
                 (
                  some false)
                 (
                  cond (decide (x0.kind ≠ 3))
                   (
                    cond (decide (0 < (x0.entries.length : Int)))
                     (
                      some false)
                     (
                      cond (decide (0 < x0.commit))
                       (
                        some false)
                       (
                        cond x0.okk
                         (
                          cond (decide (x0.kind ≠ 2))
                           (
                            cond (decide (x0.kind ≠ 4))
                             (
                              some false)
                             (
                              cond (decide (x0.kind = 5))
                               (
                                cond (decide (0 < x0.snap.index))
                                 (
                                  (m_entry_Fine x0.snap).bind fun r57 =>
                                  some r57)
                                 (
                                  some false))
                               (
                                some (decide (x0.snap.index = 0) && (decide (x0.snap.term = 0) && (decide (x0.snap.sum = 0) && (decide (x0.snap.level = 0) && (decide (x0.snap.final = false)))))))))
                           (
                            cond (decide (x0.kind = 5))
                             (
                              cond (decide (0 < x0.snap.index))
                               (
                                (m_entry_Fine x0.snap).bind fun r64 =>
                                some r64)
                               (
                                some false))
                             (
                              some (decide (x0.snap.index = 0) && (decide (x0.snap.term = 0) && (decide (x0.snap.sum = 0) && (decide (x0.snap.level = 0) && (decide (x0.snap.final = false)))))))))
                         (
                          cond (decide (x0.kind = 5))
                           (
                            cond (decide (0 < x0.snap.index))
                             (
                              (m_entry_Fine x0.snap).bind fun r71 =>
                              some r71)
                             (
                              some false))
                           (
                            some (decide (x0.snap.index = 0) && (decide (x0.snap.term = 0) && (decide (x0.snap.sum = 0) && (decide (x0.snap.level = 0) && (decide (x0.snap.final = false)))))))))))
                   (
                    cond x0.okk
                     (
                      cond (decide (x0.kind ≠ 2))
                       (
                        cond (decide (x0.kind ≠ 4))
                         (
                          some false)
                         (
                          cond (decide (x0.kind = 5))
                           (
                            cond (decide (0 < x0.snap.index))
                             (
                              (m_entry_Fine x0.snap).bind fun r82 =>
                              some r82)
                             (
                              some false))
                           (
                            some (decide (x0.snap.index = 0) && (decide (x0.snap.term = 0) && (decide (x0.snap.sum = 0) && (decide (x0.snap.level = 0) && (decide (x0.snap.final = false)))))))))
                       (
                        cond (decide (x0.kind = 5))
                         (
                          cond (decide (0 < x0.snap.index))
                           (
                            (m_entry_Fine x0.snap).bind fun r89 =>
                            some r89)
                           (
                            some false))
                         (
                          some (decide (x0.snap.index = 0) && (decide (x0.snap.term = 0) && (decide (x0.snap.sum = 0) && (decide (x0.snap.level = 0) && (decide (x0.snap.final = false)))))))))
                     (
                      cond (decide (x0.kind = 5))
                       (
                        cond (decide (0 < x0.snap.index))
                         (
                          (m_entry_Fine x0.snap).bind fun r96 =>
                          some r96)
                         (
                          some false))
                       (
                        some (decide (x0.snap.index = 0) && (decide (x0.snap.term = 0) && (decide (x0.snap.sum = 0) && (decide (x0.snap.level = 0) && (decide (x0.snap.final = false)))))))))))))))))
def m_ref12_Last (x0 : Tu) : Option (Int) :=
  some (IntKind.wrap .i64 (x0.snap.index + (x0.log.length : Int)))
def m_ref06_Next (x0 : St) (x1 : En) : Option (St) :=
  (m_ref06_Right x1).bind fun r10 =>
  cond (!r10)
   (
    some x0)
   (
    (m_ref06_Fine x0).bind fun r13 =>
    cond (!r13)
     (
      some x0)
     (
      cond (decide (1073741824 ≤ x0.index))
       (
        some x0)
       (
        cond (decide (x1.kind = 1))
         (
          some (⟨(IntKind.wrap .i64 (x0.index + 1)), x1.term, (Int.tmod (IntKind.wrap .i64 ((IntKind.wrap .i64 ((IntKind.wrap .i64 (31 * x0.sum)) + x1.value)) + 1)) 1073741824), x0.level, x0.final⟩ : St))
         (
          cond (decide (x1.kind = 2))
           (
            some (⟨(IntKind.wrap .i64 (x0.index + 1)), x1.term, x0.sum, 2, x0.final⟩ : St))
           (
            cond (decide (x1.kind = 3))
             (
              cond (!x0.final)
               (
                some (⟨(IntKind.wrap .i64 (x0.index + 1)), x1.term, x0.sum, 1, x0.final⟩ : St))
               (
                some (⟨(IntKind.wrap .i64 (x0.index + 1)), x1.term, x0.sum, x0.level, x0.final⟩ : St)))
             (
              cond (decide (x1.kind = 4))
               (
                some (⟨(IntKind.wrap .i64 (x0.index + 1)), x1.term, x0.sum, x0.level, (decide (x0.level = 2))⟩ : St))
               (
                some (⟨(IntKind.wrap .i64 (x0.index + 1)), x1.term, x0.sum, x0.level, x0.final⟩ : St))))))))
def m_ref06_All_l1 (x1 : List En) : Nat → Int → Int → Int → Int → Int → Bool → Option (St)
  | 0, _, _, _, _, _, _ => none
  | n + 1, v8, v9, v10, v11, v12, v13 =>
      cond (decide (v8 < (x1.length : Int)))
       (
        (idx x1 v8).bind fun e17 =>
        (m_ref06_Next (⟨v9, v10, v11, v12, v13⟩ : St) e17).bind fun r20 =>
        m_ref06_All_l1 x1 n (IntKind.wrap .i64 (v8 + 1)) r20.index r20.term r20.sum r20.level r20.final)
       (
        some (⟨v9, v10, v11, v12, v13⟩ : St))
def m_ref06_All (x0 : St) (x1 : List En) : Option (St) :=
  m_ref06_All_l1 x1 fuelN 0 x0.index x0.term x0.sum x0.level x0.final
def m_ref12_State (x0 : Tu) (x1 : Int) : Option (St × Bool) :=
  cond (decide (x1 < x0.snap.index))
   (
    some ((⟨0, 0, 0, 0, false⟩ : St), false))
   (
    (m_ref12_Last x0).bind fun r9 =>
    cond (decide (r9 < x1))
     (
      some ((⟨0, 0, 0, 0, false⟩ : St), false))
     (
      (takeI x0.log (IntKind.wrap .i64 (x1 - x0.snap.index))).bind fun l13 =>
      (m_ref06_All x0.snap l13).bind fun r15 =>
      some (r15, true)))
def m_ref20_Right_l1 (x0 : Co) (r30 : Int) : Nat → Bool → Int → Option (Bool)
  | 0, _, _ => none
  | n + 1, v34, v35 =>
      cond (decide (v35 < x0.n))
       (
        (idx x0.next v35).bind fun e40 =>
        cond (decide (e40 < 1))
         (
          some false)
         (
          (idx x0.next v35).bind fun e44 =>
          cond (decide ((IntKind.wrap .i64 (r30 + 1)) < e44))
           (
            some false)
           (
            (idx x0.mtch v35).bind fun e48 =>
            cond (decide (e48 < 0))
             (
              some false)
             (
              (idx x0.mtch v35).bind fun e52 =>
              cond (decide (r30 < e52))
               (
                some false)
               (
                (idx x0.caps v35).bind fun e56 =>
                cond (decide (e56 < 0))
                 (
                  some false)
                 (
                  (idx x0.caps v35).bind fun e60 =>
                  cond (decide (2 < e60))
                   (
                    some false)
                   (
                    m_ref20_Right_l1 x0 r30 n v34 (IntKind.wrap .i64 (v35 + 1)))))))))
       (
        cond (decide (x0.role ≠ 0))
         (
          cond (decide (x0.tuple.term < 1))
           (
            some false)
           (
            cond (decide (x0.tuple.vote ≠ x0.id))
             (
              some false)
             (
              (idx x0.caps (IntKind.wrap .i64 (x0.id - 1))).bind fun e69 =>
              some (decide (e69 = x0.binary)))))
         (
          (idx x0.caps (IntKind.wrap .i64 (x0.id - 1))).bind fun e73 =>
          some (decide (e73 = x0.binary))))
def m_ref20_Right (x0 : Co) : Option (Bool) :=
  cond (decide (x0.n < 1))
   (
    some false)
   (
    cond (decide (5 < x0.n))
     (
      some false)
     (
      cond (decide (x0.id < 1))
       (
        some false)
       (
        cond (decide (x0.n < x0.id))
         (
          some false)
         (
          cond (decide (2 < x0.role))
           (
            some false)
           (
            cond (decide (x0.binary < 1))
             (
              some false)
             (
              cond (decide (2 < x0.binary))
               (
                some false)
               (
                (m_ref12_Right x0.tuple).bind fun r13 =>
                cond (!r13)
                 (
                  some false)
                 (
                  (m_ref12_State x0.tuple x0.commit).bind fun r17 =>
                  cond (!r17.2)
                   (
                    some false)
                   (
                    cond (!(decide (r17.1.index = x0.applied.index) && (decide (r17.1.term = x0.applied.term) && (decide (r17.1.sum = x0.applied.sum) && (decide (r17.1.level = x0.applied.level) && (decide (r17.1.final = x0.applied.final)))))))
                     (
                      some false)
                     (
                      cond (decide ((x0.votes.length : Int) ≠ x0.n))
                       (
                        some false)
                       (
                        cond (decide ((x0.next.length : Int) ≠ x0.n))
                         (
                          some false)
                         (
                          cond (decide ((x0.mtch.length : Int) ≠ x0.n))
                           (
                            some false)
                           (
                            cond (decide ((x0.caps.length : Int) ≠ x0.n))
                             (
                              some false)
                             (
                              (m_ref12_Last x0.tuple).bind fun r30 =>
                              m_ref20_Right_l1 x0 r30 fuelN false 0))))))))))))))
def m_ref06_Same_l1 (x0 : List En) (x1 : List En) : Nat → Bool → Int → Option (Bool)
  | 0, _, _ => none
  | n + 1, v7, v8 =>
      cond (decide (v8 < (x0.length : Int)))
       (
        (idx x0 v8).bind fun e13 =>
        (idx x1 v8).bind fun e16 =>
        cond (!(decide (e13.term = e16.term) && (decide (e13.kind = e16.kind) && (decide (e13.value = e16.value)))))
         (
          some false)
         (
          m_ref06_Same_l1 x0 x1 n v7 (IntKind.wrap .i64 (v8 + 1))))
       (
        some true)
def m_ref06_Same (x0 : List En) (x1 : List En) : Option (Bool) :=
  cond (decide ((x0.length : Int) ≠ (x1.length : Int)))
   (
    some false)
   (
    m_ref06_Same_l1 x0 x1 fuelN false 0)
def m_ref12_Same (x0 : Tu) (x1 : Tu) : Option (Bool) :=
  cond (decide (x0.snap.index = x1.snap.index) && (decide (x0.snap.term = x1.snap.term) && (decide (x0.snap.sum = x1.snap.sum) && (decide (x0.snap.level = x1.snap.level) && (decide (x0.snap.final = x1.snap.final))))))
   (
    cond (decide (x0.term = x1.term))
     (
      cond (decide (x0.vote = x1.vote))
       (
        (m_ref06_Same x0.log x1.log).bind fun r7 =>
        some r7)
       (
        some false))
     (
      some false))
   (
    some false)
def m_ref12_Great (x0 : Tu) : Option (Bool) :=
  some (decide (250 < (x0.log.length : Int)))
def m_ref20_Great (x0 : Co) : Option (Bool) :=
  (m_ref12_Great x0.tuple).bind fun r5 =>
  cond r5
   (
    some true)
   (
    cond (decide (9 < (x0.votes.length : Int)))
     (
      some true)
     (
      cond (decide (9 < (x0.next.length : Int)))
       (
        some true)
       (
        cond (decide (9 < (x0.mtch.length : Int)))
         (
          some true)
         (
          cond (decide (9 < (x0.caps.length : Int)))
           (
            some true)
           (
            cond (decide (1099511627776 < x0.tuple.snap.index))
             (
              some true)
             (
              some (decide (x0.tuple.snap.index < (-1099511627776)))))))))
def m_law21_great (x0 : Co) (x1 : Ms) : Option (Bool) :=
  (m_ref20_Great x0).bind fun r7 =>
  cond r7
   (
    some true)
   (
    some (decide (20 < (x1.entries.length : Int))))
def m_ref12_Own (x0 : Tu) : Option (Tu) :=
  (fewI ([] ++ x0.log)).bind fun l9 =>
  some (⟨x0.snap, l9, x0.term, x0.vote⟩ : Tu)
def m_ref20_New_l1 (x0 : Int) (x1 : Int) (x2 : Int) (x3 : Tu) (r13 : Tu) : Nat → Int → List Bool → List Int → List Int → List Int → Option (Co)
  | 0, _, _, _, _, _ => none
  | n + 1, v24, v25, v30, v35, v40 =>
      cond (decide (v24 ≤ x1))
       (
        (fewI (v25 ++ ([false] : List Bool))).bind fun l51 =>
        (m_ref12_Last x3).bind fun r57 =>
        (fewI (v30 ++ ([(IntKind.wrap .i64 (r57 + 1))] : List Int))).bind fun l61 =>
        (fewI (v35 ++ ([0] : List Int))).bind fun l69 =>
        (fewI (v40 ++ ([0] : List Int))).bind fun l76 =>
        m_ref20_New_l1 x0 x1 x2 x3 r13 n (IntKind.wrap .i64 (v24 + 1)) l51 l61 l69 l76)
       (
        (idx v40 (IntKind.wrap .i64 (x0 - 1))).bind fun e82 =>
        some (⟨x0, x1, 0, x2, r13, x3.snap.index, x3.snap, v25, v30, v35, (setI v40 (IntKind.wrap .i64 (x0 - 1)) x2)⟩ : Co))
def m_ref20_New (x0 : Int) (x1 : Int) (x2 : Int) (x3 : Tu) : Option (Co) :=
  cond (decide (x1 < 0))
   (
    some (⟨0, 0, 0, 0, (⟨(⟨0, 0, 0, 0, false⟩ : St), [], 0, 0⟩ : Tu), 0, (⟨0, 0, 0, 0, false⟩ : St), [], [], [], []⟩ : Co))
   (
    cond (decide (5 < x1))
     (
      some (⟨0, 0, 0, 0, (⟨(⟨0, 0, 0, 0, false⟩ : St), [], 0, 0⟩ : Tu), 0, (⟨0, 0, 0, 0, false⟩ : St), [], [], [], []⟩ : Co))
     (
      cond (decide (x0 < 1))
       (
        some (⟨0, 0, 0, 0, (⟨(⟨0, 0, 0, 0, false⟩ : St), [], 0, 0⟩ : Tu), 0, (⟨0, 0, 0, 0, false⟩ : St), [], [], [], []⟩ : Co))
       (
        cond (decide (x1 < x0))
         (
          some (⟨0, 0, 0, 0, (⟨(⟨0, 0, 0, 0, false⟩ : St), [], 0, 0⟩ : Tu), 0, (⟨0, 0, 0, 0, false⟩ : St), [], [], [], []⟩ : Co))
         (
          (m_ref12_Own x3).bind fun r13 =>
          m_ref20_New_l1 x0 x1 x2 x3 r13 fuelN 1 [] [] [] []))))
def m_advert_To (x0 : Co) (x1 : Ms) : Option (Bool) :=
  cond (decide (x1.dst ≠ x0.id))
   (
    some false)
   (
    (m_msg_Right x0).bind fun r10 =>
    cond (!r10)
     (
      some false)
     (
      (m_msg_Fine x1 x0.n).bind fun r15 =>
      some r15))
def m_advert_Hear (x0 : Co) (x1 : Ms) : Option (Co) :=
  (m_advert_To x0 x1).bind fun r9 =>
  (m_msg_Own x0).bind fun r19 =>
  cond r9
   (
    (m_msg_Right r19).bind fun r43 =>
    cond r43
     (
      (idx r19.caps (IntKind.wrap .i64 (x1.frm - 1))).bind fun e45 =>
      some (⟨r19.id, r19.n, r19.role, r19.binary, r19.tuple, r19.commit, r19.applied, r19.votes, r19.next, r19.mtch, (setI r19.caps (IntKind.wrap .i64 (x1.frm - 1)) x1.cap)⟩ : Co))
     (
      some r19))
   (
    some r19)
def m_advert_Forget (x0 : Co) : Option (Co) :=
  (m_msg_Own x0).bind fun r13 =>
  (m_msg_Right r13).bind fun r37 =>
  cond r37
   (
    (idx (List.replicate r13.caps.length (0 : Int)) (IntKind.wrap .i64 (r13.id - 1))).bind fun e40 =>
    some (⟨r13.id, r13.n, r13.role, r13.binary, r13.tuple, r13.commit, r13.applied, r13.votes, r13.next, r13.mtch, (setI (List.replicate r13.caps.length (0 : Int)) (IntKind.wrap .i64 (r13.id - 1)) r13.binary)⟩ : Co))
   (
    some r13)
def m_advert_Binary (x0 : Co) (x1 : Int) : Option (Co) :=
  cond (decide (x1 = 1))
   (
    (m_msg_Own x0).bind fun r15 =>
    (m_msg_Right r15).bind fun r39 =>
    cond r39
     (
      (idx r15.caps (IntKind.wrap .i64 (r15.id - 1))).bind fun e41 =>
      some (⟨r15.id, r15.n, r15.role, x1, r15.tuple, r15.commit, r15.applied, r15.votes, r15.next, r15.mtch, (setI r15.caps (IntKind.wrap .i64 (r15.id - 1)) x1)⟩ : Co))
     (
      some r15))
   (
    (m_msg_Own x0).bind fun r52 =>
    cond (decide (x1 = 2))
     (
      (m_msg_Right r52).bind fun r76 =>
      cond r76
       (
        (idx r52.caps (IntKind.wrap .i64 (r52.id - 1))).bind fun e78 =>
        some (⟨r52.id, r52.n, r52.role, x1, r52.tuple, r52.commit, r52.applied, r52.votes, r52.next, r52.mtch, (setI r52.caps (IntKind.wrap .i64 (r52.id - 1)) x1)⟩ : Co))
       (
        some r52))
     (
      some r52))
def m_level_Known_1 (x0 : Int) : Option (Bool) :=
  some (decide (x0 ≠ 2))
def m_level_Known_l1 (x0 : List Int) : Nat → Int → Int → Option (Bool)
  | 0, _, _ => none
  | n + 1, v12, v13 =>
      cond (decide (v13 < (x0.length : Int)))
       (
        (idx x0 v13).bind fun e19 =>
        (m_level_Known_1 e19).bind fun r22 =>
        cond r22
         (
          some (!(decide (0 ≤ v13))))
         (
          m_level_Known_l1 x0 n v12 (IntKind.wrap .i64 (v13 + 1))))
       (
        some (!(decide (0 ≤ (-1)))))
def m_level_Known (x0 : List Int) : Option (Bool) :=
  cond (decide ((x0.length : Int) = 0))
   (
    some false)
   (
    m_level_Known_l1 x0 fuelN 0 0)
def m_advert_All (x0 : Co) : Option (Bool) :=
  (m_level_Known x0.caps).bind fun r5 =>
  some r5

def m_advert_Least_r1 : List (Int × Int) → Int → Option (Int)
  | [], v13 =>
      some v13
  | e12 :: l0, v13 =>
      cond (decide (e12.1 = 1))
       (
        m_advert_Least_r1 l0 e12.2)
       (
        cond (decide (e12.2 < v13))
         (
          m_advert_Least_r1 l0 e12.2)
         (
          m_advert_Least_r1 l0 v13))
def m_advert_Least (x0 : Co) : Option (Int) :=
  (m_it_caps x0).bind fun xs14 =>
  m_advert_Least_r1 xs14 0
def m_advert_Ask (x0 : Co) (x1 : Int) : Option (Int) :=
  (m_level_Check x1 x0.applied x0.caps).bind fun r5 =>
  some r5
def m_law21_wakes : Option (Bool) :=
  (m_ref12_First).bind fun r3 =>
  (m_ref20_New 1 3 2 r3).bind fun r9 =>
  (m_advert_Hear r9 (⟨2, 2, 1, 1, 2, 0, 0, 0, false, [], (⟨0, 0, 0, 0, false⟩ : St)⟩ : Ms)).bind fun r37 =>
  (m_advert_Hear r37 (⟨2, 3, 1, 1, 2, 0, 0, 0, false, [], (⟨0, 0, 0, 0, false⟩ : St)⟩ : Ms)).bind fun r63 =>
  (m_advert_Forget r63).bind fun r88 =>
  (m_advert_Binary r63 1).bind fun r113 =>
  cond (decide ((r37.caps.length : Int) ≠ 3))
   (
    some false)
   (
    cond (decide ((r88.caps.length : Int) ≠ 3))
     (
      some false)
     (
      cond (decide ((r113.caps.length : Int) ≠ 3))
       (
        some false)
       (
        (m_advert_All r37).bind fun r143 =>
        cond (!r143)
         (
          (idx r37.caps 1).bind fun e145 =>
          cond (decide (e145 = 2))
           (
            (m_advert_All r63).bind fun r148 =>
            cond r148
             (
              (m_advert_Least r63).bind fun r150 =>
              cond (decide (r150 = 2))
               (
                (m_advert_Least r37).bind fun r152 =>
                cond (decide (r152 = 0))
                 (
                  (idx r88.caps 1).bind fun e154 =>
                  cond (decide (e154 = 0))
                   (
                    (idx r88.caps 0).bind fun e157 =>
                    cond (decide (e157 = 2))
                     (
                      cond (decide (r113.binary = 1))
                       (
                        (idx r113.caps 0).bind fun e160 =>
                        cond (decide (e160 = 1))
                         (
                          (m_advert_Ask r37 2).bind fun r163 =>
                          cond (decide (r163 = 221))
                           (
                            (m_advert_Ask r63 2).bind fun r165 =>
                            cond (decide (r165 = 0))
                             (
                              (m_advert_To r9 (⟨2, 3, 1, 1, 2, 0, 0, 0, false, [], (⟨0, 0, 0, 0, false⟩ : St)⟩ : Ms)).bind fun r167 =>
                              cond r167
                               (
                                (m_advert_To (⟨0, 0, 0, 0, (⟨(⟨0, 0, 0, 0, false⟩ : St), [], 0, 0⟩ : Tu), 0, (⟨0, 0, 0, 0, false⟩ : St), [], [], [], []⟩ : Co) (⟨2, 3, 1, 1, 2, 0, 0, 0, false, [], (⟨0, 0, 0, 0, false⟩ : St)⟩ : Ms)).bind fun r169 =>
                                some (!r169))
                               (
                                some false))
                             (
                              some false))
                           (
                            some false))
                         (
                          some false))
                       (
                        some false))
                     (
                      some false))
                   (
                    some false))
                 (
                  some false))
               (
                some false))
             (
              some false))
           (
            some false))
         (
          some false))))
def m_ref20_Own (x0 : Co) : Option (Co) :=
  (m_ref12_Own x0.tuple).bind fun r7 =>
  (fewI ([] ++ x0.votes)).bind fun l16 =>
  (fewI ([] ++ x0.next)).bind fun l24 =>
  (fewI ([] ++ x0.mtch)).bind fun l32 =>
  (fewI ([] ++ x0.caps)).bind fun l40 =>
  some (⟨x0.id, x0.n, x0.role, x0.binary, r7, x0.commit, x0.applied, l16, l24, l32, l40⟩ : Co)
def m_ref20_ints_l1 (x0 : List Int) (x1 : List Int) : Nat → Bool → Int → Option (Bool)
  | 0, _, _ => none
  | n + 1, v7, v8 =>
      cond (decide (v8 < (x0.length : Int)))
       (
        (idx x0 v8).bind fun e13 =>
        (idx x1 v8).bind fun e16 =>
        cond (decide (e13 ≠ e16))
         (
          some false)
         (
          m_ref20_ints_l1 x0 x1 n v7 (IntKind.wrap .i64 (v8 + 1))))
       (
        some true)
def m_ref20_ints (x0 : List Int) (x1 : List Int) : Option (Bool) :=
  cond (decide ((x0.length : Int) ≠ (x1.length : Int)))
   (
    some false)
   (
    m_ref20_ints_l1 x0 x1 fuelN false 0)
def m_ref20_Same_l1 (x0 : Co) (x1 : Co) : Nat → Bool → Int → Option (Bool)
  | 0, _, _ => none
  | n + 1, v20, v21 =>
      cond (decide (v21 < (x0.votes.length : Int)))
       (
        (idx x0.votes v21).bind fun e26 =>
        (idx x1.votes v21).bind fun e29 =>
        cond (decide (e26 ≠ e29))
         (
          some false)
         (
          m_ref20_Same_l1 x0 x1 n v20 (IntKind.wrap .i64 (v21 + 1))))
       (
        (m_ref20_ints x0.next x1.next).bind fun r34 =>
        cond r34
         (
          (m_ref20_ints x0.mtch x1.mtch).bind fun r36 =>
          cond r36
           (
            (m_ref20_ints x0.caps x1.caps).bind fun r38 =>
            some r38)
           (
            some false))
         (
          some false))
def m_ref20_Same (x0 : Co) (x1 : Co) : Option (Bool) :=
  cond (decide (x0.id ≠ x1.id))
   (
    some false)
   (
    cond (decide (x0.n ≠ x1.n))
     (
      some false)
     (
      cond (decide (x0.role ≠ x1.role))
       (
        some false)
       (
        cond (decide (x0.binary ≠ x1.binary))
         (
          some false)
         (
          (m_ref12_Same x0.tuple x1.tuple).bind fun r12 =>
          cond (!r12)
           (
            some false)
           (
            cond (decide (x0.commit ≠ x1.commit))
             (
              some false)
             (
              cond (!(decide (x0.applied.index = x1.applied.index) && (decide (x0.applied.term = x1.applied.term) && (decide (x0.applied.sum = x1.applied.sum) && (decide (x0.applied.level = x1.applied.level) && (decide (x0.applied.final = x1.applied.final)))))))
               (
                some false)
               (
                cond (decide ((x0.votes.length : Int) ≠ (x1.votes.length : Int)))
                 (
                  some false)
                 (
                  m_ref20_Same_l1 x0 x1 fuelN false 0))))))))
def m_law21_AdvertRight_l1 (x0 : Co) (x1 : Ms) (r44 : Co) (r69 : Co) (r94 : Co) : Nat → Bool → Int → Option (Bool)
  | 0, _, _ => none
  | n + 1, v189, v190 =>
      cond (decide (v190 < x0.n))
       (
        (m_advert_To x0 x1).bind fun r195 =>
        cond r195
         (
          cond (decide (x1.frm = (IntKind.wrap .i64 (v190 + 1))))
           (
            (idx r44.caps v190).bind fun e199 =>
            cond (decide (e199 ≠ x1.cap))
             (
              some false)
             (
              cond (!(decide (x1.frm = (IntKind.wrap .i64 (v190 + 1)))))
               (
                (idx r44.caps v190).bind fun e203 =>
                (idx x0.caps v190).bind fun e206 =>
                cond (decide (e203 ≠ e206))
                 (
                  some false)
                 (
                  cond (decide (v190 ≠ (IntKind.wrap .i64 (x0.id - 1))))
                   (
                    (idx r69.caps v190).bind fun e211 =>
                    cond (decide (e211 ≠ 0))
                     (
                      some false)
                     (
                      (idx r94.caps v190).bind fun e215 =>
                      (idx x0.caps v190).bind fun e218 =>
                      cond (decide (e215 ≠ e218))
                       (
                        some false)
                       (
                        m_law21_AdvertRight_l1 x0 x1 r44 r69 r94 n v189 (IntKind.wrap .i64 (v190 + 1)))))
                   (
                    m_law21_AdvertRight_l1 x0 x1 r44 r69 r94 n v189 (IntKind.wrap .i64 (v190 + 1)))))
               (
                cond (decide (v190 ≠ (IntKind.wrap .i64 (x0.id - 1))))
                 (
                  (idx r69.caps v190).bind fun e223 =>
                  cond (decide (e223 ≠ 0))
                   (
                    some false)
                   (
                    (idx r94.caps v190).bind fun e227 =>
                    (idx x0.caps v190).bind fun e230 =>
                    cond (decide (e227 ≠ e230))
                     (
                      some false)
                     (
                      m_law21_AdvertRight_l1 x0 x1 r44 r69 r94 n v189 (IntKind.wrap .i64 (v190 + 1)))))
                 (
                  m_law21_AdvertRight_l1 x0 x1 r44 r69 r94 n v189 (IntKind.wrap .i64 (v190 + 1))))))
           (
            cond (!(decide (x1.frm = (IntKind.wrap .i64 (v190 + 1)))))
             (
              (idx r44.caps v190).bind fun e234 =>
              (idx x0.caps v190).bind fun e237 =>
              cond (decide (e234 ≠ e237))
               (
                some false)
               (
                cond (decide (v190 ≠ (IntKind.wrap .i64 (x0.id - 1))))
                 (
                  (idx r69.caps v190).bind fun e242 =>
                  cond (decide (e242 ≠ 0))
                   (
                    some false)
                   (
                    (idx r94.caps v190).bind fun e246 =>
                    (idx x0.caps v190).bind fun e249 =>
                    cond (decide (e246 ≠ e249))
                     (
                      some false)
                     (
                      m_law21_AdvertRight_l1 x0 x1 r44 r69 r94 n v189 (IntKind.wrap .i64 (v190 + 1)))))
                 (
                  m_law21_AdvertRight_l1 x0 x1 r44 r69 r94 n v189 (IntKind.wrap .i64 (v190 + 1)))))
             (
              cond (decide (v190 ≠ (IntKind.wrap .i64 (x0.id - 1))))
               (
                (idx r69.caps v190).bind fun e254 =>
                cond (decide (e254 ≠ 0))
                 (
                  some false)
                 (
                  (idx r94.caps v190).bind fun e258 =>
                  (idx x0.caps v190).bind fun e261 =>
                  cond (decide (e258 ≠ e261))
                   (
                    some false)
                   (
                    m_law21_AdvertRight_l1 x0 x1 r44 r69 r94 n v189 (IntKind.wrap .i64 (v190 + 1)))))
               (
                m_law21_AdvertRight_l1 x0 x1 r44 r69 r94 n v189 (IntKind.wrap .i64 (v190 + 1))))))
         (
          (idx r44.caps v190).bind fun e267 =>
          (idx x0.caps v190).bind fun e270 =>
          cond (decide (e267 ≠ e270))
           (
            some false)
           (
            cond (decide (v190 ≠ (IntKind.wrap .i64 (x0.id - 1))))
             (
              (idx r69.caps v190).bind fun e275 =>
              cond (decide (e275 ≠ 0))
               (
                some false)
               (
                (idx r94.caps v190).bind fun e279 =>
                (idx x0.caps v190).bind fun e282 =>
                cond (decide (e279 ≠ e282))
                 (
                  some false)
                 (
                  m_law21_AdvertRight_l1 x0 x1 r44 r69 r94 n v189 (IntKind.wrap .i64 (v190 + 1)))))
             (
              m_law21_AdvertRight_l1 x0 x1 r44 r69 r94 n v189 (IntKind.wrap .i64 (v190 + 1))))))
       (
        (m_ref20_Same (⟨r44.id, r44.n, r44.role, r44.binary, r44.tuple, r44.commit, r44.applied, r44.votes, r44.next, r44.mtch, x0.caps⟩ : Co) x0).bind fun r289 =>
        cond r289
         (
          (m_ref20_Same (⟨r69.id, r69.n, r69.role, r69.binary, r69.tuple, r69.commit, r69.applied, r69.votes, r69.next, r69.mtch, x0.caps⟩ : Co) x0).bind fun r291 =>
          cond r291
           (
            (m_ref20_Same (⟨r94.id, r94.n, r94.role, x0.binary, r94.tuple, r94.commit, r94.applied, r94.votes, r94.next, r94.mtch, x0.caps⟩ : Co) x0).bind fun r293 =>
            cond r293
             (
              (m_law21_wakes).bind fun r295 =>
              some r295)
             (
              some false))
           (
            some false))
         (
          some false))
def m_law21_AdvertRight (x0 : Co) (x1 : Ms) (x2 : Int) : Option (Bool) :=
  (m_law21_great x0 x1).bind fun r8 =>
  cond r8
   (
    (m_law21_wakes).bind fun r11 =>
    some r11)
   (
    (m_ref20_Right x0).bind fun r13 =>
    cond (!r13)
     (
      (m_law21_wakes).bind fun r16 =>
      some r16)
     (
      (m_ref20_Own x0).bind fun r19 =>
      (m_advert_Hear x0 x1).bind fun r44 =>
      (m_advert_Forget x0).bind fun r69 =>
      (m_advert_Binary x0 x2).bind fun r94 =>
      cond (decide ((r44.caps.length : Int) ≠ x0.n))
       (
        some false)
       (
        cond (decide ((r69.caps.length : Int) ≠ x0.n))
         (
          some false)
         (
          cond (decide ((r94.caps.length : Int) ≠ x0.n))
           (
            some false)
           (
            (m_ref20_Right r44).bind fun r125 =>
            cond (!r125)
             (
              some false)
             (
              (m_ref20_Right r69).bind fun r128 =>
              cond (!r128)
               (
                some false)
               (
                (m_ref20_Right r94).bind fun r131 =>
                cond (!r131)
                 (
                  some false)
                 (
                  (m_ref20_Same x0 r19).bind fun r134 =>
                  cond (!r134)
                   (
                    some false)
                   (
                    (m_advert_Hear r44 x1).bind fun r137 =>
                    (m_ref20_Same r137 r44).bind fun r159 =>
                    cond (!r159)
                     (
                      some false)
                     (
                      (m_advert_Forget r69).bind fun r162 =>
                      (m_ref20_Same r162 r69).bind fun r184 =>
                      cond (!r184)
                       (
                        some false)
                       (
                        m_law21_AdvertRight_l1 x0 x1 r44 r69 r94 fuelN false 0)))))))))))
def m_law21_AdvertAsks_l1 (x0 : Co) (x1 : Co) (x2 : Int) : Nat → Bool → Int → Option (Bool)
  | 0, _, _ => none
  | n + 1, v31, v32 =>
      cond (decide (v32 < x0.n))
       (
        cond v31
         (
          (idx x0.caps v32).bind fun e36 =>
          m_law21_AdvertAsks_l1 x0 x1 x2 n (decide (e36 = 2)) (IntKind.wrap .i64 (v32 + 1)))
         (
          m_law21_AdvertAsks_l1 x0 x1 x2 n false (IntKind.wrap .i64 (v32 + 1))))
       (
        (m_advert_Forget x0).bind fun r40 =>
        cond (decide (x0.n = 1))
         (
          (m_advert_All x0).bind fun r67 =>
          cond (decide (r67 ≠ v31))
           (
            some false)
           (
            (m_advert_Ask x0 2).bind fun r70 =>
            cond (decide ((decide (r70 = 0)) ≠ v31))
             (
              some false)
             (
              (m_advert_All r40).bind fun r73 =>
              cond (decide (r73 ≠ (decide (x0.binary = 2))))
               (
                some false)
               (
                (m_advert_Least x0).bind fun r76 =>
                cond (decide ((decide (r76 = 2)) ≠ v31))
                 (
                  some false)
                 (
                  (m_advert_Least r40).bind fun r79 =>
                  cond (decide (r79 = 0))
                   (
                    cond (decide (x0.n = 1))
                     (
                      some false)
                     (
                      (m_ref20_Own x0).bind fun r83 =>
                      (fewI ([] ++ x1.caps)).bind fun l110 =>
                      cond (decide (x2 = 2))
                       (
                        (m_law21_wakes).bind fun r116 =>
                        some r116)
                       (
                        (m_advert_Ask x0 x2).bind fun r118 =>
                        (m_advert_Ask (⟨r83.id, r83.n, r83.role, r83.binary, r83.tuple, r83.commit, r83.applied, r83.votes, r83.next, r83.mtch, l110⟩ : Co) x2).bind fun r120 =>
                        cond (decide (r118 = r120))
                         (
                          (m_law21_wakes).bind fun r122 =>
                          some r122)
                         (
                          some false))))
                   (
                    (m_ref20_Own x0).bind fun r125 =>
                    (fewI ([] ++ x1.caps)).bind fun l152 =>
                    cond (decide (x2 = 2))
                     (
                      (m_law21_wakes).bind fun r158 =>
                      some r158)
                     (
                      (m_advert_Ask x0 x2).bind fun r160 =>
                      (m_advert_Ask (⟨r125.id, r125.n, r125.role, r125.binary, r125.tuple, r125.commit, r125.applied, r125.votes, r125.next, r125.mtch, l152⟩ : Co) x2).bind fun r162 =>
                      cond (decide (r160 = r162))
                       (
                        (m_law21_wakes).bind fun r164 =>
                        some r164)
                       (
                        some false))))))))
         (
          (m_advert_All x0).bind fun r168 =>
          cond (decide (r168 ≠ v31))
           (
            some false)
           (
            (m_advert_Ask x0 2).bind fun r171 =>
            cond (decide ((decide (r171 = 0)) ≠ v31))
             (
              some false)
             (
              (m_advert_All r40).bind fun r174 =>
              cond (decide (r174 ≠ false))
               (
                some false)
               (
                (m_advert_Least x0).bind fun r177 =>
                cond (decide ((decide (r177 = 2)) ≠ v31))
                 (
                  some false)
                 (
                  (m_advert_Least r40).bind fun r180 =>
                  cond (decide (r180 = 0))
                   (
                    cond (decide (x0.n = 1))
                     (
                      some false)
                     (
                      (m_ref20_Own x0).bind fun r184 =>
                      (fewI ([] ++ x1.caps)).bind fun l211 =>
                      cond (decide (x2 = 2))
                       (
                        (m_law21_wakes).bind fun r217 =>
                        some r217)
                       (
                        (m_advert_Ask x0 x2).bind fun r219 =>
                        (m_advert_Ask (⟨r184.id, r184.n, r184.role, r184.binary, r184.tuple, r184.commit, r184.applied, r184.votes, r184.next, r184.mtch, l211⟩ : Co) x2).bind fun r221 =>
                        cond (decide (r219 = r221))
                         (
                          (m_law21_wakes).bind fun r223 =>
                          some r223)
                         (
                          some false))))
                   (
                    (m_ref20_Own x0).bind fun r226 =>
                    (fewI ([] ++ x1.caps)).bind fun l253 =>
                    cond (decide (x2 = 2))
                     (
                      (m_law21_wakes).bind fun r259 =>
                      some r259)
                     (
                      (m_advert_Ask x0 x2).bind fun r261 =>
                      (m_advert_Ask (⟨r226.id, r226.n, r226.role, r226.binary, r226.tuple, r226.commit, r226.applied, r226.votes, r226.next, r226.mtch, l253⟩ : Co) x2).bind fun r263 =>
                      cond (decide (r261 = r263))
                       (
                        (m_law21_wakes).bind fun r265 =>
                        some r265)
                       (
                        some false)))))))))
def m_law21_AdvertAsks (x0 : Co) (x1 : Co) (x2 : Int) : Option (Bool) :=
  (m_ref20_Great x0).bind fun r8 =>
  cond r8
   (
    (m_law21_wakes).bind fun r11 =>
    some r11)
   (
    (m_ref20_Great x1).bind fun r13 =>
    cond r13
     (
      (m_law21_wakes).bind fun r16 =>
      some r16)
     (
      (m_ref20_Right x0).bind fun r18 =>
      cond (!r18)
       (
        (m_law21_wakes).bind fun r21 =>
        some r21)
       (
        (m_ref20_Right x1).bind fun r23 =>
        cond (!r23)
         (
          (m_law21_wakes).bind fun r26 =>
          some r26)
         (
          m_law21_AdvertAsks_l1 x0 x1 x2 fuelN true 0))))
def m_law21_AdvertNot (x0 : Co) (x1 : Ms) (x2 : Int) : Option (Bool) :=
  (m_law21_great x0 x1).bind fun r8 =>
  cond r8
   (
    (m_law21_wakes).bind fun r11 =>
    some r11)
   (
    cond (decide (x2 = x0.id))
     (
      (m_advert_Hear x0 (⟨x1.kind, x1.frm, (IntKind.wrap .i64 (x0.id + 1)), x1.term, x1.cap, x1.last, x1.lastTerm, x1.commit, x1.okk, x1.entries, x1.snap⟩ : Ms)).bind fun r24 =>
      (m_ref20_Same r24 x0).bind fun r46 =>
      cond r46
       (
        (m_advert_To x0 (⟨x1.kind, x1.frm, (IntKind.wrap .i64 (x0.id + 1)), x1.term, x1.cap, x1.last, x1.lastTerm, x1.commit, x1.okk, x1.entries, x1.snap⟩ : Ms)).bind fun r48 =>
        cond (!r48)
         (
          (m_advert_Hear x0 (⟨x1.kind, x1.frm, x1.dst, x1.term, 3, x1.last, x1.lastTerm, x1.commit, x1.okk, x1.entries, x1.snap⟩ : Ms)).bind fun r50 =>
          (m_ref20_Same r50 x0).bind fun r72 =>
          cond r72
           (
            (m_ref20_Right x0).bind fun r74 =>
            cond r74
             (
              (m_law21_wakes).bind fun r76 =>
              some r76)
             (
              (m_advert_Hear x0 x1).bind fun r78 =>
              (m_ref20_Same r78 x0).bind fun r100 =>
              cond r100
               (
                (m_advert_Forget x0).bind fun r102 =>
                (m_ref20_Same r102 x0).bind fun r124 =>
                cond r124
                 (
                  (m_law21_wakes).bind fun r126 =>
                  some r126)
                 (
                  some false))
               (
                some false)))
           (
            some false))
         (
          some false))
       (
        some false))
     (
      (m_advert_Hear x0 (⟨x1.kind, x1.frm, x2, x1.term, x1.cap, x1.last, x1.lastTerm, x1.commit, x1.okk, x1.entries, x1.snap⟩ : Ms)).bind fun r133 =>
      (m_ref20_Same r133 x0).bind fun r155 =>
      cond r155
       (
        (m_advert_To x0 (⟨x1.kind, x1.frm, x2, x1.term, x1.cap, x1.last, x1.lastTerm, x1.commit, x1.okk, x1.entries, x1.snap⟩ : Ms)).bind fun r157 =>
        cond (!r157)
         (
          (m_advert_Hear x0 (⟨x1.kind, x1.frm, x1.dst, x1.term, 3, x1.last, x1.lastTerm, x1.commit, x1.okk, x1.entries, x1.snap⟩ : Ms)).bind fun r159 =>
          (m_ref20_Same r159 x0).bind fun r181 =>
          cond r181
           (
            (m_ref20_Right x0).bind fun r183 =>
            cond r183
             (
              (m_law21_wakes).bind fun r185 =>
              some r185)
             (
              (m_advert_Hear x0 x1).bind fun r187 =>
              (m_ref20_Same r187 x0).bind fun r209 =>
              cond r209
               (
                (m_advert_Forget x0).bind fun r211 =>
                (m_ref20_Same r211 x0).bind fun r233 =>
                cond r233
                 (
                  (m_law21_wakes).bind fun r235 =>
                  some r235)
                 (
                  some false))
               (
                some false)))
           (
            some false))
         (
          some false))
       (
        some false)))
end Go.Proofs.Ytohkkncfofomdaa
