/- A range over a function whose elements are known ahead: one law for the caller, one word for the iterator's contract; no program of its own is spoken of. -/
import Derived.Test.YtefpagijgiggmabBase
import Derived.RangeFuncNested
import Derived.RangeFuncBound
import Derived.RangeFuncCalls
import Derived.RangeFuncLeaves
import Derived.OwnWalkIn
import Derived.TacticsInMore
import Derived.LoopNIn
import Derived.LoopIn
import Derived.Shelf.Abstract
import Derived.ScopeJumps
namespace Go.Proofs.Ytefpagijgiggmab
open Go Go.RowKit

/-- Of the blocks that are there those with S stay as they are. -/
structure KeepB (S : Nat → Prop) (w w' : World) : Prop where
  os : w'.os = w.os
  tape : w'.tape = w.tape
  output : w'.output = w.output
  size : w.heap.size ≤ w'.heap.size
  block : ∀ k, k < w.heap.size → S k → w'.heap[k]? = w.heap[k]?

theorem KeepB.refl (S : Nat → Prop) (w : World) : KeepB S w w := ⟨rfl, rfl, rfl, Nat.le_refl _, fun _ _ _ => rfl⟩
theorem KeepB.trans {S : Nat → Prop} {a b c : World} (h : KeepB S a b) (k : KeepB S b c) : KeepB S a c :=
  ⟨k.os.trans h.os, k.tape.trans h.tape, k.output.trans h.output, Nat.le_trans h.size k.size, fun i hi hs => (k.block i (Nat.lt_of_lt_of_le hi h.size) hs).trans (h.block i hi hs)⟩
theorem KeepB.sub {S T : Nat → Prop} {a b : World} (h : KeepB S a b) (hs : ∀ k, k < a.heap.size → T k → S k) : KeepB T a b :=
  ⟨h.os, h.tape, h.output, h.size, fun k hk ht => h.block k hk (hs k hk ht)⟩
theorem KeepB.drew {S : Nat → Prop} {a b : World} (h : KeepB S a b) : KeepB S a b.drew := ⟨h.os, h.tape, h.output, h.size, h.block⟩
theorem KeepB.drewN {S : Nat → Prop} {a b : World} (h : KeepB S a b) (n : Nat) : KeepB S a (b.drewN n) := ⟨h.os, h.tape, h.output, h.size, h.block⟩
theorem KeepB.alloc {S : Nat → Prop} {a b : World} (h : KeepB S a b) (o : Obj) : KeepB S a (b.alloc o) :=
  h.trans ⟨rfl, rfl, rfl, by simp, fun k hk _ => Below.heap_alloc _ _ _ hk⟩
theorem KeepB.setCell {S : Nat → Prop} {a b : World} (h : KeepB S a b) {p : Addr} (hp : p.block < a.heap.size → ¬ S p.block) (u : Value) : KeepB S a (b.setCell p u) :=
  ⟨h.os, h.tape, h.output, by simpa [World.setCell] using h.size, fun k hk hs => (Below.heap_setCell b p u k (fun e => by subst e; exact hp hk hs)).trans (h.block k hk hs)⟩
theorem KeepB.grown {S : Nat → Prop} {a b c : World} {row : Option Nat} (h : KeepB S a b) (hg : b.grownBy c row) (hr : ∀ k, row = some k → k < a.heap.size → ¬ S k) : KeepB S a c :=
  ⟨hg.os.trans h.os, hg.tape.trans h.tape, hg.output.trans h.output, Nat.le_trans h.size hg.size, fun k hk hs =>
    (hg.block k (Nat.lt_of_lt_of_le hk h.size) (fun e => hr k e.symm hk hs)).trans (h.block k hk hs)⟩
theorem KeepB.of_below {S : Nat → Prop} {B : Nat} {a b : World} (h : Below B a b) (hs : ∀ k, k < a.heap.size → S k → k < B) : KeepB S a b :=
  ⟨h.os, h.tape, h.output, h.size, fun k hk ht => h.block k (hs k hk ht)⟩
theorem KeepB.below {S : Nat → Prop} {a b c : World} (h : KeepB S a b) (k : Below b.heap.size b c) : KeepB S a c :=
  h.trans (KeepB.of_below k (fun _ hk _ => hk))
theorem KeepB.to_below {S : Nat → Prop} {B : Nat} {a b : World} (h : KeepB S a b) (hB : B ≤ a.heap.size) (hs : ∀ k, k < B → S k) : Below B a b :=
  ⟨h.os, h.tape, h.output, h.size, fun k hk => h.block k (Nat.lt_of_lt_of_le hk hB) (hs k hk)⟩
theorem KeepB.putObj {S : Nat → Prop} {a b : World} (h : KeepB S a b) (l : Nat) (o : Obj) (hl : l < a.heap.size → ¬ S l) : KeepB S a (b.putObj l o) :=
  ⟨h.os, h.tape, h.output, by simpa [World.putObj] using h.size, fun k hk hs => (World.putObj_heap_other (by rintro rfl; exact hl hk hs)).trans (h.block k hk hs)⟩
theorem KeepB.cell {S : Nat → Prop} {a b : World} (h : KeepB S a b) {p : Addr} {u : Value} (hs : S p.block) (hc : a.cell? p = some u) : b.cell? p = some u := by
  have hb : p.block < a.heap.size := World.block_lt_of_cell? a p hc
  exact (World.cell?_of_block (h.block _ hb hs)).trans hc
theorem KeepB.frozen {S : Nat → Prop} {a b : World} (h : KeepB S a b) {p : Addr} (hb : p.block < a.heap.size) (hs : S p.block) : b.frozen? p = a.frozen? p :=
  World.frozen?_of_block (h.block _ hb hs)
theorem KeepB.heap {S : Nat → Prop} {a b : World} (h : KeepB S a b) {k : Nat} {o : Obj} (hs : S k) (ho : a.heap[k]? = some o) : b.heap[k]? = some o :=
  (h.block k (Array.getElem?_eq_some_iff.1 ho).1 hs).trans ho
theorem KeepB.rd {S : Nat → Prop} {a b : World} (h : KeepB S a b) {A : Option Addr} {xs : List Value} (hr : Rd a A xs) (hs : ∀ p, A = some p → S p.block) : Rd b A xs := fun j u hj => by
  obtain ⟨g, o, rfl, hb, hc⟩ := hr j u hj
  exact ⟨g, o, rfl, Nat.lt_of_lt_of_le hb h.size, h.cell (p := ⟨g, o + j, none⟩) (hs ⟨g, o, none⟩ rfl) hc⟩

/-- A variable that lies in a block of its own. -/
def Box (W : World) (b : Nat) (v : Value) : Prop := W.cell? ⟨b, 0, none⟩ = some v ∧ W.frozen? ⟨b, 0, none⟩ = false
theorem Box.lt {W : World} {b : Nat} {v : Value} (h : Box W b v) : b < W.heap.size := World.block_lt_of_cell? W ⟨b, 0, none⟩ h.1
theorem Box.keep {S : Nat → Prop} {W W' : World} {b : Nat} {v : Value} (h : Box W b v) (hk : KeepB S W W') (hs : S b) : Box W' b v :=
  ⟨hk.cell (p := ⟨b, 0, none⟩) hs h.1, (hk.frozen (p := ⟨b, 0, none⟩) h.lt hs).trans h.2⟩
theorem Box.below {B : Nat} {W W' : World} {b : Nat} {v : Value} (h : Box W b v) (hk : Below B W W') (hs : b < B) : Box W' b v :=
  ⟨(hk.cell (p := ⟨b, 0, none⟩) hs).trans h.1, (hk.frozen (p := ⟨b, 0, none⟩) hs).trans h.2⟩
theorem Box.new (W : World) (v : Value) (t : TypeId) : Box (W.alloc (.cells #[v] t)) W.heap.size v := ⟨by simp, by simp⟩
theorem Box.alloc {W : World} {b : Nat} {v : Value} (h : Box W b v) (o : Obj) : Box (W.alloc o) b v := h.keep ((KeepB.refl (fun _ => True) W).alloc o) trivial
theorem Box.drew {W : World} {b : Nat} {v : Value} (h : Box W b v) : Box W.drew b v := h
theorem Box.set {W : World} {b : Nat} {v : Value} (h : Box W b v) (u : Value) : Box (W.setCell ⟨b, 0, none⟩ u) b u :=
  ⟨World.cell?_setCell_same' _ _ _ (by rw [h.1]; rfl), by rw [World.frozen?_setCell]; exact h.2⟩
theorem Box.other {W : World} {b : Nat} {v : Value} (h : Box W b v) {p : Addr} (hp : p.block ≠ b) (u : Value) : Box (W.setCell p u) b v :=
  h.keep ((KeepB.refl (fun k => k ≠ p.block) W).setCell (fun _ => by simp) u) (fun e => hp e.symm)
theorem below_keep {S : Nat → Prop} {B : Nat} {a b c : World} (h : Below B a b) (hk : KeepB S b c) (hB : B ≤ b.heap.size) (hs : ∀ k, k < B → S k) : Below B a c :=
  h.trans (hk.to_below hB hs)

/-- AN ITERATOR'S CONTRACT: from world w on, called with any yield, it hands over xs, one by one, till a round says no. It reads what lies below n₀ and its own blocks (from M to w's end), which a round leaves as they are; it writes only its own and new ones. -/
def Iter {α : Type} (P : Program) (g : Nat) (lb : Array Value) (encs : α → Array Value) (xs : List α) (n₀ M : Nat) (w : World) : Prop :=
  ∀ (l : Nat) (J : Nat → World → Prop) (Jx : World → Prop) (W : World),
    Below w.heap.size w W →
    (∀ k A B, J k A → KeepB (fun b => b < M ∨ w.heap.size ≤ b) A B → J k B) →
    (∀ A B, Jx A → KeepB (fun b => b < M ∨ w.heap.size ≤ b) A B → Jx B) →
    (∀ k x A, xs[k]? = some x → J k A → w.heap.size ≤ A.heap.size → YieldAt Fence.wide 8 P l (encs x) A fun e B =>
      (e = .returned (.bool true) ∧ J (k + 1) B ∧ KeepB (fun b => b < n₀ ∨ (M ≤ b ∧ b < w.heap.size)) A B) ∨
      (e = .returned (.bool false) ∧ Jx B ∧ KeepB (fun b => b < n₀ ∨ (M ≤ b ∧ b < w.heap.size)) A B)) →
    J 0 W → CallsIn Fence.wide 9 P g (#[.func (.yield l) #[] #[]] ++ lb) W fun e B => (∃ v, e = .returned v) ∧ (J xs.length B ∨ Jx B)

/-- How a round's body may be left. -/
def roundEnd (S : Nat → Prop) (I' : World → Prop) (Ix : Code → World → Prop) (A : World) : Exit → Act → World → Prop
  | .normal, _, B => KeepB S A B ∧ I' B
  | .ret, _, B => KeepB S A B ∧ Ix .ret B
  | .exit id, _, B => KeepB S A B ∧ Ix (.exit id) B
  | .goto t, _, B => KeepB S A B ∧ Ix (.goto t) B
  | .panic _, _, _ => False
  | .outgrown, _, _ => False

variable {P : Program}

set_option maxHeartbeats 1000000 in
theorem range_law {α : Type} {g : Operand} {ps : Array Tmp} {assign body : Code} {Q : Exit → Act → World → Prop} {a : Act} {w : World}
    {gf : Nat} {lb : Array Value} (hg : a.eval g = .func (.func gf) #[] lb) (eg : ∀ args w, (callFunc gf args).run P w = .ok (.enter gf args) w)
    {encs : α → Array Value} {xs : List α} {n₀ M : Nat} (hit : Iter P gf lb encs xs n₀ M w) (hnM : n₀ ≤ M) (hM : M ≤ w.heap.size) (hps : ∀ x, (encs x).size = ps.size)
    (I : Nat → World → Prop) (Ix : Code → World → Prop)
    (hI : ∀ k A B, I k A → KeepB (fun b => b < M ∨ w.heap.size + 2 ≤ b) A B → I k B)
    (hIx : ∀ c A B, Ix c A → KeepB (fun b => b < M ∨ w.heap.size + 2 ≤ b) A B → Ix c B)
    (h0 : I 0 w)
    (hround : ∀ l k x A, xs[k]? = some x → I k A → w.heap.size + 2 ≤ A.heap.size →
      assign.wpIn (Fence.wide.inRound l) 8 P (Exit.then (fun a1 A1 => KeepB (fun _ => True) A A1 ∧
        ∀ A2, KeepB (fun b => b < w.heap.size ∨ w.heap.size + 2 ≤ b) A1 A2 → I k A2 →
          body.wpIn (Fence.wide.inRound l) 8 P (roundEnd (fun b => b < n₀ ∨ (M ≤ b ∧ b < w.heap.size + 2)) (I (k + 1)) Ix A2) a1 A2) (fun _ _ _ => False))
        { tmps := (ps.zip (encs x)).foldl (fun t (p, v) => t.setIfInBounds p v) a.tmps, defers := [] } A)
    (hdone : ∀ A, I xs.length A → A.heap[w.heap.size]? = some (.deferred (some [])) → Q .normal { a with defers := { target := .collected w.heap.size, args := #[] } :: a.defers } A)
    (hstop : ∀ c A, Ix c A → A.heap[w.heap.size]? = some (.deferred (some [])) → c.wpIn Fence.wide 9 P Q { a with defers := { target := .collected w.heap.size, args := #[] } :: a.defers } A) :
    (Code.rangeFunc g ps assign body).wpIn Fence.wide 9 P Q a w := by
  refine wpIn_rangeFunc ?_
  intro fn hfn
  obtain ⟨rec, hrec⟩ : ∃ rec : LoopState → Option Code → Loop, rec = fun st pe => { state := st, pending := pe, fn, tmps := a.tmps, params := ps, assign, body, defers := w.heap.size } := ⟨_, rfl⟩
  obtain ⟨W1, hW1⟩ : ∃ W1, (w.alloc (.deferred (some []))).alloc (.loop (rec .ready none)) = W1 := ⟨_, rfl⟩
  have hL1 : W1.heap[w.heap.size + 1]? = some (.loop (rec .ready none)) := by
    rw [← hW1]; have := World.alloc_heap_new (w.alloc (.deferred (some []))) (.loop (rec .ready none)); rwa [World.size_alloc] at this
  have hK1 : W1.heap[w.heap.size]? = some (.deferred (some [])) := by
    rw [← hW1]; exact (Below.heap_alloc _ _ _ (by simp)).trans (World.alloc_heap_new w _)
  have hs1 : W1.heap.size = w.heap.size + 2 := by rw [← hW1]; simp
  have hkw : ∀ S, KeepB S w W1 := fun S => by rw [← hW1]; exact ((KeepB.refl S w).alloc _).alloc _
  have hb1 : Below w.heap.size w W1 := (hkw (fun _ => True)).to_below (Nat.le_refl _) (fun _ _ => trivial)
  have hI1 : I 0 W1 := hI 0 _ _ h0 (hkw _)
  refine ⟨w.heap.size + 1, [{ target := .collected w.heap.size, args := #[] }], W1, { target := .fn (.func gf) lb, args := #[.func (.yield (w.heap.size + 1)) #[] #[]] }, W1, gf,
    #[.func (.yield (w.heap.size + 1)) #[] #[]] ++ lb, W1, ?_, ?_, ?_, ?_, (fun h => by cases h), ?_⟩
  · rw [← hW1, hrec]; exact run_enterLoop_outer _ _ _ _ _
  · simp only [resolve, hg]
    simp [go_sem]
  · intro f' hf'; simp [Fence.wide]
  · simp [invoke, go_sem, eg]
  · have hit' := hit (w.heap.size + 1)
      (fun k W => I k W ∧ W.heap[w.heap.size + 1]? = some (.loop (rec .ready none)) ∧ W.heap[w.heap.size]? = some (.deferred (some [])))
      (fun W => ∃ c, Ix c W ∧ W.heap[w.heap.size + 1]? = some (.loop (rec .done (some c))) ∧ W.heap[w.heap.size]? = some (.deferred (some [])))
      W1 hb1
      (fun k A B hs hk => ⟨hI k A B hs.1 (hk.sub (fun b _ h => by omega)), hk.heap (by omega) hs.2.1, hk.heap (by omega) hs.2.2⟩)
      (fun A B hs hk => by
        obtain ⟨c, hc, h2, h3⟩ := hs
        exact ⟨c, hIx c A B hc (hk.sub (fun b _ h => by omega)), hk.heap (by omega) h2, hk.heap (by omega) h3⟩)
      ?_ ⟨hI1, hL1, hK1⟩
    · refine (callsIn_wide.2 (callsIn_wide.1 hit')).mono ?_
      rintro e W2 ⟨⟨v, rfl⟩, (⟨hi, hl, hk⟩ | ⟨c, hi, hl, hk⟩)⟩
      · exact ⟨none, _, by have := run_endLoop (P := P) hl (by rw [hrec]; simp); rw [hrec] at this; exact this,
          hdone _ (hI _ _ _ hi ((KeepB.refl _ _).putObj _ _ (by omega))) ((World.putObj_heap_other (by omega)).trans hk)⟩
      · exact ⟨some c, _, by have := run_endLoop (P := P) hl (by rw [hrec]; simp); rw [hrec] at this; exact this,
          hstop c _ (hIx _ _ _ hi ((KeepB.refl _ _).putObj _ _ (by omega))) ((World.putObj_heap_other (by omega)).trans hk)⟩
    · rintro k x W hx ⟨hi, hl, hk⟩ hsz
      have hlt : w.heap.size + 1 < W.heap.size := (Array.getElem?_eq_some_iff.1 hl).1
      have hy := run_yield (P := P) (args := encs x) hl (by rw [hrec]; exact hps x)
      rw [hrec] at hy
      refine ⟨fn, _, assign, body, hy, roundIn_of_wpIn trivial ?_⟩
      refine wpIn_mono (hround (w.heap.size + 1) k x W hx hi (by omega)) ?_
      rintro e a1 A1 hp
      cases e with
      | normal =>
        obtain ⟨hk1, hbody⟩ := hp
        have hl1 : A1.heap[w.heap.size + 1]? = some (.loop (rec .ready none)) := hk1.heap trivial hl
        have hd1 : A1.heap[w.heap.size]? = some (.deferred (some [])) := hk1.heap trivial hk
        have hlt1 : w.heap.size + 1 < A1.heap.size := (Array.getElem?_eq_some_iff.1 hl1).1
        refine ⟨_, run_beginRound hl1 (by rw [hrec]), ?_⟩
        obtain ⟨A2, hA2⟩ : ∃ A2, A1.putObj (w.heap.size + 1) (.loop { rec .ready none with state := .busy }) = A2 := ⟨_, rfl⟩
        rw [hA2]
        have hk2 : KeepB (fun b => b ≠ w.heap.size + 1) A1 A2 := by rw [← hA2]; exact (KeepB.refl _ _).putObj _ _ (by omega)
        have hl2 : A2.heap[w.heap.size + 1]? = some (.loop { rec .ready none with state := .busy }) := by rw [← hA2]; exact World.putObj_heap_same hlt1
        have hd2 : A2.heap[w.heap.size]? = some (.deferred (some [])) := hk2.heap (by omega) hd1
        have hkeep12 : KeepB (fun b => b < n₀ ∨ (M ≤ b ∧ b < w.heap.size)) W A2 := (hk1.sub (fun _ _ _ => trivial)).trans (hk2.sub (fun b _ h => by omega))
        have fin : ∀ (jump : Option Code) (W3 : World), KeepB (fun b => b < n₀ ∨ (M ≤ b ∧ b < w.heap.size + 2)) A2 W3 →
            (Instr.endRound (w.heap.size + 1) jump).run P W3 = .ok (.bool jump.isNone) (W3.putObj (w.heap.size + 1) (.loop (rec (if jump.isNone then .ready else .done) jump))) ∧
            (W3.putObj (w.heap.size + 1) (.loop (rec (if jump.isNone then .ready else .done) jump))).heap[w.heap.size + 1]? = some (.loop (rec (if jump.isNone then .ready else .done) jump)) ∧
            (W3.putObj (w.heap.size + 1) (.loop (rec (if jump.isNone then .ready else .done) jump))).heap[w.heap.size]? = some (.deferred (some [])) ∧
            KeepB (fun b => b < n₀ ∨ (M ≤ b ∧ b < w.heap.size)) W (W3.putObj (w.heap.size + 1) (.loop (rec (if jump.isNone then .ready else .done) jump))) := fun jump W3 hk3 => by
          have hl3 := hk3.heap (by omega) hl2
          have := run_endRound (P := P) jump hl3
          rw [hrec] at this ⊢
          refine ⟨this, World.putObj_heap_same (Array.getElem?_eq_some_iff.1 hl3).1, (World.putObj_heap_other (by omega)).trans (hk3.heap (by omega) hd2), ?_⟩
          exact (hkeep12.trans (hk3.sub (fun b _ h => by omega))).putObj _ _ (by omega)
        have hiA2 : I k A2 := hI k A1 A2 (hI k W A1 hi (hk1.sub (fun _ _ _ => trivial))) (hk2.sub (fun b _ h => by omega))
        refine wpIn_mono (hbody A2 (hk2.sub (fun b _ h => by omega)) hiA2) ?_
        have hst : ∀ (jump : Option Code) (W3 : World), KeepB (fun b => b < M ∨ w.heap.size + 2 ≤ b) W3 (W3.putObj (w.heap.size + 1) (.loop (rec (if jump.isNone then .ready else .done) jump))) := fun jump W3 => (KeepB.refl _ _).putObj _ _ (by omega)
        rintro e a3 W3 hp
        cases e with
        | normal =>
          obtain ⟨hk3, hi3⟩ := hp
          obtain ⟨hr, hl4, hk4, hk5⟩ := fin none W3 hk3
          exact ⟨_, _, hr, .inl ⟨rfl, ⟨hI _ _ _ hi3 (hst none W3), hl4, hk4⟩, hk5⟩⟩
        | ret =>
          obtain ⟨hk3, hi3⟩ := hp
          obtain ⟨hr, hl4, hk4, hk5⟩ := fin (some .ret) W3 hk3
          exact ⟨_, _, hr, .inr ⟨rfl, ⟨.ret, hIx _ _ _ hi3 (hst _ W3), hl4, hk4⟩, hk5⟩⟩
        | exit id =>
          obtain ⟨hk3, hi3⟩ := hp
          obtain ⟨hr, hl4, hk4, hk5⟩ := fin (some (.exit id)) W3 hk3
          exact ⟨_, _, hr, .inr ⟨rfl, ⟨.exit id, hIx _ _ _ hi3 (hst _ W3), hl4, hk4⟩, hk5⟩⟩
        | goto t =>
          obtain ⟨hk3, hi3⟩ := hp
          obtain ⟨hr, hl4, hk4, hk5⟩ := fin (some (.goto t)) W3 hk3
          exact ⟨_, _, hr, .inr ⟨rfl, ⟨.goto t, hIx _ _ _ hi3 (hst _ W3), hl4, hk4⟩, hk5⟩⟩
        | panic ch => exact hp.elim
        | outgrown => exact hp.elim
      | _ => exact hp.elim

/-- A scope with one label: what holds at each jump, and a measure. -/
theorem scope_goto {c X : Code} {Q : Exit → Act → World → Prop} {a : Act} {w : World} (l : Nat) (J : Act → World → Prop) (μ : Act → World → Nat) (hf : findLabel c l = some (.seq .skip X))
    (pass : ∀ a w, J a w → X.wpIn Fence.wide 9 P (Exit.jump l (fun a' w' => J a' w' ∧ μ a' w' < μ a w) Q) a w)
    (first : (∀ a w, J a w → X.wpIn Fence.wide 9 P (Exit.jump l J Q) a w) → c.wpIn Fence.wide 9 P (Exit.jump l J Q) a w) : (Code.scope c).wpIn Fence.wide 9 P Q a w := by
  have hX : ∀ a w, J a w → X.wpIn Fence.wide 9 P (Exit.jump l J Q) a w := fun a w hJ =>
    wpIn_mono (pass a w hJ) (fun e a' w' h => by
      cases e with
      | goto l' => exact ⟨h.1, h.2.1⟩
      | _ => exact h)
  exact wpIn_wide.2 (wp_scope_jumps l J μ hf (wpIn_wide.1 (first hX)) (fun a w hJ => wp_seq (wp_skip (wpIn_wide.1 (pass a w hJ)))))
end Go.Proofs.Ytefpagijgiggmab
