/- Entries as they lie in memory; states in a block of their own. -/
import Derived.Test.YtoehcmddfpompaaEntWe
import Derived.Test.YtoehcmddfpompaaElemI
namespace Go.Proofs.Ytoehcmddfpompaa
open Go Go.RowKit Go.Shelf

/-- Entries as cells. -/
def ens (l : List En) : List Value := l.flatMap fun e => [.int .i64 e.term, .int .i64 e.kind, .int .i64 e.value]
theorem ens_length (l : List En) : (ens l).length = 3 * l.length := by
  induction l with
  | nil => rfl
  | cons e l ih => simp only [ens, List.flatMap_cons, List.length_append, List.length_cons, List.length_nil] at ih ⊢; omega
theorem ens_drop (l : List En) (k : Nat) : ens (l.drop k) = (ens l).drop (3 * k) := by
  induction l generalizing k with
  | nil => simp [ens]
  | cons e l ih =>
    cases k with
    | zero => rfl
    | succ k =>
      rw [List.drop_succ_cons, ih, show 3 * (k + 1) = 3 * k + 3 by omega]
      simp [ens]
theorem ens_app (l m : List En) : ens (l ++ m) = ens l ++ ens m := by simp [ens]
theorem Rd.entry {w : World} {A : Option Addr} {l : List En} (h : Rd w A (ens l)) {k : Nat} (hk : k < l.length) :
    ∃ b o e, A = some ⟨b, o, none⟩ ∧ b < w.heap.size ∧ l[k]? = some e ∧ w.cell? ⟨b, o + k * 3, none⟩ = some (.int .i64 e.term) ∧ w.cell? ⟨b, o + k * 3 + 1, none⟩ = some (.int .i64 e.kind) ∧ w.cell? ⟨b, o + k * 3 + 2, none⟩ = some (.int .i64 e.value) := by
  have hd : (ens l).drop (3 * k) = ens (l.drop k) := (ens_drop l k).symm
  rw [List.drop_eq_getElem_cons hk] at hd
  have e0 : (ens l)[k * 3]? = some (.int .i64 l[k].term) := by
    have := List.getElem?_drop (xs := ens l) (i := 3 * k) (j := 0)
    rw [hd] at this
    rw [show k * 3 = 3 * k + 0 by omega, ← this]; rfl
  have e1 : (ens l)[k * 3 + 1]? = some (.int .i64 l[k].kind) := by
    have := List.getElem?_drop (xs := ens l) (i := 3 * k) (j := 1)
    rw [hd] at this
    rw [show k * 3 + 1 = 3 * k + 1 by omega, ← this]; rfl
  have e2 : (ens l)[k * 3 + 2]? = some (.int .i64 l[k].value) := by
    have := List.getElem?_drop (xs := ens l) (i := 3 * k) (j := 2)
    rw [hd] at this
    rw [show k * 3 + 2 = 3 * k + 2 by omega, ← this]; rfl
  obtain ⟨b, o, rfl, hb, c0⟩ := h _ _ e0
  obtain ⟨b1, o1, h1, _, c1⟩ := h _ _ e1
  obtain ⟨b2, o2, h2, _, c2⟩ := h _ _ e2
  simp only [Option.some.injEq, Addr.mk.injEq, and_true] at h1 h2
  obtain ⟨rfl, rfl⟩ := h1
  obtain ⟨rfl, rfl⟩ := h2
  exact ⟨b, o, l[k], rfl, hb, List.getElem?_eq_getElem hk, c0, by rw [Nat.add_assoc]; exact c1, by rw [Nat.add_assoc]; exact c2⟩
/-- The states behind each. -/
def scanS (s : St) : List En → List St
  | [] => []
  | e :: l => nextS s e :: scanS (nextS s e) l
theorem scanS_length (s : St) (l : List En) : (scanS s l).length = l.length := by
  induction l generalizing s with
  | nil => rfl
  | cons e l ih => simp [scanS, ih]
theorem scanS_at (s : St) (l : List En) (k : Nat) (e : En) (h : l[k]? = some e) : (scanS s l)[k]? = some (nextS (allS s (l.take k)) e) := by
  induction l generalizing s k with
  | nil => simp at h
  | cons d l ih =>
    cases k with
    | zero => simp at h; subst h; rfl
    | succ k => simpa [scanS, allS] using ih (nextS s d) k (by simpa using h)
theorem allS_take (s : St) (l : List En) (k : Nat) (e : En) (h : l[k]? = some e) : allS s (l.take (k + 1)) = nextS (allS s (l.take k)) e := by
  rw [List.take_add_one, h]; exact allS_snoc _ _ _

theorem slice1 (b o m ck : Nat) (h : 1 ≤ m) (h2 : m ≤ ck) (h3 : ck ≤ maxLen) (W : World) : (Instr.sliceAt 37 (.slice (some ⟨b, o, none⟩) m ck) (some (.int .i64 1)) none none).run Try.prog W = .ok (.slice (if ck = 1 then some ⟨b, o, none⟩ else some (Addr.add ⟨b, o, none⟩ (1 * 3))) (m - 1) (ck - 1)) W := by
  unfold maxLen at h3
  have h1 : (1 : Int) ≤ m := by omega
  have h2 : (m : Int) ≤ ck := by omega
  by_cases hc : ck = 1
  · subst hc
    go_simp
  · go_simp
/-- A store of all five. -/
theorem Box5.setAll {w : World} {b : Nat} {s : St} (h : Box5 w b s) (n : St) :
    Box5 (((((w.setCell ⟨b, 0, none⟩ (.int .i64 n.index)).setCell ⟨b, 1, none⟩ (.int .i64 n.term)).setCell ⟨b, 2, none⟩ (.int .i64 n.sum)).setCell ⟨b, 3, none⟩ (.int .i64 n.level)).setCell ⟨b, 4, none⟩ (.bool n.final)) b n ∧
    KeepB (fun x => x ≠ b) w (((((w.setCell ⟨b, 0, none⟩ (.int .i64 n.index)).setCell ⟨b, 1, none⟩ (.int .i64 n.term)).setCell ⟨b, 2, none⟩ (.int .i64 n.sum)).setCell ⟨b, 3, none⟩ (.int .i64 n.level)).setCell ⟨b, 4, none⟩ (.bool n.final)) := by
  obtain ⟨a1, a2, a3, a4, a5⟩ := s
  obtain ⟨n1, n2, n3, n4, n5⟩ := n
  refine ⟨?_, (((((KeepB.refl _ _).setCell (by simp) _).setCell (by simp) _).setCell (by simp) _).setCell (by simp) _).setCell (by simp) _⟩
  have g0 := h.set (s' := ⟨n1, a2, a3, a4, a5⟩) 0 (.int .i64 n1) ⟨_, h.1.1⟩ rfl rfl rfl rfl rfl
  have g1 := g0.set (s' := ⟨n1, n2, a3, a4, a5⟩) 1 (.int .i64 n2) ⟨_, g0.1.2.1⟩ rfl rfl rfl rfl rfl
  have g2 := g1.set (s' := ⟨n1, n2, n3, a4, a5⟩) 2 (.int .i64 n3) ⟨_, g1.1.2.2.1⟩ rfl rfl rfl rfl rfl
  have g3 := g2.set (s' := ⟨n1, n2, n3, n4, a5⟩) 3 (.int .i64 n4) ⟨_, g2.1.2.2.2.1⟩ rfl rfl rfl rfl rfl
  exact g3.set (s' := ⟨n1, n2, n3, n4, n5⟩) 4 (.bool n5) ⟨_, g3.1.2.2.2.2⟩ rfl rfl rfl rfl rfl

theorem Box5.of_heap {w : World} {g : Nat} {s : St} {T : TypeId} (h : w.heap[g]? = some (.cells #[.int .i64 s.index, .int .i64 s.term, .int .i64 s.sum, .int .i64 s.level, .bool s.final] T)) : Box5 w g s := by
  have hc : ∀ j, w.cell? ⟨g, j, none⟩ = (#[.int .i64 s.index, .int .i64 s.term, .int .i64 s.sum, .int .i64 s.level, .bool s.final] : Array Value)[j]? := fun j => by
    rw [cell_of_row _ _ _ _ T (0, 0) h]
  refine ⟨⟨?_, ?_, ?_, ?_, ?_⟩, fun j => ?_⟩
  · rw [hc]; rfl
  · rw [hc]; rfl
  · rw [hc]; rfl
  · rw [hc]; rfl
  · rw [hc]; rfl
  · simp [World.frozen?, h]
theorem Box5.alloc {w : World} {g : Nat} {s : St} (h : Box5 w g s) (o : Obj) : Box5 (w.alloc o) g s := h.keep ((KeepB.refl (fun _ => True) w).alloc o) trivial
theorem elemE : Elem Try.prog 37 30 (.agg #[.int .i64 0, .int .i64 0, .int .i64 0]) 3 24 := ⟨Try.underlying37, by kernel_rfl, rfl, by omega⟩
theorem ens_one (l : List En) : ∀ u ∈ ens l, u.oneCell' = true := by
  intro u hu
  simp only [ens, List.mem_flatMap, List.mem_cons, List.not_mem_nil, or_false] at hu
  obtain ⟨e, _, rfl | rfl | rfl⟩ := hu <;> rfl

end Go.Proofs.Ytoehcmddfpompaa
