/- The walks of entries and states: what comes behind. -/
import Derived.Test.YtoehcmddfpompaaEntWc
import Derived.Test.YtoehcmddfpompaaFlow
namespace Go.Proofs.Ytoehcmddfpompaa
open Go Go.RowKit

/-- The struct in a block of its own. -/
def Box5 (W : World) (b : Nat) (s : St) : Prop :=
  (W.cell? ⟨b, 0, none⟩ = some (.int .i64 s.index) ∧ W.cell? ⟨b, 1, none⟩ = some (.int .i64 s.term) ∧ W.cell? ⟨b, 2, none⟩ = some (.int .i64 s.sum) ∧ W.cell? ⟨b, 3, none⟩ = some (.int .i64 s.level) ∧ W.cell? ⟨b, 4, none⟩ = some (.bool s.final)) ∧
  ∀ o, W.frozen? ⟨b, o, none⟩ = false

theorem cell_set {w : World} {b o : Nat} {u : Value} (h : w.cell? ⟨b, o, none⟩ = some u) (v : Value) (o2 : Nat) : (w.setCell ⟨b, o, none⟩ v).cell? ⟨b, o2, none⟩ = if o2 = o then some v else w.cell? ⟨b, o2, none⟩ := by
  split
  · rename_i e; subst e; exact World.cell?_setCell_same' _ _ _ (by rw [h]; rfl)
  · rename_i e; exact World.cell?_setCell_other (h := by intro h; injection h with _ h; exact e h.symm) ..
theorem Box5.set {w : World} {b : Nat} {s s' : St} (h : Box5 w b s) (o : Nat) (v : Value) (ho : ∃ u, w.cell? ⟨b, o, none⟩ = some u)
    (h0 : (if 0 = o then v else .int .i64 s.index) = .int .i64 s'.index) (h1 : (if 1 = o then v else .int .i64 s.term) = .int .i64 s'.term) (h2 : (if 2 = o then v else .int .i64 s.sum) = .int .i64 s'.sum)
    (h3 : (if 3 = o then v else .int .i64 s.level) = .int .i64 s'.level) (h4 : (if 4 = o then v else .bool s.final) = .bool s'.final) : Box5 (w.setCell ⟨b, o, none⟩ v) b s' := by
  obtain ⟨u, hu⟩ := ho
  obtain ⟨⟨c0, c1, c2, c3, c4⟩, hf⟩ := h
  refine ⟨⟨?_, ?_, ?_, ?_, ?_⟩, fun o => by rw [World.frozen?_setCell]; exact hf o⟩ <;> rw [cell_set hu]
  · rw [← h0, c0]; split <;> rfl
  · rw [← h1, c1]; split <;> rfl
  · rw [← h2, c2]; split <;> rfl
  · rw [← h3, c3]; split <;> rfl
  · rw [← h4, c4]; split <;> rfl
theorem Box5.keep {S : Nat → Prop} {W W' : World} {b : Nat} {s : St} (h : Box5 W b s) (hk : KeepB S W W') (hs : S b) : Box5 W' b s := by
  obtain ⟨⟨c0, c1, c2, c3, c4⟩, hf⟩ := h
  exact ⟨⟨hk.cell (p := ⟨b, 0, none⟩) hs c0, hk.cell (p := ⟨b, 1, none⟩) hs c1, hk.cell (p := ⟨b, 2, none⟩) hs c2, hk.cell (p := ⟨b, 3, none⟩) hs c3, hk.cell (p := ⟨b, 4, none⟩) hs c4⟩,
    fun o => (hk.frozen (p := ⟨b, o, none⟩) (World.block_lt_of_cell? W ⟨b, 0, none⟩ c0) hs).trans (hf o)⟩
theorem Box5.lt {W : World} {b : Nat} {s : St} (h : Box5 W b s) : b < W.heap.size := World.block_lt_of_cell? W _ h.1.1
theorem Box5.new (W : World) (s : St) (t : TypeId) : Box5 (W.alloc (.cells #[.int .i64 s.index, .int .i64 s.term, .int .i64 s.sum, .int .i64 s.level, .bool s.final] t)) W.heap.size s := by
  refine ⟨⟨?_, ?_, ?_, ?_, ?_⟩, fun o => ?_⟩ <;> simp

theorem deed0 (v : Int) (s : St) (b : Nat) (w : World) (hb : Box5 w b s) :
    Calls Try.prog 34 #[.pointer (some ⟨b, 0, none⟩), .int .i64 v] w fun e w' => e = .returned (.tuple #[]) ∧ Box5 w' b (deedS 0 v s) ∧ KeepB (fun x => x ≠ b) w w' := by
  have HB := Lib.hid hb
  obtain ⟨a1, a2, a3, a4, a5⟩ := s
  obtain ⟨⟨c0, c1, c2, c3, c4⟩, hf⟩ := hb
  have hf2 := hf 2
  have hf3 := hf 3
  have hf4 := hf 4
  clear hf
  go_enter Try.func34, Try.ntmps34
  go_wp2
  go_end0
  exact ⟨rfl, HB.out, KeepB.refl _ _⟩

theorem deed1 (v : Int) (s : St) (h1 : 0 ≤ s.sum ∧ s.sum ≤ 1073741824) (h2 : 0 ≤ v ∧ v ≤ 1073741824) (b : Nat) (w : World) (hb : Box5 w b s) :
    Calls Try.prog 35 #[.pointer (some ⟨b, 0, none⟩), .int .i64 v] w fun e w' => e = .returned (.tuple #[]) ∧ Box5 w' b (deedS 1 v s) ∧ KeepB (fun x => x ≠ b) w w' := by
  have HB := Lib.hid hb
  obtain ⟨a1, a2, a3, a4, a5⟩ := s
  obtain ⟨⟨c0, c1, c2, c3, c4⟩, hf⟩ := hb
  have hf2 := hf 2
  have hf3 := hf 3
  have hf4 := hf 4
  clear hf
  dsimp only at c0 c1 c2 c3 c4 h1
  have hm : bits BinOp.and IntKind.i64 (31 * a3 + v + 1) 1073741823 = (31 * a3 + v + 1) % 1073741824 := by
    have := bits_mask .i64 63 (by decide) (fun n h0 h1 => by rw [IntKind.wrap_i64]; omega) 30 (by decide) (31 * a3 + v + 1) (by omega) (by omega)
    simpa using this
  go_enter Try.func35, Try.ntmps35
  go_wp2
  go_end0
  exact ⟨rfl, HB.out.set 2 _ ⟨_, c2⟩ rfl rfl rfl rfl rfl, (KeepB.refl _ _).setCell (by simp) _⟩

theorem deed2 (v : Int) (s : St) (b : Nat) (w : World) (hb : Box5 w b s) :
    Calls Try.prog 36 #[.pointer (some ⟨b, 0, none⟩), .int .i64 v] w fun e w' => e = .returned (.tuple #[]) ∧ Box5 w' b (deedS 2 v s) ∧ KeepB (fun x => x ≠ b) w w' := by
  have HB := Lib.hid hb
  obtain ⟨a1, a2, a3, a4, a5⟩ := s
  obtain ⟨⟨c0, c1, c2, c3, c4⟩, hf⟩ := hb
  have hf2 := hf 2
  have hf3 := hf 3
  have hf4 := hf 4
  clear hf
  dsimp only at c0 c1 c2 c3 c4
  go_enter Try.func36, Try.ntmps36
  go_wp2
  go_end0
  exact ⟨rfl, HB.out.set 3 _ ⟨_, c3⟩ rfl rfl rfl rfl rfl, (KeepB.refl _ _).setCell (by simp) _⟩

theorem deed3 (v : Int) (s : St) (b : Nat) (w : World) (hb : Box5 w b s) :
    Calls Try.prog 37 #[.pointer (some ⟨b, 0, none⟩), .int .i64 v] w fun e w' => e = .returned (.tuple #[]) ∧ Box5 w' b (deedS 3 v s) ∧ KeepB (fun x => x ≠ b) w w' := by
  have HB := Lib.hid hb
  obtain ⟨a1, a2, a3, a4, a5⟩ := s
  obtain ⟨⟨c0, c1, c2, c3, c4⟩, hf⟩ := hb
  have hf2 := hf 2
  have hf3 := hf 3
  have hf4 := hf 4
  clear hf
  dsimp only at c0 c1 c2 c3 c4
  cases a5
  all_goals skip
  all_goals go_enter Try.func37, Try.ntmps37
  all_goals go_wp2
  all_goals go_end0
  · exact ⟨rfl, HB.out.set 3 _ ⟨_, c3⟩ rfl rfl rfl rfl rfl, (KeepB.refl _ _).setCell (by simp) _⟩
  · exact ⟨rfl, HB.out, KeepB.refl _ _⟩

theorem deed4 (v : Int) (s : St) (b : Nat) (w : World) (hb : Box5 w b s) :
    Calls Try.prog 38 #[.pointer (some ⟨b, 0, none⟩), .int .i64 v] w fun e w' => e = .returned (.tuple #[]) ∧ Box5 w' b (deedS 4 v s) ∧ KeepB (fun x => x ≠ b) w w' := by
  have HB := Lib.hid hb
  obtain ⟨a1, a2, a3, a4, a5⟩ := s
  obtain ⟨⟨c0, c1, c2, c3, c4⟩, hf⟩ := hb
  have hf2 := hf 2
  have hf3 := hf 3
  have hf4 := hf 4
  clear hf
  dsimp only at c0 c1 c2 c3 c4
  go_enter Try.func38, Try.ntmps38
  go_wp2
  go_end0
  exact ⟨rfl, HB.out.set 4 _ ⟨_, c4⟩ rfl rfl rfl rfl rfl, (KeepB.refl _ _).setCell (by simp) _⟩
end Go.Proofs.Ytoehcmddfpompaa
