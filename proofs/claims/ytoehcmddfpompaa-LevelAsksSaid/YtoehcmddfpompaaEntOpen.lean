/- Arguments opened: states, entries, rows of these and of numbers. -/
import Derived.Test.YtoehcmddfpompaaOpen
import Derived.Test.YtoehcmddfpompaaOpenI
import Derived.Test.YtoehcmddfpompaaEntBx
namespace Go.Proofs.Ytoehcmddfpompaa
open Go Go.ChangeShapes Go.WideShapes Go.ChangeAt Go.RowKit

theorem choose_below {α : Type} [Inhabited α] {n : Nat} {p : Nat → α → Prop} (h : ∀ r, r < n → ∃ x, p r x) : ∃ f : Nat → α, ∀ r, r < n → p r (f r) :=
  ⟨fun r => if hr : r < n then (h r hr).choose else default, fun r hrc => by simp only [hrc, dif_pos]; exact (h r hrc).choose_spec⟩
instance : Inhabited En := ⟨⟨0, 0, 0⟩⟩
instance : Inhabited St := ⟨⟨0, 0, 0, 0, false⟩⟩

section
variable {H : Type} {enc : TypeId × Value → H} {W : World} {base0 : Nat} {sp : Nat → Bool} {held : Bool} {base : Nat}

theorem trod_entry {fuel : Nat} {cs : List Value} {x : DataW H × List MemPlace} (h : DataW.trod enc Try.prog W base0 sp held fuel 30 cs = some x) : ∃ e : En, e.ok ∧ cs = [.int .i64 e.term, .int .i64 e.kind, .int .i64 e.value] := by
  obtain ⟨xs, n, _, _, hl, hlen, hf⟩ := DataW.trod_struct Try.underlying30 h
  rw [show Try.prog.cellsOf 30 = 3 by kernel_rfl] at hl
  have hlen' : xs.length = 3 := hlen
  have hc : Try.prog.cellsOf 3 = 1 := by kernel_rfl
  match cs, hl with
  | [c0, c1, c2], _ =>
    match xs, hlen' with
    | [y0, y1, y2], _ =>
      have h0 : DataW.trod enc Try.prog W base0 sp held n 3 [c0] = some y0 := by simpa [hc] using hf 0 _ rfl
      have h1 : DataW.trod enc Try.prog W base0 sp held n 3 [c1] = some y1 := by simpa [hc] using hf 1 _ rfl
      have h2 : DataW.trod enc Try.prog W base0 sp held n 3 [c2] = some y2 := by simpa [hc] using hf 2 _ rfl
      obtain ⟨a0, e0, _, w0⟩ := DataW.trod_int Try.underlying3 h0
      obtain ⟨a1, e1, _, w1⟩ := DataW.trod_int Try.underlying3 h1
      obtain ⟨a2, e2, _, w2⟩ := DataW.trod_int Try.underlying3 h2
      simp only [List.cons.injEq, and_true] at e0 e1 e2
      subst e0 e1 e2
      exact ⟨⟨a0, a1, a2⟩, ⟨bounds_i64 w0, bounds_i64 w1, bounds_i64 w2⟩, rfl⟩
theorem trod_state {fuel : Nat} {cs : List Value} {x : DataW H × List MemPlace} (h : DataW.trod enc Try.prog W base0 sp held fuel 23 cs = some x) : ∃ s : St, s.ok ∧ cs = [.int .i64 s.index, .int .i64 s.term, .int .i64 s.sum, .int .i64 s.level, .bool s.final] := by
  obtain ⟨xs, n, _, _, hl, hlen, hf⟩ := DataW.trod_struct Try.underlying23 h
  rw [show Try.prog.cellsOf 23 = 5 by kernel_rfl] at hl
  have hlen' : xs.length = 5 := hlen
  have hc : Try.prog.cellsOf 3 = 1 := by kernel_rfl
  have hcb : Try.prog.cellsOf 4 = 1 := by kernel_rfl
  match cs, hl with
  | [c0, c1, c2, c3, c4], _ =>
    match xs, hlen' with
    | [y0, y1, y2, y3, y4], _ =>
      have h0 : DataW.trod enc Try.prog W base0 sp held n 3 [c0] = some y0 := by simpa [hc] using hf 0 _ rfl
      have h1 : DataW.trod enc Try.prog W base0 sp held n 3 [c1] = some y1 := by simpa [hc] using hf 1 _ rfl
      have h2 : DataW.trod enc Try.prog W base0 sp held n 3 [c2] = some y2 := by simpa [hc] using hf 2 _ rfl
      have h3 : DataW.trod enc Try.prog W base0 sp held n 3 [c3] = some y3 := by simpa [hc] using hf 3 _ rfl
      have h4 : DataW.trod enc Try.prog W base0 sp held n 4 [c4] = some y4 := by simpa [hcb] using hf 4 _ rfl
      obtain ⟨a0, e0, _, w0⟩ := DataW.trod_int Try.underlying3 h0
      obtain ⟨a1, e1, _, w1⟩ := DataW.trod_int Try.underlying3 h1
      obtain ⟨a2, e2, _, w2⟩ := DataW.trod_int Try.underlying3 h2
      obtain ⟨a3, e3, _, w3⟩ := DataW.trod_int Try.underlying3 h3
      obtain ⟨a4, e4, _⟩ := DataW.trod_bool Try.underlying4 h4
      simp only [List.cons.injEq, and_true] at e0 e1 e2 e3 e4
      subst e0 e1 e2 e3 e4
      exact ⟨⟨a0, a1, a2, a3, a4⟩, ⟨bounds_i64 w0, bounds_i64 w1, bounds_i64 w2, bounds_i64 w3⟩, rfl⟩
theorem open_state {v : Value} {d : DataW H} {p : List MemPlace} (hval : Value.okWide Try.prog W .any base 23 v) (h1 : DataW.Trod enc Try.prog W base0 sp held 23 v d p) : ∃ s : St, s.ok ∧ v = s.v := by
  obtain ⟨cs, rfl, hsz⟩ := okWide_struct Try.underlying23 hval
  obtain ⟨fuel, hf⟩ := h1
  obtain ⟨s, hs, he⟩ := trod_state hf
  refine ⟨s, hs, ?_⟩
  simp only [Value.cells] at he
  obtain ⟨l⟩ := cs
  simp only at he
  subst he
  rfl

theorem trod_entries {fuel : Nat} {cs : List Value} {x : DataW H × List MemPlace} (h : DataW.trod enc Try.prog W base0 sp held fuel 37 cs = some x) :
    ∃ A c, ∃ l : List En, cs = [.slice A l.length c] ∧ l.length ≤ c ∧ c ≤ maxLen ∧ Rd W A (ens l) ∧ ∀ e ∈ l, e.ok := by
  have hc : Try.prog.cellsOf 30 = 3 := by kernel_rfl
  rcases DataW.trod_slice Try.underlying37 h with ⟨rfl, _⟩ | ⟨a, len, cap, elems, rest, n, _, rfl, _, _, hlc, hcm, hel, hi, _⟩
  · exact ⟨none, 0, [], rfl, Nat.le_refl _, Nat.zero_le _, Rd.nil _ _, by simp⟩
  · rw [hc] at hi
    have each : ∀ r, r < len → ∃ e : En, e.ok ∧ W.cell? (a.add (r * 3)) = some (.int .i64 e.term) ∧ W.cell? ((a.add (r * 3)).add 1) = some (.int .i64 e.kind) ∧ W.cell? ((a.add (r * 3)).add 2) = some (.int .i64 e.value) := fun r hr => by
      have h2 := hi r hr
      have h3 : elems[r]? = some (elems[r]'(by omega)) := List.getElem?_eq_getElem (by omega)
      rw [h3, Option.bind_eq_some_iff] at h2
      obtain ⟨cs, hcs, ht⟩ := h2
      obtain ⟨_, _, hcell⟩ := World.cells?_some hcs
      obtain ⟨e, he, rfl⟩ := trod_entry ht
      have g0 := hcell 0 (by omega)
      have g1 := hcell 1 (by omega)
      have g2 := hcell 2 (by omega)
      refine ⟨e, he, ?_, g1, g2⟩
      have : (a.add (r * 3)).add 0 = a.add (r * 3) := by simp [Addr.add]
      rw [this] at g0
      exact g0
    obtain ⟨f, hfs⟩ := choose_below each
    have hlen : ((List.range len).map f).length = len := by simp
    obtain ⟨ab, ao, spot⟩ := a
    refine ⟨some ⟨ab, ao, spot⟩, cap, (List.range len).map f, by rw [hlen], by omega, hcm, fun j u hj => ?_, fun e he => ?_⟩
    · have hjl : j < 3 * len := by
        have := (List.getElem?_eq_some_iff.1 hj).1
        rw [ens_length, hlen] at this
        exact this
      have hr : j / 3 < len := by omega
      obtain ⟨_, g0, g1, g2⟩ := hfs (j / 3) hr
      have hspot : spot = none := by
        have := World.cell?_spot (hfs 0 (by omega)).2.1
        simpa [Addr.add] using this
      subst hspot
      simp only [Addr.add_lit] at g0 g1 g2
      have hd : (ens ((List.range len).map f)).drop (3 * (j / 3)) = ens (((List.range len).map f).drop (j / 3)) := (ens_drop _ _).symm
      have hrl : j / 3 < ((List.range len).map f).length := by simpa using hr
      have hg : (ens ((List.range len).map f))[3 * (j / 3) + j % 3]? = (ens (((List.range len).map f)[j / 3]'hrl :: ((List.range len).map f).drop (j / 3 + 1)))[j % 3]? := by
        rw [← List.drop_eq_getElem_cons hrl, ← hd, List.getElem?_drop]
      rw [show 3 * (j / 3) + j % 3 = j by omega, hj] at hg
      simp only [List.getElem_map, List.getElem_range, ens, List.flatMap_cons] at hg
      have hb := World.block_lt_of_cell? W _ g0
      refine ⟨ab, ao, rfl, hb, ?_⟩
      have h3 : j % 3 = 0 ∨ j % 3 = 1 ∨ j % 3 = 2 := by omega
      rcases h3 with h3 | h3 | h3 <;> rw [h3] at hg <;> simp at hg <;> subst hg
      · rw [show ao + j = ao + j / 3 * 3 by omega]; exact g0
      · rw [show ao + j = ao + j / 3 * 3 + 1 by omega]; exact g1
      · rw [show ao + j = ao + j / 3 * 3 + 2 by omega]; exact g2
    · obtain ⟨r, hr, rfl⟩ := List.mem_map.1 he
      exact (hfs r (by simpa using hr)).1
theorem open_entries {v : Value} {d : DataW H} {p : List MemPlace} (hval : Value.okWide Try.prog W .any base 37 v) (h1 : DataW.Trod enc Try.prog W base0 sp held 37 v d p) :
    ∃ A c, ∃ l : List En, v = .slice A l.length c ∧ l.length ≤ c ∧ c ≤ maxLen ∧ Rd W A (ens l) ∧ ∀ e ∈ l, e.ok := by
  obtain ⟨a1, len, cap, rfl⟩ := okWide_slice Try.underlying37 hval
  obtain ⟨fuel, hf⟩ := h1
  obtain ⟨A, c, l, h, r⟩ := trod_entries hf
  simp only [Value.cells, List.cons.injEq, and_true] at h
  exact ⟨A, c, l, h, r⟩
end
end Go.Proofs.Ytoehcmddfpompaa
