/- The walks of level: Stage, Known, Entry, Format. -/
import Derived.Test.YtoehcmddfpompaaEntBx
import Derived.Test.YtoehcmddfpompaaLevPl
import Derived.Test.YtoehcmddfpompaaCont
namespace Go.Proofs.Ytoehcmddfpompaa
open Go Go.RowKit Go.Shelf
attribute [local go_sem] Oper.semAt_some

theorem stage_any (s : St) (w : World) : Calls Try.prog 11 #[s.v] w fun e w' => e = .returned (.int .i64 (stageS s)) ∧ Below w.heap.size w w' := by
  have H := Lib.hid (show stageS s = if s.level = 2 then (if s.final = true then 2 else 1) else 0 from rfl)
  obtain ⟨a1, a2, a3, a4, a5⟩ := s
  dsimp only [St.v] at *
  by_cases h : a4 = 2
  · subst h
    cases a5
    all_goals
      go_enter Try.func11, Try.ntmps11
      go_wp2
      go_ret
      exact ⟨ret_int (by rw [H.out]; rfl), (Below.refl _ _).alloc (Nat.le_refl _) _⟩
  · have hne : (a4 != 2) = true := by simpa using h
    have H2 := Lib.hid h
    clear h
    go_enter Try.func11, Try.ntmps11
    go_wp2
    go_ret
    exact ⟨ret_int (by rw [H.out, if_neg H2.out]), (Below.refl _ _).alloc (Nat.le_refl _) _⟩

theorem known1_any (x : Int) (w : World) : Calls Try.prog 23 #[.int .i64 x] w fun e w' => e = .returned (.bool (not2 x)) ∧ Below w.heap.size w w' := by
  have H := Lib.hid (show not2 x = (x != 2) from rfl)
  go_enter Try.func23, Try.ntmps23
  go_wp2
  go_ret
  exact ⟨ret_bool (by rw [H.out]), Below.refl _ _⟩

theorem known_any (A : Option Addr) (n c : Nat) (l : List Int) (hn : l.length = n) (hl : l.length ≤ 1099511627776) (w : World) (hA : Rd w A (ivs l)) :
    Calls Try.prog 12 #[.slice A n c] w fun e w' => e = .returned (.bool (knownB l)) ∧ Below w.heap.size w w' := by
  have HC := Lib.hid (containsP 23 #[] not2 A n c l hn hl w hA (enters_of Try.func23 (by kernel_rfl) rfl) (fun x W _ => known1_any x W))
  have H := Lib.hid (show knownB l = (!l.isEmpty && !(l.any not2)) from rfl)
  generalize l.any not2 = f at *
  by_cases h0 : n = 0
  · subst h0
    obtain rfl : l = [] := List.eq_nil_of_length_eq_zero hn
    have H2 := Lib.hid (show knownB [] = false from rfl)
    clear H HC hn
    refine (callsIn_wide (n := 9)).1 (callsIn_of_wp Try.func12 rfl trivial ?_ rfl)
    simp only [Try.ntmps12, List.size_toArray, List.length_cons, List.length_nil, Nat.reduceAdd, Nat.reduceSub, Array.replicate_succ, Array.replicate_zero, List.push_toArray, List.append_toArray, List.nil_append, List.cons_append]
    gi_wp2_with fail
    refine scope_goto 0 (fun a w' => (∃ u1 u3 u4 u5 u6 u7 u8 u9 : Value, a = ⟨#[.slice A 0 c, u1, .bool false, u3, u4, u5, u6, u7, u8, u9], []⟩) ∧ w' = w) (fun _ _ => 0) rfl ?pass ?first
    case first =>
      intro hX
      have HX := Lib.hid hX
      clear hX
      gi_wp2
      refine wpIn_goto ?_
      gi_wp2
      exact ⟨rfl, ⟨_, _, _, _, _, _, _, _, rfl⟩, rfl⟩
    case pass =>
      rintro a w' ⟨⟨u1, u3, u4, u5, u6, u7, u8, u9, rfl⟩, rfl⟩
      gi_wp2
      simp only [Exit.jump]
      gi_wp2
      go_returns
      exact ⟨ret_bool (by rw [H2.out]), Below.refl _ _⟩
  · have e1 : l.isEmpty = false := by cases l with
      | nil => exact (h0 hn.symm).elim
      | cons a m => rfl
    rw [e1] at H
    have hne : ((n : Int) == 0) = false := by simp only [beq_eq_false_iff_ne]; omega
    clear e1
    have Hn := Lib.hid hn
    clear hn
    refine (callsIn_wide (n := 9)).1 (callsIn_of_wp Try.func12 rfl trivial ?_ rfl)
    simp only [Try.ntmps12, List.size_toArray, List.length_cons, List.length_nil, Nat.reduceAdd, Nat.reduceSub, Array.replicate_succ, Array.replicate_zero, List.push_toArray, List.append_toArray, List.nil_append, List.cons_append]
    gi_wp2_with fail
    refine scope_goto 0 (fun a w' => (∃ u0 u1 u3 u4 u5 u6 u7 u8 u9 : Value, a = ⟨#[u0, u1, .bool (!f), u3, u4, u5, u6, u7, u8, u9], []⟩) ∧ Below w.heap.size w w') (fun _ _ => 0) rfl ?pass ?first
    case first =>
      intro hX
      have HX := Lib.hid hX
      clear hX
      gi_wp2_with fail
      refine ⟨trivial, (callsIn_wide.2 HC.out).mono ?_⟩
      rintro e w1 ⟨rfl, hB⟩
      gi_wp2
      refine wpIn_label ?_
      rename_i hgo
      refine hgo _ _ ?_
      exact HX.out _ _ ⟨⟨_, _, _, _, _, _, _, _, _, rfl⟩, hB⟩
    case pass =>
      rintro a w' ⟨⟨u0, u1, u3, u4, u5, u6, u7, u8, u9, rfl⟩, hB⟩
      gi_wp2
      simp only [Exit.jump]
      gi_wp2
      go_returns
      exact ⟨ret_bool (by rw [H.out]; rfl), hB⟩

theorem entryL_any (k v t : Int) (w : World) : Calls Try.prog 9 #[.int .i64 k, .int .i64 v, .int .i64 t] w fun e w' => e = .returned (.tuple #[(entryL k v t).1.v, .int .i64 (entryL k v t).2]) ∧ Below w.heap.size w w' := by
  have hN : Box3 (w.alloc (.cells #[.int .i64 t, .int .i64 k, .int .i64 v] 30)) w.heap.size ⟨t, k, v⟩ := ⟨by simp, by simp, by simp⟩
  have hF : ∀ o, (w.alloc (.cells #[.int .i64 t, .int .i64 k, .int .i64 v] 30)).frozen? ⟨w.heap.size, o, none⟩ = false := fun o => by simp
  have hB0 : Below w.heap.size w (w.alloc (.cells #[.int .i64 t, .int .i64 k, .int .i64 v] 30)) := (Below.refl _ _).alloc (Nat.le_refl _) _
  have hl := hN.lt
  cases h : rightB ⟨t, k, v⟩ with
  | true =>
    rw [show entryL k v t = (⟨t, k, v⟩, 0) from if_pos h]
    go_enter Try.func9, Try.ntmps9
    go_wp2_with fail
    generalize w.alloc (.cells #[.int .i64 t, .int .i64 k, .int .i64 v] 30) = W at *
    refine (right_any ⟨t, k, v⟩ W).mono ?_
    rintro e w1 ⟨rfl, hB⟩
    rw [h]
    have hN1 := hN.keep (keepT hB) trivial
    have hf := fun o => ((bCells hB).2 w.heap.size o hl).trans (hF o)
    have f0 := hf 0
    have f1 := hf 1
    have f2 := hf 2
    obtain ⟨c0, c1, c2⟩ := hN1
    dsimp only at c0 c1 c2
    clear hf hF hN
    go_wp2
    refine bodyPost_ret (v := .tuple #[.agg #[.int .i64 t, .int .i64 k, .int .i64 v], .int .i64 0]) (by simp [results, Try.results9, go_sem, c0, c1, c2]) rfl ?_
    exact ⟨rfl, (((bTr hB0 hB).setCell (by simp) _).setCell (by simp) _).setCell (by simp) _⟩
  | false =>
    rw [show entryL k v t = (⟨0, 0, 0⟩, 2) from if_neg (by rw [h]; simp)]
    go_enter Try.func9, Try.ntmps9
    go_wp2_with fail
    generalize w.alloc (.cells #[.int .i64 t, .int .i64 k, .int .i64 v] 30) = W at *
    refine (right_any ⟨t, k, v⟩ W).mono ?_
    rintro e w1 ⟨rfl, hB⟩
    rw [h]
    have hN1 := hN.keep (keepT hB) trivial
    have hf := fun o => ((bCells hB).2 w.heap.size o hl).trans (hF o)
    have f0 := hf 0
    have f1 := hf 1
    have f2 := hf 2
    obtain ⟨c0, c1, c2⟩ := hN1
    dsimp only at c0 c1 c2
    clear hf hF hN
    go_wp2
    refine bodyPost_ret (v := .tuple #[.agg #[.int .i64 0, .int .i64 0, .int .i64 0], .int .i64 2]) (by simp [results, Try.results9, go_sem, c0, c1, c2]) rfl ?_
    exact ⟨rfl, (((bTr hB0 hB).setCell (by simp) _).setCell (by simp) _).setCell (by simp) _⟩

theorem format_any (s : St) (b : Int) (w : World) : Calls Try.prog 16 #[s.v, .int .i64 b] w fun e w' => e = .returned (.int .i64 (formatS s b)) ∧ Below w.heap.size w w' := by
  have H := Lib.hid (show formatS s b = min (max b 1) (min (1 + stageS s) 2) from rfl)
  have hst := stageS_bd s
  have h5 := Box5.new w s 23
  have hl := h5.lt
  obtain ⟨a1, a2, a3, a4, a5⟩ := s
  obtain ⟨⟨c0, c1, c2, c3, c4⟩, _⟩ := h5
  dsimp only [St.v] at *
  have HS := Lib.hid (fun W => stage_any ⟨a1, a2, a3, a4, a5⟩ W)
  dsimp only [St.v] at HS
  generalize stageS ⟨a1, a2, a3, a4, a5⟩ = z at *
  have hz : z = 0 ∨ z = 1 ∨ z = 2 := by omega
  rcases Int.lt_or_le b 2 with hb | hb
  · rcases hz with rfl | rfl | rfl
    all_goals
      rcases Int.lt_or_le b 1 with hb1 | hb1
      all_goals
        go_enter Try.func16, Try.ntmps16
        go_wp2_with (go_at_call 11; refine (HS.out _).mono ?_; rintro e w1 ⟨rfl, hB⟩)
        go_ret
        exact ⟨ret_int (by rw [H.out]; omega), ((Below.refl _ _).alloc (Nat.le_refl _) _).trans (hB.mono (by simp))⟩
  · have hb1 : 1 ≤ b := by omega
    rcases hz with rfl | rfl | rfl
    all_goals
      go_enter Try.func16, Try.ntmps16
      go_wp2_with (go_at_call 11; refine (HS.out _).mono ?_; rintro e w1 ⟨rfl, hB⟩)
      all_goals
        go_ret
        exact ⟨ret_int (by rw [H.out]; omega), ((Below.refl _ _).alloc (Nat.le_refl _) _).trans (hB.mono (by simp))⟩
end Go.Proofs.Ytoehcmddfpompaa
