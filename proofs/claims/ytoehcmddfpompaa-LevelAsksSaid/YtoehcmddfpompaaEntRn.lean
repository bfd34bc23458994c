/- The walk of the reference's Next. -/
import Derived.Test.YtoehcmddfpompaaEntBx
import Derived.Test.YtoehcmddfpompaaEntPl2
import Derived.Deep.DeepCutAuto
namespace Go.Proofs.Ytoehcmddfpompaa
open Go Go.RowKit

set_option maxHeartbeats 1000000 in
theorem nextR_no (s : St) (e : En) (w : World) (h : rightB e = false) : Calls Try.prog 10 #[s.v, e.v] w fun e' w' => e' = .returned s.v ∧ Below w.heap.size w w' := by
  obtain ⟨t, k, v⟩ := e
  obtain ⟨a1, a2, a3, a4, a5⟩ := s
  dsimp only [En.v, St.v] at *
  have HN := NextW.new w ⟨a1, a2, a3, a4, a5⟩ ⟨t, k, v⟩ ⟨0, 0, 0, 0, false⟩
  dsimp only at HN
  go_enter Try.func10, Try.ntmps10
  go_wp2_with fail
  generalize ((w.alloc (.cells #[.int .i64 a1, .int .i64 a2, .int .i64 a3, .int .i64 a4, .bool a5] 23)).alloc (.cells #[.int .i64 t, .int .i64 k, .int .i64 v] 30)).alloc (.cells #[.int .i64 0, .int .i64 0, .int .i64 0, .int .i64 0, .bool false] 23) = w3 at *
  refine (rightR_any ⟨t, k, v⟩ _).mono ?_
  rintro e w4 ⟨rfl, hB⟩
  replace HN := HN.keep hB
  clear hB
  rw [h]
  obtain ⟨⟨s0, s1, s2, s3, s4⟩, sf⟩ := HN.s5
  obtain ⟨e0, e1, e2⟩ := HN.e3
  obtain ⟨⟨z0, z1, z2, z3, z4⟩, zf⟩ := HN.z5
  dsimp only at s0 s1 s2 s3 s4 e0 e1 e2 z0 z1 z2 z3 z4
  have zf0 := zf 0
  have zf1 := zf 1
  have zf2 := zf 2
  have zf3 := zf 3
  have zf4 := zf 4
  go_wp2
  refine bodyPost_ret (v := .agg #[.int .i64 a1, .int .i64 a2, .int .i64 a3, .int .i64 a4, .bool a5]) (by simp [results, Try.results10, go_sem, z0, z1, z2, z3, z4, s0, s1, s2, s3, s4]) rfl ?_
  exact ⟨rfl, ((((HN.below.setCell (by simp <;> omega) _).setCell (by simp <;> omega) _).setCell (by simp <;> omega) _).setCell (by simp <;> omega) _).setCell (by simp; omega) _⟩

set_option maxHeartbeats 1000000 in
theorem nextR_no2 (s : St) (e : En) (w : World) (h : rightB e = true) (hf : fineB s = false) : Calls Try.prog 10 #[s.v, e.v] w fun e' w' => e' = .returned s.v ∧ Below w.heap.size w w' := by
  obtain ⟨t, k, v⟩ := e
  obtain ⟨a1, a2, a3, a4, a5⟩ := s
  dsimp only [En.v, St.v] at *
  have HN := NextW.new w ⟨a1, a2, a3, a4, a5⟩ ⟨t, k, v⟩ ⟨0, 0, 0, 0, false⟩
  dsimp only at HN
  go_enter Try.func10, Try.ntmps10
  go_wp2_with fail
  generalize ((w.alloc (.cells #[.int .i64 a1, .int .i64 a2, .int .i64 a3, .int .i64 a4, .bool a5] 23)).alloc (.cells #[.int .i64 t, .int .i64 k, .int .i64 v] 30)).alloc (.cells #[.int .i64 0, .int .i64 0, .int .i64 0, .int .i64 0, .bool false] 23) = w3 at *
  refine (rightR_any ⟨t, k, v⟩ _).mono ?_
  rintro e w4 ⟨rfl, hB⟩
  replace HN := HN.keep hB
  clear hB
  rw [h]
  obtain ⟨⟨s0, s1, s2, s3, s4⟩, sf⟩ := HN.s5
  obtain ⟨e0, e1, e2⟩ := HN.e3
  obtain ⟨⟨z0, z1, z2, z3, z4⟩, zf⟩ := HN.z5
  dsimp only at s0 s1 s2 s3 s4 e0 e1 e2 z0 z1 z2 z3 z4
  go_wp2_with fail
  refine (fineR_any ⟨a1, a2, a3, a4, a5⟩ _).mono ?_
  rintro e w5 ⟨rfl, hB⟩
  replace HN := HN.keep hB
  clear hB
  rw [hf]
  clear s0 s1 s2 s3 s4 sf e0 e1 e2 z0 z1 z2 z3 z4 zf
  obtain ⟨⟨s0, s1, s2, s3, s4⟩, sf⟩ := HN.s5
  obtain ⟨e0, e1, e2⟩ := HN.e3
  obtain ⟨⟨z0, z1, z2, z3, z4⟩, zf⟩ := HN.z5
  dsimp only at s0 s1 s2 s3 s4 e0 e1 e2 z0 z1 z2 z3 z4
  have zf0 := zf 0
  have zf1 := zf 1
  have zf2 := zf 2
  have zf3 := zf 3
  have zf4 := zf 4
  go_wp2
  refine bodyPost_ret (v := .agg #[.int .i64 a1, .int .i64 a2, .int .i64 a3, .int .i64 a4, .bool a5]) (by simp [results, Try.results10, go_sem, z0, z1, z2, z3, z4, s0, s1, s2, s3, s4]) rfl ?_
  exact ⟨rfl, ((((HN.below.setCell (by simp <;> omega) _).setCell (by simp <;> omega) _).setCell (by simp <;> omega) _).setCell (by simp <;> omega) _).setCell (by simp; omega) _⟩

set_option maxHeartbeats 1000000 in
theorem nextR_no3 (s : St) (e : En) (w : World) (h : rightB e = true) (hf : fineB s = true) (hi : 1073741824 ≤ s.index) : Calls Try.prog 10 #[s.v, e.v] w fun e' w' => e' = .returned s.v ∧ Below w.heap.size w w' := by
  obtain ⟨t, k, v⟩ := e
  obtain ⟨a1, a2, a3, a4, a5⟩ := s
  dsimp only [En.v, St.v] at *
  have HN := NextW.new w ⟨a1, a2, a3, a4, a5⟩ ⟨t, k, v⟩ ⟨0, 0, 0, 0, false⟩
  dsimp only at HN
  go_enter Try.func10, Try.ntmps10
  go_wp2_with fail
  generalize ((w.alloc (.cells #[.int .i64 a1, .int .i64 a2, .int .i64 a3, .int .i64 a4, .bool a5] 23)).alloc (.cells #[.int .i64 t, .int .i64 k, .int .i64 v] 30)).alloc (.cells #[.int .i64 0, .int .i64 0, .int .i64 0, .int .i64 0, .bool false] 23) = w3 at *
  refine (rightR_any ⟨t, k, v⟩ _).mono ?_
  rintro e w4 ⟨rfl, hB⟩
  replace HN := HN.keep hB
  clear hB
  rw [h]
  obtain ⟨⟨s0, s1, s2, s3, s4⟩, sf⟩ := HN.s5
  obtain ⟨e0, e1, e2⟩ := HN.e3
  obtain ⟨⟨z0, z1, z2, z3, z4⟩, zf⟩ := HN.z5
  dsimp only at s0 s1 s2 s3 s4 e0 e1 e2 z0 z1 z2 z3 z4
  go_wp2_with fail
  refine (fineR_any ⟨a1, a2, a3, a4, a5⟩ _).mono ?_
  rintro e w5 ⟨rfl, hB⟩
  replace HN := HN.keep hB
  clear hB
  rw [hf]
  clear s0 s1 s2 s3 s4 sf e0 e1 e2 z0 z1 z2 z3 z4 zf
  obtain ⟨⟨s0, s1, s2, s3, s4⟩, sf⟩ := HN.s5
  obtain ⟨e0, e1, e2⟩ := HN.e3
  obtain ⟨⟨z0, z1, z2, z3, z4⟩, zf⟩ := HN.z5
  dsimp only at s0 s1 s2 s3 s4 e0 e1 e2 z0 z1 z2 z3 z4
  have zf0 := zf 0
  have zf1 := zf 1
  have zf2 := zf 2
  have zf3 := zf 3
  have zf4 := zf 4
  go_wp2
  refine bodyPost_ret (v := .agg #[.int .i64 a1, .int .i64 a2, .int .i64 a3, .int .i64 a4, .bool a5]) (by simp [results, Try.results10, go_sem, z0, z1, z2, z3, z4, s0, s1, s2, s3, s4]) rfl ?_
  exact ⟨rfl, ((((HN.below.setCell (by simp <;> omega) _).setCell (by simp <;> omega) _).setCell (by simp <;> omega) _).setCell (by simp <;> omega) _).setCell (by simp; omega) _⟩

/-- The state's block, stored to one by one. -/
theorem Box5.idx {w : World} {b : Nat} {s : St} (h : Box5 w b s) (x : Int) : Box5 (w.setCell ⟨b, 0, none⟩ (.int .i64 x)) b ⟨x, s.term, s.sum, s.level, s.final⟩ := h.set (s' := ⟨x, s.term, s.sum, s.level, s.final⟩) 0 (.int .i64 x) ⟨_, h.1.1⟩ rfl rfl rfl rfl rfl
theorem Box5.trm {w : World} {b : Nat} {s : St} (h : Box5 w b s) (x : Int) : Box5 (w.setCell ⟨b, 1, none⟩ (.int .i64 x)) b ⟨s.index, x, s.sum, s.level, s.final⟩ := h.set (s' := ⟨s.index, x, s.sum, s.level, s.final⟩) 1 (.int .i64 x) ⟨_, h.1.2.1⟩ rfl rfl rfl rfl rfl
theorem Box5.sm {w : World} {b : Nat} {s : St} (h : Box5 w b s) (x : Int) : Box5 (w.setCell ⟨b, 2, none⟩ (.int .i64 x)) b ⟨s.index, s.term, x, s.level, s.final⟩ := h.set (s' := ⟨s.index, s.term, x, s.level, s.final⟩) 2 (.int .i64 x) ⟨_, h.1.2.2.1⟩ rfl rfl rfl rfl rfl
theorem Box5.lvl {w : World} {b : Nat} {s : St} (h : Box5 w b s) (x : Int) : Box5 (w.setCell ⟨b, 3, none⟩ (.int .i64 x)) b ⟨s.index, s.term, s.sum, x, s.final⟩ := h.set (s' := ⟨s.index, s.term, s.sum, x, s.final⟩) 3 (.int .i64 x) ⟨_, h.1.2.2.2.1⟩ rfl rfl rfl rfl rfl
theorem Box5.fin {w : World} {b : Nat} {s : St} (h : Box5 w b s) (x : Bool) : Box5 (w.setCell ⟨b, 4, none⟩ (.bool x)) b ⟨s.index, s.term, s.sum, s.level, x⟩ := h.set (s' := ⟨s.index, s.term, s.sum, s.level, x⟩) 4 (.bool x) ⟨_, h.1.2.2.2.2⟩ rfl rfl rfl rfl rfl
theorem NextW.step {w0 w w' : World} {s s' : St} {e : En} {z : St} (h : NextW w0 w s e z) (hk : KeepB (fun b => b ≠ w0.heap.size) w w') (hs : Box5 w' w0.heap.size s') : NextW w0 w' s' e z :=
  ⟨below_keep h.below hk h.below.size (fun _ h => (by omega)), hs, h.e3.keep hk (by simp), h.z5.keep hk (by simp; omega)⟩

set_option maxHeartbeats 4000000 in
theorem nextR_yes (s : St) (e : En) (w : World) (h : rightB e = true) (hf : fineB s = true) (hi : s.index < 1073741824) (h0 : 0 ≤ s.index) (hs : 0 ≤ s.sum ∧ s.sum ≤ 1073741824) (hv : 0 ≤ e.value ∧ e.value ≤ 1073741824) : Calls Try.prog 10 #[s.v, e.v] w fun e' w' => e' = .returned (deedS e.kind e.value ⟨s.index + 1, e.term, s.sum, s.level, s.final⟩).v ∧ Below w.heap.size w w' := by
  have hkd : e.kind = 0 ∨ e.kind = 1 ∨ e.kind = 2 ∨ e.kind = 3 ∨ e.kind = 4 := by simp [rightB] at h; omega
  obtain ⟨t, k, v⟩ := e
  obtain ⟨a1, a2, a3, a4, a5⟩ := s
  dsimp only [En.v, St.v] at *
  have HN := NextW.new w ⟨a1, a2, a3, a4, a5⟩ ⟨t, k, v⟩ ⟨0, 0, 0, 0, false⟩
  dsimp only at HN
  go_enter Try.func10, Try.ntmps10
  go_wp2_with fail
  generalize ((w.alloc (.cells #[.int .i64 a1, .int .i64 a2, .int .i64 a3, .int .i64 a4, .bool a5] 23)).alloc (.cells #[.int .i64 t, .int .i64 k, .int .i64 v] 30)).alloc (.cells #[.int .i64 0, .int .i64 0, .int .i64 0, .int .i64 0, .bool false] 23) = w3 at *
  refine (rightR_any ⟨t, k, v⟩ _).mono ?_
  rintro e w4 ⟨rfl, hB⟩
  replace HN := HN.keep hB
  clear hB
  rw [h]
  obtain ⟨⟨s0, s1, s2, s3, s4⟩, sf⟩ := HN.s5
  obtain ⟨e0, e1, e2⟩ := HN.e3
  obtain ⟨⟨z0, z1, z2, z3, z4⟩, zf⟩ := HN.z5
  dsimp only at s0 s1 s2 s3 s4 e0 e1 e2 z0 z1 z2 z3 z4
  go_wp2_with fail
  refine (fineR_any ⟨a1, a2, a3, a4, a5⟩ _).mono ?_
  rintro e w5 ⟨rfl, hB⟩
  replace HN := HN.keep hB
  clear hB
  rw [hf]
  clear s0 s1 s2 s3 s4 sf e0 e1 e2 z0 z1 z2 z3 z4 zf
  obtain ⟨⟨s0, s1, s2, s3, s4⟩, sf⟩ := HN.s5
  obtain ⟨e0, e1, e2⟩ := HN.e3
  obtain ⟨⟨z0, z1, z2, z3, z4⟩, zf⟩ := HN.z5
  dsimp only at s0 s1 s2 s3 s4 e0 e1 e2 z0 z1 z2 z3 z4
  have sf0 := sf 0
  have sf1 := sf 1
  have sf2 := sf 2
  have sf3 := sf 3
  have sf4 := sf 4
  have HD := Lib.hid (show deedS k v ⟨a1 + 1, t, a3, a4, a5⟩ = deedS k v ⟨a1 + 1, t, a3, a4, a5⟩ from rfl)
  go_upto_region 5 with fail
  have HN2 : NextW w ((w5.setCell ⟨w.heap.size, 0, none⟩ (.int .i64 (a1 + 1))).setCell ⟨w.heap.size, 1, none⟩ (.int .i64 t)) ⟨a1 + 1, t, a3, a4, a5⟩ ⟨t, k, v⟩ ⟨0, 0, 0, 0, false⟩ :=
    HN.step (((KeepB.refl _ _).setCell (by simp) _).setCell (by simp) _) ((HN.s5.idx (a1 + 1)).trm t)
  clear HN sf0 sf1 sf2 sf3 sf4
  clear s0 s1 s2 s3 s4 sf e0 e1 e2 z0 z1 z2 z3 z4 zf
  generalize (w5.setCell ⟨w.heap.size, 0, none⟩ (.int .i64 (a1 + 1))).setCell ⟨w.heap.size, 1, none⟩ (.int .i64 t) = w6 at *
  have HN := HN2
  clear HN2
  obtain ⟨⟨s0, s1, s2, s3, s4⟩, sf⟩ := HN.s5
  obtain ⟨e0, e1, e2⟩ := HN.e3
  obtain ⟨⟨z0, z1, z2, z3, z4⟩, zf⟩ := HN.z5
  dsimp only at s0 s1 s2 s3 s4 e0 e1 e2 z0 z1 z2 z3 z4
  have sf0 := sf 0
  have sf1 := sf 1
  have sf2 := sf 2
  have sf3 := sf 3
  have sf4 := sf 4
  have zf0 := zf 0
  have zf1 := zf 1
  have zf2 := zf 2
  have zf3 := zf 3
  have zf4 := zf 4
  rcases hkd with rfl | rfl | rfl | rfl | rfl
  · skip
    go_wp2
    refine bodyPost_ret (v := .agg #[.int .i64 (a1 + 1), .int .i64 t, .int .i64 a3, .int .i64 a4, .bool a5]) (by simp [results, Try.results10, go_sem, z0, z1, z2, z3, z4]) rfl ?_
    exact ⟨rfl, (((((HN.below.setCell (by simp <;> omega) _).setCell (by simp <;> omega) _).setCell (by simp <;> omega) _).setCell (by simp <;> omega) _).setCell (by simp <;> omega) _)⟩
  · skip
    go_wp2
    refine bodyPost_ret (v := .agg #[.int .i64 (a1 + 1), .int .i64 t, .int .i64 ((31 * a3 + v + 1) % 1073741824), .int .i64 a4, .bool a5]) (by simp [results, Try.results10, go_sem, z0, z1, z2, z3, z4]) rfl ?_
    exact ⟨rfl, ((((((HN.below.setCell (by simp <;> omega) _).setCell (by simp <;> omega) _).setCell (by simp <;> omega) _).setCell (by simp <;> omega) _).setCell (by simp <;> omega) _).setCell (by simp <;> omega) _)⟩
  · skip
    go_wp2
    refine bodyPost_ret (v := .agg #[.int .i64 (a1 + 1), .int .i64 t, .int .i64 a3, .int .i64 2, .bool a5]) (by simp [results, Try.results10, go_sem, z0, z1, z2, z3, z4]) rfl ?_
    exact ⟨rfl, ((((((HN.below.setCell (by simp <;> omega) _).setCell (by simp <;> omega) _).setCell (by simp <;> omega) _).setCell (by simp <;> omega) _).setCell (by simp <;> omega) _).setCell (by simp <;> omega) _)⟩
  · cases a5
    · skip
      go_wp2
      refine bodyPost_ret (v := .agg #[.int .i64 (a1 + 1), .int .i64 t, .int .i64 a3, .int .i64 1, .bool false]) (by simp [results, Try.results10, go_sem, z0, z1, z2, z3, z4]) rfl ?_
      exact ⟨rfl, ((((((HN.below.setCell (by simp <;> omega) _).setCell (by simp <;> omega) _).setCell (by simp <;> omega) _).setCell (by simp <;> omega) _).setCell (by simp <;> omega) _).setCell (by simp <;> omega) _)⟩
    · skip
      go_wp2
      refine bodyPost_ret (v := .agg #[.int .i64 (a1 + 1), .int .i64 t, .int .i64 a3, .int .i64 a4, .bool true]) (by simp [results, Try.results10, go_sem, z0, z1, z2, z3, z4]) rfl ?_
      exact ⟨rfl, (((((HN.below.setCell (by simp <;> omega) _).setCell (by simp <;> omega) _).setCell (by simp <;> omega) _).setCell (by simp <;> omega) _).setCell (by simp <;> omega) _)⟩
  · skip
    go_wp2
    refine bodyPost_ret (v := .agg #[.int .i64 (a1 + 1), .int .i64 t, .int .i64 a3, .int .i64 a4, .bool (a4 == 2)]) (by simp [results, Try.results10, go_sem, z0, z1, z2, z3, z4]) rfl ?_
    exact ⟨rfl, ((((((HN.below.setCell (by simp <;> omega) _).setCell (by simp <;> omega) _).setCell (by simp <;> omega) _).setCell (by simp <;> omega) _).setCell (by simp <;> omega) _).setCell (by simp <;> omega) _)⟩
theorem nextR_any (s : St) (e : En) (w : World) : Calls Try.prog 10 #[s.v, e.v] w fun e' w' => e' = .returned (nextS s e).v ∧ Below w.heap.size w w' := by
  cases h : rightB e with
  | false => rw [show nextS s e = s from if_neg (by simp [h])]; exact nextR_no s e w h
  | true =>
    cases hf : fineB s with
    | false => rw [show nextS s e = s from if_neg (by simp [hf])]; exact nextR_no2 s e w h hf
    | true =>
      by_cases hi : s.index < 1073741824
      · rw [show nextS s e = deedS e.kind e.value ⟨s.index + 1, e.term, s.sum, s.level, s.final⟩ from if_pos ⟨h, hf, hi⟩]
        have hb := ((fineB_iff s).1 hf).bounds
        have hr := h
        simp only [rightB, decide_eq_true_eq] at hr
        exact nextR_yes s e w h hf hi hb.1 hb.2.2 ⟨hr.2.2.2.2.1, hr.2.2.2.2.2.1⟩
      · rw [show nextS s e = s from if_neg (by simp [hi])]; exact nextR_no3 s e w h hf (by omega)
end Go.Proofs.Ytoehcmddfpompaa
