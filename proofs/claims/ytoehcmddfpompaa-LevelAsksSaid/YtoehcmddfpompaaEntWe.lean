/- The walk of the program's Next. -/
import Derived.Test.YtoehcmddfpompaaEntWd
namespace Go.Proofs.Ytoehcmddfpompaa
open Go Go.RowKit

/-- The three numbers of an entry in a block of its own. -/
def Box3 (W : World) (b : Nat) (e : En) : Prop :=
  W.cell? ⟨b, 0, none⟩ = some (.int .i64 e.term) ∧ W.cell? ⟨b, 1, none⟩ = some (.int .i64 e.kind) ∧ W.cell? ⟨b, 2, none⟩ = some (.int .i64 e.value)
theorem Box3.keep {S : Nat → Prop} {W W' : World} {b : Nat} {s : En} (h : Box3 W b s) (hk : KeepB S W W') (hs : S b) : Box3 W' b s :=
  ⟨hk.cell (p := ⟨b, 0, none⟩) hs h.1, hk.cell (p := ⟨b, 1, none⟩) hs h.2.1, hk.cell (p := ⟨b, 2, none⟩) hs h.2.2⟩
theorem Box3.lt {W : World} {b : Nat} {s : En} (h : Box3 W b s) : b < W.heap.size := World.block_lt_of_cell? W _ h.1
theorem keepT {a b : World} (h : Below a.heap.size a b) : KeepB (fun _ => True) a b := KeepB.of_below h fun _ h _ => h

/-- What lies behind the beginning of Next. -/
structure NextW (w0 w : World) (s : St) (e : En) (z : St) : Prop where
  below : Below w0.heap.size w0 w
  s5 : Box5 w w0.heap.size s
  e3 : Box3 w (w0.heap.size + 1) e
  z5 : Box5 w (w0.heap.size + 1 + 1) z
theorem NextW.keep {w0 w w' : World} {s : St} {e : En} {z : St} (h : NextW w0 w s e z) (hb : Below w.heap.size w w') : NextW w0 w' s e z :=
  ⟨bTr h.below hb, h.s5.keep (keepT hb) trivial, h.e3.keep (keepT hb) trivial, h.z5.keep (keepT hb) trivial⟩
theorem NextW.new (w : World) (s : St) (e : En) (z : St) : NextW w (((w.alloc (.cells #[.int .i64 s.index, .int .i64 s.term, .int .i64 s.sum, .int .i64 s.level, .bool s.final] 23)).alloc (.cells #[.int .i64 e.term, .int .i64 e.kind, .int .i64 e.value] 30)).alloc (.cells #[.int .i64 z.index, .int .i64 z.term, .int .i64 z.sum, .int .i64 z.level, .bool z.final] 23)) s e z := by
  refine ⟨(((Below.refl _ _).alloc (Nat.le_refl _) _).alloc (by simp) _).alloc (by simp; omega) _, ?_, ?_, ?_⟩
  · exact ((Box5.new w s _).keep ((KeepB.refl (fun _ => True) _).alloc _) trivial).keep ((KeepB.refl (fun _ => True) _).alloc _) trivial
  · refine ⟨?_, ?_, ?_⟩ <;> (have : w.heap.size + 1 ≠ w.heap.size := by omega) <;> go_simp
  · have := Box5.new ((w.alloc (.cells #[.int .i64 s.index, .int .i64 s.term, .int .i64 s.sum, .int .i64 s.level, .bool s.final] 23)).alloc (.cells #[.int .i64 e.term, .int .i64 e.kind, .int .i64 e.value] 30)) z 23
    simpa using this

/-- The end of Next. -/
def NextQ (w : World) (v : Value) (e : Ending) (w' : World) : Prop := e = .returned v ∧ Below w.heap.size w w'

set_option maxHeartbeats 1000000 in
theorem next_no (s : St) (e : En) (w : World) (h : rightB e = false) : Calls Try.prog 33 #[s.v, e.v] w fun e' w' => e' = .returned s.v ∧ Below w.heap.size w w' := by
  obtain ⟨t, k, v⟩ := e
  obtain ⟨a1, a2, a3, a4, a5⟩ := s
  dsimp only [En.v, St.v]
  have HN := NextW.new w ⟨a1, a2, a3, a4, a5⟩ ⟨t, k, v⟩ ⟨0, 0, 0, 0, false⟩
  dsimp only at HN
  go_enter Try.func33, Try.ntmps33
  go_wp2_with fail
  generalize ((w.alloc (.cells #[.int .i64 a1, .int .i64 a2, .int .i64 a3, .int .i64 a4, .bool a5] 23)).alloc (.cells #[.int .i64 t, .int .i64 k, .int .i64 v] 30)).alloc (.cells #[.int .i64 0, .int .i64 0, .int .i64 0, .int .i64 0, .bool false] 23) = w3 at *
  refine (right_any ⟨t, k, v⟩ _).mono ?_
  rintro e w4 ⟨rfl, hB⟩
  replace HN := HN.keep hB
  clear hB
  rw [h]
  obtain ⟨⟨s0, s1, s2, s3, s4⟩, sf⟩ := HN.s5
  obtain ⟨e0, e1, e2⟩ := HN.e3
  obtain ⟨⟨z0, z1, z2, z3, z4⟩, zf⟩ := HN.z5
  dsimp only at s0 s1 s2 s3 s4 e0 e1 e2 z0 z1 z2 z3 z4
  have zf0 := zf 0
  have zf1 := zf 1
  have zf2 := zf 2
  have zf3 := zf 3
  have zf4 := zf 4
  go_wp2
  refine bodyPost_ret (v := .agg #[.int .i64 a1, .int .i64 a2, .int .i64 a3, .int .i64 a4, .bool a5]) (by simp [results, Try.results33, go_sem, z0, z1, z2, z3, z4]) rfl ?_
  exact ⟨rfl, ((((HN.below.setCell (by simp; omega) _).setCell (by simp; omega) _).setCell (by simp; omega) _).setCell (by simp; omega) _).setCell (by simp; omega) _⟩

set_option maxHeartbeats 1000000 in
theorem next_no2 (s : St) (e : En) (w : World) (h : rightB e = true) (hf : fineB s = false) : Calls Try.prog 33 #[s.v, e.v] w fun e' w' => e' = .returned s.v ∧ Below w.heap.size w w' := by
  obtain ⟨t, k, v⟩ := e
  obtain ⟨a1, a2, a3, a4, a5⟩ := s
  dsimp only [En.v, St.v]
  have HN := NextW.new w ⟨a1, a2, a3, a4, a5⟩ ⟨t, k, v⟩ ⟨0, 0, 0, 0, false⟩
  dsimp only at HN
  go_enter Try.func33, Try.ntmps33
  go_wp2_with fail
  generalize ((w.alloc (.cells #[.int .i64 a1, .int .i64 a2, .int .i64 a3, .int .i64 a4, .bool a5] 23)).alloc (.cells #[.int .i64 t, .int .i64 k, .int .i64 v] 30)).alloc (.cells #[.int .i64 0, .int .i64 0, .int .i64 0, .int .i64 0, .bool false] 23) = w3 at *
  refine (right_any ⟨t, k, v⟩ _).mono ?_
  rintro e w4 ⟨rfl, hB⟩
  replace HN := HN.keep hB
  clear hB
  rw [h]
  obtain ⟨⟨s0, s1, s2, s3, s4⟩, sf⟩ := HN.s5
  obtain ⟨e0, e1, e2⟩ := HN.e3
  obtain ⟨⟨z0, z1, z2, z3, z4⟩, zf⟩ := HN.z5
  dsimp only at s0 s1 s2 s3 s4 e0 e1 e2 z0 z1 z2 z3 z4
  have zf0 := zf 0
  have zf1 := zf 1
  have zf2 := zf 2
  have zf3 := zf 3
  have zf4 := zf 4
  go_wp2_with fail
  refine (fine_any ⟨a1, a2, a3, a4, a5⟩ _).mono ?_
  rintro e w5 ⟨rfl, hB⟩
  replace HN := HN.keep hB
  clear hB
  rw [hf]
  clear s0 s1 s2 s3 s4 sf e0 e1 e2 z0 z1 z2 z3 z4 zf zf0 zf1 zf2 zf3 zf4
  obtain ⟨⟨s0, s1, s2, s3, s4⟩, sf⟩ := HN.s5
  obtain ⟨e0, e1, e2⟩ := HN.e3
  obtain ⟨⟨z0, z1, z2, z3, z4⟩, zf⟩ := HN.z5
  dsimp only at s0 s1 s2 s3 s4 e0 e1 e2 z0 z1 z2 z3 z4
  have zf0 := zf 0
  have zf1 := zf 1
  have zf2 := zf 2
  have zf3 := zf 3
  have zf4 := zf 4
  go_wp2
  refine bodyPost_ret (v := .agg #[.int .i64 a1, .int .i64 a2, .int .i64 a3, .int .i64 a4, .bool a5]) (by simp [results, Try.results33, go_sem, z0, z1, z2, z3, z4]) rfl ?_
  exact ⟨rfl, ((((HN.below.setCell (by simp; omega) _).setCell (by simp; omega) _).setCell (by simp; omega) _).setCell (by simp; omega) _).setCell (by simp; omega) _⟩

set_option maxHeartbeats 1000000 in
theorem next_no3 (s : St) (e : En) (w : World) (h : rightB e = true) (hf : fineB s = true) (hi : ¬ s.index < 1073741824) : Calls Try.prog 33 #[s.v, e.v] w fun e' w' => e' = .returned s.v ∧ Below w.heap.size w w' := by
  obtain ⟨t, k, v⟩ := e
  obtain ⟨a1, a2, a3, a4, a5⟩ := s
  dsimp only [En.v, St.v]
  dsimp only at hi
  have HN := NextW.new w ⟨a1, a2, a3, a4, a5⟩ ⟨t, k, v⟩ ⟨0, 0, 0, 0, false⟩
  dsimp only at HN
  go_enter Try.func33, Try.ntmps33
  go_wp2_with fail
  generalize ((w.alloc (.cells #[.int .i64 a1, .int .i64 a2, .int .i64 a3, .int .i64 a4, .bool a5] 23)).alloc (.cells #[.int .i64 t, .int .i64 k, .int .i64 v] 30)).alloc (.cells #[.int .i64 0, .int .i64 0, .int .i64 0, .int .i64 0, .bool false] 23) = w3 at *
  refine (right_any ⟨t, k, v⟩ _).mono ?_
  rintro e w4 ⟨rfl, hB⟩
  replace HN := HN.keep hB
  clear hB
  rw [h]
  obtain ⟨⟨s0, s1, s2, s3, s4⟩, sf⟩ := HN.s5
  obtain ⟨e0, e1, e2⟩ := HN.e3
  obtain ⟨⟨z0, z1, z2, z3, z4⟩, zf⟩ := HN.z5
  dsimp only at s0 s1 s2 s3 s4 e0 e1 e2 z0 z1 z2 z3 z4
  have zf0 := zf 0
  have zf1 := zf 1
  have zf2 := zf 2
  have zf3 := zf 3
  have zf4 := zf 4
  go_wp2_with fail
  refine (fine_any ⟨a1, a2, a3, a4, a5⟩ _).mono ?_
  rintro e w5 ⟨rfl, hB⟩
  replace HN := HN.keep hB
  clear hB
  rw [hf]
  clear s0 s1 s2 s3 s4 sf e0 e1 e2 z0 z1 z2 z3 z4 zf zf0 zf1 zf2 zf3 zf4
  obtain ⟨⟨s0, s1, s2, s3, s4⟩, sf⟩ := HN.s5
  obtain ⟨e0, e1, e2⟩ := HN.e3
  obtain ⟨⟨z0, z1, z2, z3, z4⟩, zf⟩ := HN.z5
  dsimp only at s0 s1 s2 s3 s4 e0 e1 e2 z0 z1 z2 z3 z4
  have zf0 := zf 0
  have zf1 := zf 1
  have zf2 := zf 2
  have zf3 := zf 3
  have zf4 := zf 4
  go_wp2
  refine bodyPost_ret (v := .agg #[.int .i64 a1, .int .i64 a2, .int .i64 a3, .int .i64 a4, .bool a5]) (by simp [results, Try.results33, go_sem, z0, z1, z2, z3, z4]) rfl ?_
  exact ⟨rfl, ((((HN.below.setCell (by simp; omega) _).setCell (by simp; omega) _).setCell (by simp; omega) _).setCell (by simp; omega) _).setCell (by simp; omega) _⟩

set_option maxHeartbeats 1000000 in
theorem next_yes (s : St) (e : En) (w : World) (h : rightB e = true) (hf : fineB s = true) (hi : s.index < 1073741824) : Calls Try.prog 33 #[s.v, e.v] w fun e' w' => e' = .returned (nextS s e).v ∧ Below w.heap.size w w' := by
  have hi0 : 0 ≤ s.index := by
    rcases (fineB_iff s).1 hf with rfl | hh
    · simp [firstS]
    · omega
  have Hn := Lib.hid (show nextS s e = deedS e.kind e.value { s with index := s.index + 1, term := e.term } from if_pos ⟨h, hf, hi⟩)
  generalize nextS s e = ns at *
  obtain ⟨t, k, v⟩ := e
  obtain ⟨a1, a2, a3, a4, a5⟩ := s
  dsimp only [En.v, St.v]
  dsimp only at hi hi0
  have HN := NextW.new w ⟨a1, a2, a3, a4, a5⟩ ⟨t, k, v⟩ ⟨0, 0, 0, 0, false⟩
  dsimp only at HN
  go_enter Try.func33, Try.ntmps33
  go_wp2_with fail
  generalize ((w.alloc (.cells #[.int .i64 a1, .int .i64 a2, .int .i64 a3, .int .i64 a4, .bool a5] 23)).alloc (.cells #[.int .i64 t, .int .i64 k, .int .i64 v] 30)).alloc (.cells #[.int .i64 0, .int .i64 0, .int .i64 0, .int .i64 0, .bool false] 23) = w3 at *
  refine (right_any ⟨t, k, v⟩ _).mono ?_
  rintro e w4 ⟨rfl, hB⟩
  replace HN := HN.keep hB
  clear hB
  rw [h]
  obtain ⟨⟨s0, s1, s2, s3, s4⟩, sf⟩ := HN.s5
  obtain ⟨e0, e1, e2⟩ := HN.e3
  obtain ⟨⟨z0, z1, z2, z3, z4⟩, zf⟩ := HN.z5
  dsimp only at s0 s1 s2 s3 s4 e0 e1 e2 z0 z1 z2 z3 z4
  have zf0 := zf 0
  have zf1 := zf 1
  have zf2 := zf 2
  have zf3 := zf 3
  have zf4 := zf 4
  go_wp2_with fail
  refine (fine_any ⟨a1, a2, a3, a4, a5⟩ _).mono ?_
  rintro e w5 ⟨rfl, hB⟩
  replace HN := HN.keep hB
  clear hB
  rw [hf]
  clear s0 s1 s2 s3 s4 sf e0 e1 e2 z0 z1 z2 z3 z4 zf zf0 zf1 zf2 zf3 zf4
  obtain ⟨⟨s0, s1, s2, s3, s4⟩, sf⟩ := HN.s5
  obtain ⟨e0, e1, e2⟩ := HN.e3
  obtain ⟨⟨z0, z1, z2, z3, z4⟩, zf⟩ := HN.z5
  dsimp only at s0 s1 s2 s3 s4 e0 e1 e2 z0 z1 z2 z3 z4
  have zf0 := zf 0
  have zf1 := zf 1
  have zf2 := zf 2
  have zf3 := zf 3
  have zf4 := zf 4
  go_wp2
  have l0 := HN.s5.lt
  have l1 := HN.e3.lt
  have sf0 := sf 0
  have sf1 := sf 1
  refine region_flow 9 [6, 8] (fun _ b => b ≠ w.heap.size) ⟨by kernel_rfl, by kernel_rfl⟩ (fun wf HB => ?_)
  refine' wpF_lights [true, true, true, false, false, true] 31 _ (by decide +kernel) rfl (fun W hW => ?_) ?_
  rotate_left
  · obtain ⟨hcW, hfW⟩ := bCells (bTr HB hW)
    dsimp only [pickL]
    go_wp2
    exact Lend.ok
  refine' wpF_lightsG [false, false, false, true, true] 31 [6, 8] (fun b => b ≠ w.heap.size) _ (by decide +kernel) (by simp) rfl (fun W hW => ?_) ?_
  rotate_left
  · skip
    have hk := ((keepT HB).sub (fun _ _ _ => trivial)).trans hW
    have e0W := hk.cell (p := ⟨w.heap.size + 1, 0, none⟩) (by simp) e0
    dsimp only [pickL]
    go_wp2
    exact Lend.ok
  refine wpF_seal [false, false, false, false, false, false, true] 6 (by decide +kernel) rfl rfl ?_
  have c0F := ((bCells HB).1 _ 0 l0).trans s0
  have c1F := ((bCells HB).1 _ 1 l0).trans s1
  have f0F := ((bCells HB).2 _ 0 l0).trans sf0
  have f1F := ((bCells HB).2 _ 1 l0).trans sf1
  dsimp only [pickL]
  go_wp2_with fail
  refine ⟨(KeepB.refl _ _).setCell (by simp) _, ?_⟩
  refine' wpF_lightsG [false, false, false, false, false, false, false, true] 31 [8] (fun b => b ≠ w.heap.size) _ (by decide +kernel) (by simp) rfl (fun W hW => ?_) ?_
  rotate_left
  · skip
    dsimp only [pickL]
    go_wp2
    exact Lend.ok
  refine wpF_seal [false, false, false, false, false, false, false, false, true] 8 (by decide +kernel) rfl rfl ?_
  dsimp only [pickL]
  go_wp2_with fail
  refine ⟨(KeepB.refl _ _).setCell (by simp) _, ?_⟩
  refine wpF_end (by kernel_rfl) ?_
  replace HN := HN.keep HB
  have HN6 : NextW w ((wf.setCell ⟨w.heap.size, 0, none⟩ (.int .i64 (a1 + 1))).setCell ⟨w.heap.size, 1, none⟩ (.int .i64 t)) ⟨a1 + 1, t, a3, a4, a5⟩ ⟨t, k, v⟩ ⟨0, 0, 0, 0, false⟩ := by
    have hk : KeepB (fun b => b ≠ w.heap.size) wf ((wf.setCell ⟨w.heap.size, 0, none⟩ (.int .i64 (a1 + 1))).setCell ⟨w.heap.size, 1, none⟩ (.int .i64 t)) := ((KeepB.refl _ _).setCell (by simp) _).setCell (by simp) _
    have hs := HN.s5.set (s' := ⟨a1 + 1, a2, a3, a4, a5⟩) 0 (.int .i64 (a1 + 1)) ⟨_, HN.s5.1.1⟩ rfl rfl rfl rfl rfl
    exact ⟨below_keep HN.below hk HN.below.size (fun _ h => by omega), hs.set 1 _ ⟨_, hs.1.2.1⟩ rfl rfl rfl rfl rfl, HN.e3.keep hk (by simp), HN.z5.keep hk (by simp; omega)⟩
  generalize (wf.setCell ⟨w.heap.size, 0, none⟩ (.int .i64 (a1 + 1))).setCell ⟨w.heap.size, 1, none⟩ (.int .i64 t) = w6 at *
  clear s0 s1 s2 s3 s4 sf e0 e1 e2 z0 z1 z2 z3 z4 zf zf0 zf1 zf2 zf3 zf4 HN HB l0 l1 sf0 sf1 c0F c1F f0F f1F
  have hsum : 0 ≤ a3 ∧ a3 ≤ 1073741824 := by
    rcases (fineB_iff _).1 hf with hh | hh
    · injection hh with _ _ hh; omega
    · dsimp only at hh; omega
  have hr := h
  simp only [rightB, decide_eq_true_eq] at hr
  have hv : 0 ≤ v ∧ v ≤ 1073741824 := by omega
  have hkk : k = 0 ∨ k = 1 ∨ k = 2 ∨ k = 3 ∨ k = 4 := by omega
  clear hr h hf hi hi0
  obtain ⟨e0, e1, e2⟩ := HN6.e3
  dsimp only at e0 e1 e2
  have l0 := HN6.s5.lt
  have l1 := HN6.e3.lt
  go_wp2
  rcases hkk with rfl | rfl | rfl | rfl | rfl
  · refine region_flow 7 [6] (fun _ b => b ≠ w.heap.size) ⟨by kernel_rfl, by kernel_rfl⟩ (fun wf HB => ?_)
    refine' wpF_lightsG [false, true, true, false, true, true] 31 [6] (fun b => b ≠ w.heap.size) _ (by decide +kernel) (by simp) rfl (fun W hW => ?_) ?_
    rotate_left
    · skip
      have hk := ((keepT HB).sub (fun _ _ _ => trivial)).trans hW
      have e1W := hk.cell (p := ⟨w.heap.size + 1, 1, none⟩) (by simp) e1
      have e2W := hk.cell (p := ⟨w.heap.size + 1, 2, none⟩) (by simp) e2
      dsimp only [pickL]
      go_wp2
      exact Lend.ok
    refine wpF_call [true] 0 (by decide +kernel) rfl rfl ?_
    dsimp only [pickL]
    go_wp2_with fail
    refine (deeds_any _).mono ?_
    rintro e w7 ⟨r, rfl, hm, hB⟩
    go_wp2
    replace HB := bTr HB hB
    refine wpF_call [false, false, false, true] 3 (by decide +kernel) rfl rfl ?_
    have hl := look_deeds hm 0 false
    simp [deedsL, mget] at hl
    dsimp only [pickL]
    go_wp2_with fail
    go_wp2
    try (refine ⟨Below.refl _ _, ?_⟩)
    have HN7 := HN6.keep HB
    refine wpF_seal [false, false, false, false, false, false, true] 6 (by decide +kernel) rfl rfl ?_
    dsimp only [pickL]
    go_wp2_with fail
    refine (deed0 v ⟨a1 + 1, t, a3, a4, a5⟩ _ _ HN7.s5).mono ?_
    rintro e w8 ⟨rfl, h5, hk⟩
    go_wp2
    refine wpF_end (by kernel_rfl) ?_
    have HN8 : NextW w w8 (deedS 0 v ⟨a1 + 1, t, a3, a4, a5⟩) ⟨t, 0, v⟩ ⟨0, 0, 0, 0, false⟩ := ⟨below_keep HN7.below hk HN7.below.size (fun _ h => by omega), h5, HN7.e3.keep hk (by simp), HN7.z5.keep hk (by simp; omega)⟩
    rw [← Hn.out] at HN8
    clear HN6 HN7 h5 hk hB HB hm e0 e1 e2 l0 l1 Hn
    obtain ⟨b1, b2, b3, b4, b5⟩ := ns
    obtain ⟨⟨s0, s1, s2, s3, s4⟩, sf⟩ := HN8.s5
    obtain ⟨⟨z0, z1, z2, z3, z4⟩, zf⟩ := HN8.z5
    dsimp only at s0 s1 s2 s3 s4 z0 z1 z2 z3 z4
    have zf0 := zf 0
    have zf1 := zf 1
    have zf2 := zf 2
    have zf3 := zf 3
    have zf4 := zf 4
    go_wp2
    refine bodyPost_ret (v := .agg #[.int .i64 b1, .int .i64 b2, .int .i64 b3, .int .i64 b4, .bool b5]) (by simp [results, Try.results33, go_sem, z0, z1, z2, z3, z4]) rfl ?_
    exact ⟨rfl, ((((HN8.below.setCell (by simp; omega) _).setCell (by simp; omega) _).setCell (by simp; omega) _).setCell (by simp; omega) _).setCell (by simp; omega) _⟩
  · refine region_flow 7 [6] (fun _ b => b ≠ w.heap.size) ⟨by kernel_rfl, by kernel_rfl⟩ (fun wf HB => ?_)
    refine' wpF_lightsG [false, true, true, false, true, true] 31 [6] (fun b => b ≠ w.heap.size) _ (by decide +kernel) (by simp) rfl (fun W hW => ?_) ?_
    rotate_left
    · skip
      have hk := ((keepT HB).sub (fun _ _ _ => trivial)).trans hW
      have e1W := hk.cell (p := ⟨w.heap.size + 1, 1, none⟩) (by simp) e1
      have e2W := hk.cell (p := ⟨w.heap.size + 1, 2, none⟩) (by simp) e2
      dsimp only [pickL]
      go_wp2
      exact Lend.ok
    refine wpF_call [true] 0 (by decide +kernel) rfl rfl ?_
    dsimp only [pickL]
    go_wp2_with fail
    refine (deeds_any _).mono ?_
    rintro e w7 ⟨r, rfl, hm, hB⟩
    go_wp2
    replace HB := bTr HB hB
    refine wpF_call [false, false, false, true] 3 (by decide +kernel) rfl rfl ?_
    have hl := look_deeds hm 1 false
    simp [deedsL, mget] at hl
    dsimp only [pickL]
    go_wp2_with fail
    go_wp2
    try (refine ⟨Below.refl _ _, ?_⟩)
    have HN7 := HN6.keep HB
    refine wpF_seal [false, false, false, false, false, false, true] 6 (by decide +kernel) rfl rfl ?_
    dsimp only [pickL]
    go_wp2_with fail
    refine (deed1 v ⟨a1 + 1, t, a3, a4, a5⟩ hsum hv _ _ HN7.s5).mono ?_
    rintro e w8 ⟨rfl, h5, hk⟩
    go_wp2
    refine wpF_end (by kernel_rfl) ?_
    have HN8 : NextW w w8 (deedS 1 v ⟨a1 + 1, t, a3, a4, a5⟩) ⟨t, 1, v⟩ ⟨0, 0, 0, 0, false⟩ := ⟨below_keep HN7.below hk HN7.below.size (fun _ h => by omega), h5, HN7.e3.keep hk (by simp), HN7.z5.keep hk (by simp; omega)⟩
    rw [← Hn.out] at HN8
    clear HN6 HN7 h5 hk hB HB hm e0 e1 e2 l0 l1 Hn
    obtain ⟨b1, b2, b3, b4, b5⟩ := ns
    obtain ⟨⟨s0, s1, s2, s3, s4⟩, sf⟩ := HN8.s5
    obtain ⟨⟨z0, z1, z2, z3, z4⟩, zf⟩ := HN8.z5
    dsimp only at s0 s1 s2 s3 s4 z0 z1 z2 z3 z4
    have zf0 := zf 0
    have zf1 := zf 1
    have zf2 := zf 2
    have zf3 := zf 3
    have zf4 := zf 4
    go_wp2
    refine bodyPost_ret (v := .agg #[.int .i64 b1, .int .i64 b2, .int .i64 b3, .int .i64 b4, .bool b5]) (by simp [results, Try.results33, go_sem, z0, z1, z2, z3, z4]) rfl ?_
    exact ⟨rfl, ((((HN8.below.setCell (by simp; omega) _).setCell (by simp; omega) _).setCell (by simp; omega) _).setCell (by simp; omega) _).setCell (by simp; omega) _⟩
  · refine region_flow 7 [6] (fun _ b => b ≠ w.heap.size) ⟨by kernel_rfl, by kernel_rfl⟩ (fun wf HB => ?_)
    refine' wpF_lightsG [false, true, true, false, true, true] 31 [6] (fun b => b ≠ w.heap.size) _ (by decide +kernel) (by simp) rfl (fun W hW => ?_) ?_
    rotate_left
    · skip
      have hk := ((keepT HB).sub (fun _ _ _ => trivial)).trans hW
      have e1W := hk.cell (p := ⟨w.heap.size + 1, 1, none⟩) (by simp) e1
      have e2W := hk.cell (p := ⟨w.heap.size + 1, 2, none⟩) (by simp) e2
      dsimp only [pickL]
      go_wp2
      exact Lend.ok
    refine wpF_call [true] 0 (by decide +kernel) rfl rfl ?_
    dsimp only [pickL]
    go_wp2_with fail
    refine (deeds_any _).mono ?_
    rintro e w7 ⟨r, rfl, hm, hB⟩
    go_wp2
    replace HB := bTr HB hB
    refine wpF_call [false, false, false, true] 3 (by decide +kernel) rfl rfl ?_
    have hl := look_deeds hm 2 false
    simp [deedsL, mget] at hl
    dsimp only [pickL]
    go_wp2_with fail
    go_wp2
    try (refine ⟨Below.refl _ _, ?_⟩)
    have HN7 := HN6.keep HB
    refine wpF_seal [false, false, false, false, false, false, true] 6 (by decide +kernel) rfl rfl ?_
    dsimp only [pickL]
    go_wp2_with fail
    refine (deed2 v ⟨a1 + 1, t, a3, a4, a5⟩ _ _ HN7.s5).mono ?_
    rintro e w8 ⟨rfl, h5, hk⟩
    go_wp2
    refine wpF_end (by kernel_rfl) ?_
    have HN8 : NextW w w8 (deedS 2 v ⟨a1 + 1, t, a3, a4, a5⟩) ⟨t, 2, v⟩ ⟨0, 0, 0, 0, false⟩ := ⟨below_keep HN7.below hk HN7.below.size (fun _ h => by omega), h5, HN7.e3.keep hk (by simp), HN7.z5.keep hk (by simp; omega)⟩
    rw [← Hn.out] at HN8
    clear HN6 HN7 h5 hk hB HB hm e0 e1 e2 l0 l1 Hn
    obtain ⟨b1, b2, b3, b4, b5⟩ := ns
    obtain ⟨⟨s0, s1, s2, s3, s4⟩, sf⟩ := HN8.s5
    obtain ⟨⟨z0, z1, z2, z3, z4⟩, zf⟩ := HN8.z5
    dsimp only at s0 s1 s2 s3 s4 z0 z1 z2 z3 z4
    have zf0 := zf 0
    have zf1 := zf 1
    have zf2 := zf 2
    have zf3 := zf 3
    have zf4 := zf 4
    go_wp2
    refine bodyPost_ret (v := .agg #[.int .i64 b1, .int .i64 b2, .int .i64 b3, .int .i64 b4, .bool b5]) (by simp [results, Try.results33, go_sem, z0, z1, z2, z3, z4]) rfl ?_
    exact ⟨rfl, ((((HN8.below.setCell (by simp; omega) _).setCell (by simp; omega) _).setCell (by simp; omega) _).setCell (by simp; omega) _).setCell (by simp; omega) _⟩
  · refine region_flow 7 [6] (fun _ b => b ≠ w.heap.size) ⟨by kernel_rfl, by kernel_rfl⟩ (fun wf HB => ?_)
    refine' wpF_lightsG [false, true, true, false, true, true] 31 [6] (fun b => b ≠ w.heap.size) _ (by decide +kernel) (by simp) rfl (fun W hW => ?_) ?_
    rotate_left
    · skip
      have hk := ((keepT HB).sub (fun _ _ _ => trivial)).trans hW
      have e1W := hk.cell (p := ⟨w.heap.size + 1, 1, none⟩) (by simp) e1
      have e2W := hk.cell (p := ⟨w.heap.size + 1, 2, none⟩) (by simp) e2
      dsimp only [pickL]
      go_wp2
      exact Lend.ok
    refine wpF_call [true] 0 (by decide +kernel) rfl rfl ?_
    dsimp only [pickL]
    go_wp2_with fail
    refine (deeds_any _).mono ?_
    rintro e w7 ⟨r, rfl, hm, hB⟩
    go_wp2
    replace HB := bTr HB hB
    refine wpF_call [false, false, false, true] 3 (by decide +kernel) rfl rfl ?_
    have hl := look_deeds hm 3 false
    simp [deedsL, mget] at hl
    dsimp only [pickL]
    go_wp2_with fail
    go_wp2
    try (refine ⟨Below.refl _ _, ?_⟩)
    have HN7 := HN6.keep HB
    refine wpF_seal [false, false, false, false, false, false, true] 6 (by decide +kernel) rfl rfl ?_
    dsimp only [pickL]
    go_wp2_with fail
    refine (deed3 v ⟨a1 + 1, t, a3, a4, a5⟩ _ _ HN7.s5).mono ?_
    rintro e w8 ⟨rfl, h5, hk⟩
    go_wp2
    refine wpF_end (by kernel_rfl) ?_
    have HN8 : NextW w w8 (deedS 3 v ⟨a1 + 1, t, a3, a4, a5⟩) ⟨t, 3, v⟩ ⟨0, 0, 0, 0, false⟩ := ⟨below_keep HN7.below hk HN7.below.size (fun _ h => by omega), h5, HN7.e3.keep hk (by simp), HN7.z5.keep hk (by simp; omega)⟩
    rw [← Hn.out] at HN8
    clear HN6 HN7 h5 hk hB HB hm e0 e1 e2 l0 l1 Hn
    obtain ⟨b1, b2, b3, b4, b5⟩ := ns
    obtain ⟨⟨s0, s1, s2, s3, s4⟩, sf⟩ := HN8.s5
    obtain ⟨⟨z0, z1, z2, z3, z4⟩, zf⟩ := HN8.z5
    dsimp only at s0 s1 s2 s3 s4 z0 z1 z2 z3 z4
    have zf0 := zf 0
    have zf1 := zf 1
    have zf2 := zf 2
    have zf3 := zf 3
    have zf4 := zf 4
    go_wp2
    refine bodyPost_ret (v := .agg #[.int .i64 b1, .int .i64 b2, .int .i64 b3, .int .i64 b4, .bool b5]) (by simp [results, Try.results33, go_sem, z0, z1, z2, z3, z4]) rfl ?_
    exact ⟨rfl, ((((HN8.below.setCell (by simp; omega) _).setCell (by simp; omega) _).setCell (by simp; omega) _).setCell (by simp; omega) _).setCell (by simp; omega) _⟩
  · refine region_flow 7 [6] (fun _ b => b ≠ w.heap.size) ⟨by kernel_rfl, by kernel_rfl⟩ (fun wf HB => ?_)
    refine' wpF_lightsG [false, true, true, false, true, true] 31 [6] (fun b => b ≠ w.heap.size) _ (by decide +kernel) (by simp) rfl (fun W hW => ?_) ?_
    rotate_left
    · skip
      have hk := ((keepT HB).sub (fun _ _ _ => trivial)).trans hW
      have e1W := hk.cell (p := ⟨w.heap.size + 1, 1, none⟩) (by simp) e1
      have e2W := hk.cell (p := ⟨w.heap.size + 1, 2, none⟩) (by simp) e2
      dsimp only [pickL]
      go_wp2
      exact Lend.ok
    refine wpF_call [true] 0 (by decide +kernel) rfl rfl ?_
    dsimp only [pickL]
    go_wp2_with fail
    refine (deeds_any _).mono ?_
    rintro e w7 ⟨r, rfl, hm, hB⟩
    go_wp2
    replace HB := bTr HB hB
    refine wpF_call [false, false, false, true] 3 (by decide +kernel) rfl rfl ?_
    have hl := look_deeds hm 4 false
    simp [deedsL, mget] at hl
    dsimp only [pickL]
    go_wp2_with fail
    go_wp2
    try (refine ⟨Below.refl _ _, ?_⟩)
    have HN7 := HN6.keep HB
    refine wpF_seal [false, false, false, false, false, false, true] 6 (by decide +kernel) rfl rfl ?_
    dsimp only [pickL]
    go_wp2_with fail
    refine (deed4 v ⟨a1 + 1, t, a3, a4, a5⟩ _ _ HN7.s5).mono ?_
    rintro e w8 ⟨rfl, h5, hk⟩
    go_wp2
    refine wpF_end (by kernel_rfl) ?_
    have HN8 : NextW w w8 (deedS 4 v ⟨a1 + 1, t, a3, a4, a5⟩) ⟨t, 4, v⟩ ⟨0, 0, 0, 0, false⟩ := ⟨below_keep HN7.below hk HN7.below.size (fun _ h => by omega), h5, HN7.e3.keep hk (by simp), HN7.z5.keep hk (by simp; omega)⟩
    rw [← Hn.out] at HN8
    clear HN6 HN7 h5 hk hB HB hm e0 e1 e2 l0 l1 Hn
    obtain ⟨b1, b2, b3, b4, b5⟩ := ns
    obtain ⟨⟨s0, s1, s2, s3, s4⟩, sf⟩ := HN8.s5
    obtain ⟨⟨z0, z1, z2, z3, z4⟩, zf⟩ := HN8.z5
    dsimp only at s0 s1 s2 s3 s4 z0 z1 z2 z3 z4
    have zf0 := zf 0
    have zf1 := zf 1
    have zf2 := zf 2
    have zf3 := zf 3
    have zf4 := zf 4
    go_wp2
    refine bodyPost_ret (v := .agg #[.int .i64 b1, .int .i64 b2, .int .i64 b3, .int .i64 b4, .bool b5]) (by simp [results, Try.results33, go_sem, z0, z1, z2, z3, z4]) rfl ?_
    exact ⟨rfl, ((((HN8.below.setCell (by simp; omega) _).setCell (by simp; omega) _).setCell (by simp; omega) _).setCell (by simp; omega) _).setCell (by simp; omega) _⟩

/-- The program's Next. -/
theorem next_any (s : St) (e : En) (w : World) : Calls Try.prog 33 #[s.v, e.v] w fun e' w' => e' = .returned (nextS s e).v ∧ Below w.heap.size w w' := by
  by_cases h : rightB e = true
  · by_cases hf : fineB s = true
    · by_cases hi : s.index < 1073741824
      · exact next_yes s e w h hf hi
      · have : nextS s e = s := if_neg (by simp [hi])
        rw [this]
        exact next_no3 s e w h hf hi
    · have : nextS s e = s := if_neg (by simp [hf])
      rw [this]
      exact next_no2 s e w h (by simpa using hf)
  · have : nextS s e = s := if_neg (by simp [h])
    rw [this]
    exact next_no s e w (by simpa using h)
end Go.Proofs.Ytoehcmddfpompaa
