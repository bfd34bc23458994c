/- The walk of EntryParts. -/
import Derived.Test.YtefpagijgiggmaaDoorEntLevels
import Derived.Test.YtefpagijgiggmaaDoorEntPartsPl
import Derived.Test.YtefpagijgiggmaaDoorAlloc
namespace Go.Proofs.YtefpagijgiggmaaDoor
open Go Go.RowKit

theorem Box5.of_heap {w : World} {g : Nat} {s : St} {T : TypeId} (h : w.heap[g]? = some (.cells #[.int .i64 s.index, .int .i64 s.term, .int .i64 s.sum, .int .i64 s.level, .bool s.final] T)) : Box5 w g s := by
  have hc : ∀ j, w.cell? ⟨g, j, none⟩ = (#[.int .i64 s.index, .int .i64 s.term, .int .i64 s.sum, .int .i64 s.level, .bool s.final] : Array Value)[j]? := fun j => by
    rw [cell_of_row _ _ _ _ T (0, 0) h]
  refine ⟨⟨?_, ?_, ?_, ?_, ?_⟩, fun j => ?_⟩
  · rw [hc]; rfl
  · rw [hc]; rfl
  · rw [hc]; rfl
  · rw [hc]; rfl
  · rw [hc]; rfl
  · simp [World.frozen?, h]
theorem Box5.alloc {w : World} {g : Nat} {s : St} (h : Box5 w g s) (o : Obj) : Box5 (w.alloc o) g s := h.keep ((KeepB.refl (fun _ => True) w).alloc o) trivial
theorem elemE : Elem Tryd.prog 24 29 (.agg #[.int .i64 0, .int .i64 0, .int .i64 0]) 3 24 := ⟨Tryd.underlying24, by kernel_rfl, rfl, by omega⟩
theorem ens_one (l : List En) : ∀ u ∈ ens l, u.oneCell' = true := by
  intro u hu
  simp only [ens, List.mem_flatMap, List.mem_cons, List.not_mem_nil, or_false] at hu
  obtain ⟨e, _, rfl | rfl | rfl⟩ := hu <;> rfl

set_option maxRecDepth 100000 in
set_option maxHeartbeats 4000000 in
theorem parts_bad (s : St) (A B : Option Addr) (n c m d : Nat) (k : Int) (w : World) (hr : NamesOK w) (hb : 50 < n ∨ 50 < m ∨ fineB s = false ∨ 1073741624 < s.index) :
    Calls Tryd.prog 4 #[s.v, .slice A n c, .slice B m d, .int .i64 k] w fun e w' => e = .returned (.bool true) ∧ Below w.heap.size w w' := by
  have hs0 := Box5.new w s 23
  have hBs : Below w.heap.size w (w.alloc (.cells #[.int .i64 s.index, .int .i64 s.term, .int .i64 s.sum, .int .i64 s.level, .bool s.final] 23)) := (Below.refl _ _).alloc (Nat.le_refl _) _
  have hr0 : NamesOK (w.alloc (.cells #[.int .i64 s.index, .int .i64 s.term, .int .i64 s.sum, .int .i64 s.level, .bool s.final] 23)) := hr.below hBs
  obtain ⟨a1, a2, a3, a4, a5⟩ := s
  dsimp only [St.v] at *
  by_cases h3 : 50 < n
  · go_enter Tryd.func4, Tryd.ntmps4
    go_wp2_with (go_at_call 8; refine (wakes_any _ (by assumption)).mono ?_; rintro e w2 ⟨rfl, hB2⟩)
    go_returns
    exact ⟨rfl, bTr hBs hB2⟩
  by_cases h4 : 50 < m
  · go_enter Tryd.func4, Tryd.ntmps4
    go_wp2_with (go_at_call 8; refine (wakes_any _ (by assumption)).mono ?_; rintro e w2 ⟨rfl, hB2⟩)
    go_returns
    exact ⟨rfl, bTr hBs hB2⟩
  cases hf : fineB ⟨a1, a2, a3, a4, a5⟩ with
  | false =>
    go_enter Tryd.func4, Tryd.ntmps4
    go_wp2_with (first | (go_at_call 7; refine (fineR_any ⟨a1, a2, a3, a4, a5⟩ _).mono ?_; rintro e w1 ⟨rfl, hB1⟩; have hz := hB1.size; have k1 := keepT hB1; have hs1 := hs0.keep k1 trivial; obtain ⟨⟨c0, c1, c2, c3, c4⟩, _⟩ := hs1; dsimp only at c0 c1 c2 c3 c4; have hr1 := hr.below (bTr hBs hB1); rw [hf]) | (go_at_call 8; refine (wakes_any _ (by assumption)).mono ?_; rintro e w2 ⟨rfl, hB2⟩))
    go_returns
    exact ⟨rfl, bTr hBs (bTr hB1 hB2)⟩
  | true =>
    have hi : 1073741624 < a1 := by simp [hf] at hb; omega
    go_enter Tryd.func4, Tryd.ntmps4
    go_wp2_with (first | (go_at_call 7; refine (fineR_any ⟨a1, a2, a3, a4, a5⟩ _).mono ?_; rintro e w1 ⟨rfl, hB1⟩; have hz := hB1.size; have k1 := keepT hB1; have hs1 := hs0.keep k1 trivial; obtain ⟨⟨c0, c1, c2, c3, c4⟩, _⟩ := hs1; dsimp only at c0 c1 c2 c3 c4; have hr1 := hr.below (bTr hBs hB1); rw [hf]) | (go_at_call 8; refine (wakes_any _ (by assumption)).mono ?_; rintro e w2 ⟨rfl, hB2⟩))
    go_returns
    exact ⟨rfl, bTr hBs (bTr hB1 hB2)⟩

set_option maxRecDepth 100000 in
set_option maxHeartbeats 8000000 in
theorem parts_good (s : St) (A B : Option Addr) (n c q d : Nat) (k t : Int) (ht : (k < 1 ∧ t = 1) ∨ (1 ≤ k ∧ k = t)) (l m : List En) (w : World) (hr : NamesOK w) (hln : l.length = n) (hmq : m.length = q) (hA : Rd w A (ens l)) (hBm : Rd w B (ens m)) (hn : n ≤ 50) (hq : q ≤ 50) (hnc : n ≤ c) (hcm : c ≤ maxLen) (hqd : q ≤ d) (hdm : d ≤ maxLen)
    (hf : fineB s = true) (hi : s.index ≤ 1073741624) :
    Calls Tryd.prog 4 #[s.v, .slice A n c, .slice B q d, .int .i64 k] w fun e w' => e = .returned (.bool true) ∧ Below w.heap.size w w' := by
  have hs0 := Box5.new w s 23
  have hBs : Below w.heap.size w (w.alloc (.cells #[.int .i64 s.index, .int .i64 s.term, .int .i64 s.sum, .int .i64 s.level, .bool s.final] 23)) := (Below.refl _ _).alloc (Nat.le_refl _) _
  have hF := Lib.hid ((fineB_iff s).1 hf)
  obtain ⟨a1, a2, a3, a4, a5⟩ := s
  dsimp only [St.v] at *
  go_enter Tryd.func4, Tryd.ntmps4
  go_upto_region 3 with (go_at_call 7; refine (fineR_any ⟨a1, a2, a3, a4, a5⟩ _).mono ?_; rintro e w1 ⟨rfl, hB1⟩; have hz := hB1.size; have k1 := keepT hB1; have hs1 := hs0.keep k1 trivial; have hs1' := hs1; obtain ⟨⟨c0, c1, c2, c3, c4⟩, _⟩ := hs1'; dsimp only at c0 c1 c2 c3 c4; rw [hf])
  have hB1' := bTr hBs hB1
  clear hs0 hB1 k1 hBs hz hf
  have hls := hs1.lt
  go_wp2
  refine region_alloc 7 7 8 9 (.cells #[.int .i64 0, .int .i64 0, .int .i64 0, .int .i64 0, .bool false] 23) ⟨by kernel_rfl, by kernel_rfl, by decide +kernel⟩ rfl (fun _ _ => by go_simp) (fun wf HB => ?_)
  refine' wpAnyL_lights [true, false, true, false, true] 95 _ (by decide +kernel) rfl (fun W hW => ?_) ?_
  rotate_left
  · obtain ⟨hcW, hfW⟩ := bCells (bTr HB hW)
    dsimp only [pickL]
    go_wp2
    exact Lend.ok
  refine wpAnyL_empty [false, true] 1 29 3 ⟨by decide, by kernel_rfl, rfl, rfl⟩ rfl (fun _ _ => by go_simp) (fun z W1 hz hz1 hB2 hown0 hL0 => ?_)
  have hA1 := ((hA.below hB1').below HB).below hB2
  have hBz1 := HB.size
  refine wpAnyL_append [false, false, false, true] 3 (.tmp 32) (.tmp 33) (v := .slice (some ⟨z, 0, none⟩) 0 0) ⟨by decide, by kernel_rfl, rfl, rfl⟩ rfl rfl elemE rfl hown0 hL0 rfl (by rw [ens_length]; omega) hA1 (ens_one l) (by unfold maxLen; omega) (by omega) (by omega) ?_
  intro W2 v3 W3 hB3 hown1 _ hb3 hL1
  have hb2 : Below wf.heap.size wf W3 := hB2.trans (hb3)
  refine wpAnyL_append [false, false, false, false, false, true] 5 (.tmp 34) (.tmp 35) (v := v3) ⟨by decide, by kernel_rfl, rfl, rfl⟩ rfl rfl elemE rfl hown1 hL1 rfl (by rw [ens_length]; omega) (((hBm.below hB1').below HB).below hb2) (ens_one m) (by unfold maxLen; omega) (by omega) (Nat.le_trans hB2.size (by have := hb3.size; omega)) ?_
  intro W4 v5 W5 hB5 hown5 _ hb5 hL5
  have hb4 : Below w1.heap.size w1 W5 := bTr HB (hb2.trans hb5)
  clear hA1 hown0 hown1 hL0 hL1 hB2 hb2 hb3 hb5 hB3 hB5
  rw [List.nil_append, ← ens_app] at hown5
  obtain ⟨A5, c5, rfl, hc5, hm5⟩ := own_slice hown5
  have hr5 := Rd.of_own hown5
  clear hown5 hL5
  refine wpAnyL_call [false, false, false, false, false, false, true] 6 ⟨by decide, by kernel_rfl, rfl, rfl⟩ (fun W hW => ?_)
  dsimp only [pickL]
  go_wp2_with fail
  refine (all_n ⟨a1, a2, a3, a4, a5⟩ A5 _ c5 (l ++ m) (by rw [List.length_append]; omega) (by rw [List.length_append]; omega) hm5 W (hr5.below hW)).mono ?_
  rintro e w6 ⟨rfl, hB6⟩
  rw [allS_app]
  obtain ⟨a, ha⟩ : ∃ a, a = allS (allS ⟨a1, a2, a3, a4, a5⟩ l) m := ⟨_, rfl⟩
  rw [← ha]
  have Ha := Lib.hid ha
  clear ha
  obtain ⟨x1, x2, x3, x4, x5⟩ := a
  dsimp only [St.v]
  have hB := hB6
  replace HB := hb4
  go_wp2
  replace HB := bTr (bTr HB hW) hB
  clear hb4 hW hB6 hB hr5
  refine alloc_end [false, false, false, false, false, false, false, false, true] ⟨by kernel_rfl, by kernel_rfl, by kernel_rfl⟩ rfl rfl (fun W hW g hg hL hz => ?_)
  dsimp only [pickL]
  have h5 := Box5.of_heap (s := ⟨0, 0, 0, 0, false⟩) hz
  have hset := Lib.hid (h5.setAll ⟨x1, x2, x3, x4, x5⟩)
  obtain ⟨⟨z0, z1, z2, z3, z4⟩, zf⟩ := h5
  have zf0 := zf 0
  have zf1 := zf 1
  have zf2 := zf 2
  have zf3 := zf 3
  have zf4 := zf 4
  clear zf
  dsimp only at z0 z1 z2 z3 z4
  go_upto_region 4 with fail
  obtain ⟨h9, hk9⟩ := hset.out
  have hls2 : w.heap.size < g := by omega
  have hs9 := (hs1.keep (keepT (bTr HB hW)) trivial).keep hk9 (Nat.ne_of_lt hls2)
  have hB9 := below_keep (bTr HB hW) hk9 (bTr HB hW).size (fun b hb => (by omega : b ≠ g))
  clear hset hk9 hz zf0 zf1 zf2 zf3 zf4 z0 z1 z2 z3 z4 hL c0 c1 c2 c3 c4
  generalize ((((W.setCell ⟨g, 0, none⟩ (.int .i64 x1)).setCell ⟨g, 1, none⟩ (.int .i64 x2)).setCell ⟨g, 2, none⟩ (.int .i64 x3)).setCell ⟨g, 3, none⟩ (.int .i64 x4)).setCell ⟨g, 4, none⟩ (.bool x5) = w9 at *
  have hls9 := hs9.lt
  have hs9' := hs9
  obtain ⟨⟨c0, c1, c2, c3, c4⟩, _⟩ := hs9'
  dsimp only at c0 c1 c2 c3 c4
  clear HB hW
  go_wp2_with fail
  refine (all_n ⟨a1, a2, a3, a4, a5⟩ A n c l hln (by omega) hcm w9 (hA.below (bTr hB1' hB9))).mono ?_
  rintro e w10 ⟨rfl, hB10⟩
  obtain ⟨b, hb⟩ : ∃ b, b = allS ⟨a1, a2, a3, a4, a5⟩ l := ⟨_, rfl⟩
  have Hb := Lib.hid hb
  rw [← hb]
  clear hb
  obtain ⟨b1, b2, b3, b4, b5⟩ := b
  dsimp only [St.v]
  go_wp2_with fail
  refine (all_n ⟨b1, b2, b3, b4, b5⟩ B q d m hmq (by omega) hdm w10 (hBm.below (bTr hB1' (bTr hB9 hB10)))).mono ?_
  rintro e w11 ⟨rfl, hB11⟩
  rw [Hb.out, ← Ha.out]
  dsimp only [St.v]
  go_upto_region 5 with fail
  replace hB11 := bTr hB10 hB11
  clear hB10
  have h9a := h9.keep (keepT hB11) trivial
  have hs11 := hs9.keep (keepT hB11) trivial
  have h12 := Box5.new w11 ⟨x1, x2, x3, x4, x5⟩ 23
  replace h9a := h9a.alloc (.cells #[.int .i64 x1, .int .i64 x2, .int .i64 x3, .int .i64 x4, .bool x5] 23)
  replace hs11 := hs11.alloc (.cells #[.int .i64 x1, .int .i64 x2, .int .i64 x3, .int .i64 x4, .bool x5] 23)
  have hB12 := bTr hB9 (hB11.alloc hB11.size (.cells #[.int .i64 x1, .int .i64 x2, .int .i64 x3, .int .i64 x4, .bool x5] 23))
  dsimp only at h12
  clear hB9 hB11 h9 hs9 c0 c1 c2 c3 c4 hs1
  generalize w11.alloc (.cells #[.int .i64 x1, .int .i64 x2, .int .i64 x3, .int .i64 x4, .bool x5] 23) = w12 at *
  generalize w11.heap.size = g2 at *
  have hs11' := hs11
  obtain ⟨⟨c0, c1, c2, c3, c4⟩, _⟩ := hs11'
  dsimp only at c0 c1 c2 c3 c4
  have hl11 := hs11.lt
  go_wp2_with fail
  refine (all_n ⟨a1, a2, a3, a4, a5⟩ A n c l hln (by omega) hcm w12 (hA.below (bTr hB1' hB12))).mono ?_
  rintro e w13 ⟨rfl, hB13⟩
  rw [← Hb.out]
  dsimp only [St.v]
  have hmax : 1 ≤ t := by omega
  have Htl := Lib.hid (fun h : t ≤ 1073741824 => parts_tail ⟨a1, a2, a3, a4, a5⟩ l m t hF.out hi (by omega) (by omega) hmax h)
  rcases ht with ⟨hk, rfl⟩ | ⟨hk, rfl⟩
  all_goals
    go_wp2_with fail
    refine (next_any ⟨b1, b2, b3, b4, b5⟩ ⟨_, 0, 0⟩ w13).mono ?_
    rintro e w14 ⟨rfl, hB14⟩
    generalize hy : nextS ⟨b1, b2, b3, b4, b5⟩ ⟨_, 0, 0⟩ = y
    have Hy := Lib.hid hy
    clear hy
    obtain ⟨y1, y2, y3, y4, y5⟩ := y
    dsimp only [St.v]
    replace hB13 := bTr hB13 hB14
    clear hB14
    go_wp2_with fail
    refine (all_n ⟨y1, y2, y3, y4, y5⟩ B q d m hmq (by omega) hdm w14 (hBm.below (bTr hB1' (bTr hB12 hB13)))).mono ?_
    rintro e w15 ⟨rfl, hB15⟩
    generalize hu : allS ⟨y1, y2, y3, y4, y5⟩ m = u
    have Hu := Lib.hid hu
    clear hu
    obtain ⟨u1, u2, u3, u4, u5⟩ := u
    dsimp only [St.v]
    replace hB13 := bTr hB13 hB15
    clear hB15
    go_upto_region 6 with fail
    have h9b := (h9a.keep (keepT hB13) trivial).alloc (.cells #[.int .i64 u1, .int .i64 u2, .int .i64 u3, .int .i64 u4, .bool u5] 23)
    have h12b := (h12.keep (keepT hB13) trivial).alloc (.cells #[.int .i64 u1, .int .i64 u2, .int .i64 u3, .int .i64 u4, .bool u5] 23)
    have h16 := Box5.new w15 ⟨u1, u2, u3, u4, u5⟩ 23
    have hB16 := bTr hB1' (bTr hB12 (hB13.alloc hB13.size (.cells #[.int .i64 u1, .int .i64 u2, .int .i64 u3, .int .i64 u4, .bool u5] 23)))
    dsimp only at h16
    clear hB13 hB12 h9a h12 hs11 c0 c1 c2 c3 c4 hB1'
    generalize w15.alloc (.cells #[.int .i64 u1, .int .i64 u2, .int .i64 u3, .int .i64 u4, .bool u5] 23) = w16 at *
    generalize w15.heap.size = g3 at *
    have l1 := h9b.lt
    have l2 := h12b.lt
    have l3 := h16.lt
    obtain ⟨⟨c0, c1, c2, c3, c4⟩, _⟩ := h9b
    obtain ⟨⟨d0, d1, d2, d3, d4⟩, _⟩ := h12b
    obtain ⟨⟨e0, e1, e2, e3, e4⟩, _⟩ := h16
    dsimp only at c0 c1 c2 c3 c4 d0 d1 d2 d3 d4 e0 e1 e2 e3 e4
    have hr16 := hr.below hB16
    by_cases hbig : 1073741824 < k
    · go_wp2_with (go_at_call 8; refine (wakes_any _ hr16).mono ?_; rintro e w17 ⟨rfl, hB17⟩)
      go_returns
      exact ⟨rfl, bTr hB16 hB17⟩
    · have htl := Htl.out (by omega)
      have hix := allS_index ⟨a1, a2, a3, a4, a5⟩ l
      have hix2 := allS_index (allS ⟨a1, a2, a3, a4, a5⟩ l) m
      rw [← Ha.out] at htl hix2
      rw [← Hb.out] at htl hix hix2
      rw [Hy.out, Hu.out] at htl
      dsimp only at htl hix hix2
      obtain ⟨rfl, rfl, rfl, rfl⟩ := htl
      have hx1 : x1 ≤ 1073741824 := by omega
      have hx0 : 0 ≤ x1 := by have := (hF.out).bounds; dsimp only at this; omega
      go_wp2_with (go_at_call 8; refine (wakes_any _ hr16).mono ?_; rintro e w17 ⟨rfl, hB17⟩)
      go_returns
      exact ⟨rfl, bTr hB16 hB17⟩
theorem parts_all (s : St) (A B : Option Addr) (c d : Nat) (k : Int) (l m : List En) (w : World) (hr : NamesOK w) (hA : Rd w A (ens l)) (hB : Rd w B (ens m)) (hnc : l.length ≤ c) (hcm : c ≤ maxLen) (hqd : m.length ≤ d) (hdm : d ≤ maxLen) :
    Calls Tryd.prog 4 #[s.v, .slice A l.length c, .slice B m.length d, .int .i64 k] w fun e w' => e = .returned (.bool true) ∧ Below w.heap.size w w' := by
  by_cases h : 50 < l.length ∨ 50 < m.length ∨ fineB s = false ∨ 1073741624 < s.index
  · exact parts_bad s A B _ c _ d k w hr h
  · simp only [not_or, Bool.not_eq_false] at h
    exact parts_good s A B _ c _ d k (max k 1) (by omega) l m w hr rfl rfl hA hB (by omega) (by omega) hnc hcm hqd hdm h.2.2.1 (by omega)
end Go.Proofs.YtefpagijgiggmaaDoor
