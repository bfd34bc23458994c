/- The walk of EntrySums. -/
import Derived.Test.YtefpagijgiggmaaDoorEntSumsA
namespace Go.Proofs.YtefpagijgiggmaaDoor
open Go Go.RowKit

theorem two_boxes (w : World) (s : St) (t : TypeId) : Box5 ((w.alloc (.cells #[.int .i64 s.index, .int .i64 s.term, .int .i64 s.sum, .int .i64 s.level, .bool s.final] t)).alloc (.cells #[.int .i64 s.index, .int .i64 s.term, .int .i64 s.sum, .int .i64 s.level, .bool s.final] t)).drew w.heap.size s ∧
    Box5 ((w.alloc (.cells #[.int .i64 s.index, .int .i64 s.term, .int .i64 s.sum, .int .i64 s.level, .bool s.final] t)).alloc (.cells #[.int .i64 s.index, .int .i64 s.term, .int .i64 s.sum, .int .i64 s.level, .bool s.final] t)).drew (w.heap.size + 1) s := by
  refine ⟨((Box5.new w s t).keep ((KeepB.refl (fun _ => True) _).alloc _) trivial).keep (KeepB.refl (fun _ => True) _).drew trivial, ?_⟩
  have := Box5.new (w.alloc (.cells #[.int .i64 s.index, .int .i64 s.term, .int .i64 s.sum, .int .i64 s.level, .bool s.final] t)) s t
  rw [World.size_alloc] at this
  exact this.keep (KeepB.refl (fun _ => True) _).drew trivial
theorem below_alloc2 {a b : World} (h : Below a.heap.size a b) (x y : Obj) : Below a.heap.size a ((b.alloc x).alloc y).drew := ((h.alloc h.size _).alloc (by have := h.size; simp; omega) _).drew
theorem pmod (q : Int) (n : Nat) (hn : 0 < n) (hn3 : n ≤ 3) : ∃ p : Nat, p < n ∧ (wrap64 (q.tmod n + n)).tmod n = (p : Int) := by
  have h1 : q.tmod (n : Int) < n := Int.tmod_lt_of_pos q (by omega)
  have h2 : -(n : Int) < q.tmod n := Int.lt_tmod_of_pos q (by omega)
  have h3 : wrap64 (q.tmod n + n) = q.tmod n + n := IntWalk.wrap64_in _ (by omega)
  rw [h3, Int.tmod_eq_emod_of_nonneg (by omega)]
  refine ⟨((q.tmod n + n) % n).toNat, ?_, ?_⟩
  · have := Int.emod_lt_of_pos (q.tmod n + n) (show (0 : Int) < n by omega)
    have := Int.emod_nonneg (q.tmod n + n) (show (n : Int) ≠ 0 by omega)
    omega
  · have := Int.emod_nonneg (q.tmod n + n) (show (n : Int) ≠ 0 by omega)
    omega
set_option maxRecDepth 100000 in
set_option maxHeartbeats 4000000 in
theorem sums_good (s : St) (A : Option Addr) (n c : Nat) (l : List Int) (q value : Int) (hq : I64 q) (w : World) (hr : NamesOK w) (hln : l.length = n) (hA : Rd w A (ivs l)) (hn0 : 0 < n) (hn3 : n ≤ 3) (hf : fineB s = true) (hi : s.index ≤ 1073741624) (hv0 : 0 ≤ value) (hv1 : value ≤ 999) :
    Calls Tryd.prog 5 #[s.v, .slice A n c, .int .i64 q, .int .i64 value] w fun e w' => e = .returned (.bool true) ∧ Below w.heap.size w w' := by
  have hs0 := Box5.new w s 23
  have hBs : Below w.heap.size w (w.alloc (.cells #[.int .i64 s.index, .int .i64 s.term, .int .i64 s.sum, .int .i64 s.level, .bool s.final] 23)) := (Below.refl _ _).alloc (Nat.le_refl _) _
  have hF := (fineB_iff s).1 hf
  obtain ⟨a1, a2, a3, a4, a5⟩ := s
  dsimp only [St.v] at *
  have g0 : ((n : Int) == 0) = false := by simp; omega
  unfold I64 at hq
  go_enter Tryd.func5, Tryd.ntmps5
  go_upto_region 3 with (go_at_call 7; refine (fineR_any ⟨a1, a2, a3, a4, a5⟩ _).mono ?_; rintro e w1 ⟨rfl, hB1⟩; have hz := hB1.size; have k1 := keepT hB1; have hs1 := hs0.keep k1 trivial; have hs1' := hs1; obtain ⟨⟨c0, c1, c2, c3, c4⟩, _⟩ := hs1'; dsimp only at c0 c1 c2 c3 c4; rw [hf])
  have hB1' := bTr hBs hB1
  clear hs0 hB1 k1
  go_cut [2] (fun v2 wx => ∃ p : Nat, p < n ∧ v2 = .int .i64 p ∧ wx = w1)
  case first =>
    go_wp2
    go_meet
    obtain ⟨p, h1, h2⟩ := pmod q n hn0 hn3
    exact ⟨p, h1, by rw [h2], rfl⟩
  case rest =>
    obtain ⟨p, hp, rfl, rfl⟩ := hcut
    clear hq q
    go_upto_region 4 with fail
    go_cut [9, 10] (fun v9 v10 wx => ∃ ba bb : Nat, v9 = .pointer (some ⟨ba, 0, none⟩) ∧ v10 = .pointer (some ⟨bb, 0, none⟩) ∧ ba ≠ bb ∧ w.heap.size ≤ ba ∧ w.heap.size ≤ bb ∧ Box5 wx ba ⟨a1, a2, a3, a4, a5⟩ ∧ Box5 wx bb ⟨a1, a2, a3, a4, a5⟩ ∧ Below w.heap.size w wx)
    case first =>
      have hlt := hs1.lt
      have n1 : ¬ w.heap.size = wc.heap.size := by omega
      have n2 : ¬ w.heap.size = wc.heap.size + 1 := by omega
      have hx := Lib.hid (two_boxes wc ⟨a1, a2, a3, a4, a5⟩ 23)
      have hBx := below_alloc2 hB1' (.cells #[.int .i64 a1, .int .i64 a2, .int .i64 a3, .int .i64 a4, .bool a5] 23) (.cells #[.int .i64 a1, .int .i64 a2, .int .i64 a3, .int .i64 a4, .bool a5] 23)
      clear hr hA hBs hf hF
      go_wp2
      go_region
      all_goals go_wp2
      all_goals go_meet
      · exact ⟨_, _, rfl, rfl, by omega, by omega, by omega, hx.out.1, hx.out.2, hBx⟩
      · exact ⟨_, _, rfl, rfl, by omega, by omega, by omega, hx.out.2, hx.out.1, hBx⟩
    case rest =>
      obtain ⟨ba, bb, rfl, rfl, hab, hba, hbb, h5a, h5b, hBx⟩ := hcut
      have hstart := SumInv.start l p value ⟨a1, a2, a3, a4, a5⟩ hF
      clear hs1 hBs hz c0 c1 c2 c3 c4 hB1' hf hF
      go_wp2_with fail
      go_loopw [11] (fun i wr => ∃ (k : Nat) (a b : St), k ≤ n ∧ i = .int .i64 k ∧ Box5 wr ba a ∧ Box5 wr bb b ∧ SumInv l p value ⟨a1, a2, a3, a4, a5⟩ k a b ∧ Below w.heap.size w wr) (fun i _ => n - (intOf i).toNat)
      case atStart => exact ⟨0, _, _, by omega, rfl, h5a, h5b, hstart, hBx⟩
      case round =>
        clear h5a h5b hstart hBx
        obtain ⟨k, a, b, hk, rfl, ha, hb, hinv, hB⟩ := hrel
        have hrr := hr.below hB
        by_cases hlt : k < n
        · have hlk : l[k]? = some l[k] := List.getElem?_eq_getElem (by omega)
          obtain ⟨bl, ol, rfl, hbl, cl⟩ := (hA.below hB) k _ (ivs_at hlk)
          have Hlk := Lib.hid hlk
          clear hlk
          generalize l[k] = v at *
          have t1 : (0 : Int) ≤ (k : Int) := by omega
          have t2 : (k : Int) < (n : Int) := by omega
          by_cases hv : v < 0 ∨ 999 < v
          · by_cases hv0 : v < 0
            all_goals have hv9 : v < 0 ∨ 999 < v := hv
            all_goals
              go_wp2_with (go_at_call 8; refine (wakes_any _ hrr).mono ?_; rintro e w2 ⟨rfl, hB2⟩)
            · go_returns
              exact ⟨rfl, bTr hB hB2⟩
            · go_returns
              exact ⟨rfl, bTr hB hB2⟩
          · have hinv2 := hinv.step hi (by omega) v Hlk.out (by omega) (by omega) hv0 hv1
            have hn0 : (0 : Int) ≤ v := by omega
            have hn9 : v ≤ 999 := by omega
            clear hv
            have hdiff := ha.lt
            have hdiff2 := hb.lt
            have ha' := ha
            have hb' := hb
            obtain ⟨⟨c0, c1, c2, c3, c4⟩, _⟩ := ha'
            go_wp2_with fail
            refine (next_any a ⟨1, 1, v⟩ _).mono ?_
            rintro e w1 ⟨rfl, hB1⟩
            have hx3 : Box3 (wr.alloc (.cells #[.int .i64 1, .int .i64 1, .int .i64 v] 29)) wr.heap.size ⟨1, 1, v⟩ := by refine ⟨?_, ?_, ?_⟩ <;> simp
            have hxf : ∀ o, (wr.alloc (.cells #[.int .i64 1, .int .i64 1, .int .i64 v] 29)).frozen? ⟨wr.heap.size, o, none⟩ = false := fun o => by simp
            have hal : KeepB (fun _ => True) wr (wr.alloc (.cells #[.int .i64 1, .int .i64 1, .int .i64 v] 29)) := (KeepB.refl _ _).alloc _
            have ha1 := (ha.keep hal trivial).keep (keepT hB1) trivial
            have hb1 := (hb.keep hal trivial).keep (keepT hB1) trivial
            have hx1 := hx3.keep (keepT hB1) trivial
            have hxf1 : ∀ o, w1.frozen? ⟨wr.heap.size, o, none⟩ = false := fun o => ((keepT hB1).frozen (p := ⟨wr.heap.size, o, none⟩) (by simp) trivial).trans (hxf o)
            have hBw := bTr (hB.alloc hB.size (.cells #[.int .i64 1, .int .i64 1, .int .i64 v] 29)) hB1
            clear hx3 hxf hal hB1 c0 c1 c2 c3 c4 ha hb
            generalize nextS a ⟨1, 1, v⟩ = na at *
            dsimp only [St.v]
            have hset := Lib.hid (ha1.setAll na)
            obtain ⟨⟨c0, c1, c2, c3, c4⟩, cf⟩ := ha1
            have cf0 := cf 0
            have cf1 := cf 1
            have cf2 := cf 2
            have cf3 := cf 3
            have cf4 := cf 4
            clear cf
            go_upto_region 12 with fail
            obtain ⟨ha2, hk2⟩ := hset.out
            clear hset c0 c1 c2 c3 c4 cf0 cf1 cf2 cf3 cf4
            generalize ((((w1.setCell ⟨ba, 0, none⟩ (.int .i64 na.index)).setCell ⟨ba, 1, none⟩ (.int .i64 na.term)).setCell ⟨ba, 2, none⟩ (.int .i64 na.sum)).setCell ⟨ba, 3, none⟩ (.int .i64 na.level)).setCell ⟨ba, 4, none⟩ (.bool na.final) = w2 at *
            have hb2 := hb1.keep hk2 (Ne.symm hab)
            have hdx : wr.heap.size ≠ ba := by omega
            have hx2 := hx1.keep hk2 hdx
            have hxl := hx2.lt
            have hxf2 : ∀ o, w2.frozen? ⟨wr.heap.size, o, none⟩ = false := fun o => (hk2.frozen (p := ⟨wr.heap.size, o, none⟩) hx1.lt hdx).trans (hxf1 o)
            have hBw2 := below_keep hBw hk2 hBw.size (fun _ _ => by omega)
            have hxf22 := hxf2 2
            clear hx1 hxf1 hb1 hk2 hxf2 hBw
            have hb2' := hb2
            obtain ⟨⟨c0, c1, c2, c3, c4⟩, _⟩ := hb2'
            obtain ⟨x0, x1, x2⟩ := hx2
            dsimp only at x0 x1 x2
            by_cases hkp : k = p
            · have hg : ((k : Int) == (p : Int)) = true := by simp; omega
              rw [if_pos hkp] at hinv2
              have hk3 : KeepB (fun x => x ≠ wr.heap.size) w2 (w2.setCell ⟨wr.heap.size, 2, none⟩ (.int .i64 value)) := (KeepB.refl _ _).setCell (by simp) _
              have ha3 := ha2.keep hk3 (by omega)
              have hb3 := hb2.keep hk3 (by omega)
              have hBw3 := below_keep hBw2 hk3 hBw2.size (fun _ _ => by have := hB.size; omega)
              go_wp2_with fail
              refine (next_any b ⟨1, 1, value⟩ _).mono ?_
              rintro e w3 ⟨rfl, hB3⟩
              clear x0 x1 x2 c0 c1 c2 c3 c4 hk3
              have ha4 := ha3.keep (keepT hB3) trivial
              have hb4 := hb3.keep (keepT hB3) trivial
              have hBw4 := bTr hBw3 hB3
              generalize nextS b ⟨1, 1, value⟩ = nb at *
              dsimp only [St.v]
              have hset := Lib.hid (hb4.setAll nb)
              clear ha3 hb3 hBw3 hB3 ha2 hb2
              have hb4' := hb4
              obtain ⟨⟨c0, c1, c2, c3, c4⟩, cf⟩ := hb4'
              have cf0 := cf 0
              have cf1 := cf 1
              have cf2 := cf 2
              have cf3 := cf 3
              have cf4 := cf 4
              clear cf
              go_wp2
              obtain ⟨hb5, hk5⟩ := hset.out
              go_roundw
              case rel => exact ⟨k + 1, na, nb, by omega, by go_num, ha4.keep hk5 hab, hb5, by first | simpa [hkp] using hinv2 | exact hinv2, below_keep hBw4 hk5 hBw4.size (fun _ _ => by omega)⟩
              case measure => simp [intOf]; omega
            · have hg : ((k : Int) == (p : Int)) = false := by simp; omega
              rw [if_neg hkp] at hinv2
              have ha3 := ha2
              have hb3 := hb2
              have hBw3 := hBw2
              go_wp2_with fail
              refine (next_any b ⟨1, 1, v⟩ _).mono ?_
              rintro e w3 ⟨rfl, hB3⟩
              clear x0 x1 x2 c0 c1 c2 c3 c4
              have ha4 := ha3.keep (keepT hB3) trivial
              have hb4 := hb3.keep (keepT hB3) trivial
              have hBw4 := bTr hBw3 hB3
              generalize nextS b ⟨1, 1, v⟩ = nb at *
              dsimp only [St.v]
              have hset := Lib.hid (hb4.setAll nb)
              clear ha3 hb3 hBw3 hB3 ha2 hb2
              have hb4' := hb4
              obtain ⟨⟨c0, c1, c2, c3, c4⟩, cf⟩ := hb4'
              have cf0 := cf 0
              have cf1 := cf 1
              have cf2 := cf 2
              have cf3 := cf 3
              have cf4 := cf 4
              clear cf
              go_wp2
              obtain ⟨hb5, hk5⟩ := hset.out
              go_roundw
              case rel => exact ⟨k + 1, na, nb, by omega, by go_num, ha4.keep hk5 hab, hb5, by first | simpa [hkp] using hinv2 | exact hinv2, below_keep hBw4 hk5 hBw4.size (fun _ _ => by omega)⟩
              case measure => simp [intOf]; omega
        · obtain rfl : k = n := by omega
          have hpk : l[p]? = some l[p] := List.getElem?_eq_getElem (by omega)
          have hlast := hinv.last hp hv0 hv1 hpk
          obtain ⟨bl, ol, rfl, hbl, cl⟩ := (hA.below hB) p _ (ivs_at hpk)
          clear hinv hpk
          generalize l[p] = x at *
          have t1 : (0 : Int) ≤ (p : Int) := by omega
          have t2 : (p : Int) < (k : Int) := by omega
          have hla := ha.lt
          have hlb := hb.lt
          have hlc : bl < wr.heap.size := by have := hB.size; omega
          obtain ⟨⟨c0, c1, c2, c3, c4⟩, _⟩ := ha
          obtain ⟨⟨d0, d1, d2, d3, d4⟩, _⟩ := hb
          go_wp2
          refine region_flow0 16 ⟨by kernel_rfl, by kernel_rfl⟩ (fun wf HB => ?_)
          refine' wpF_lights [true, true, true, true, true, true, true, true, true, true, true, true, true] 102 _ (by decide +kernel) rfl (fun W hW => ?_) ?_
          rotate_left
          · obtain ⟨hcW, hfW⟩ := bCells (bTr HB hW)
            dsimp only [pickL]
            go_wp2
            exact Lend.ok
          refine wpF_call [false, false, false, false, false, false, false, false, false, false, false, false, false, true] 13 (by decide +kernel) rfl rfl ?_
          dsimp only [pickL]
          go_wp2_with fail
          refine (wakes_any _ (hrr.below HB)).mono ?_
          rintro e w2 ⟨rfl, hB2⟩
          go_wp2
          replace HB := bTr HB hB2
          refine' wpF_lights [false, false, false, false, false, false, false, false, false, false, false, false, false, false, true, true] 102 _ (by decide +kernel) rfl (fun W hW => ?_) ?_
          rotate_left
          · obtain ⟨hcW, hfW⟩ := bCells (bTr HB hW)
            dsimp only [pickL]
            go_wp2
            exact Lend.ok
          refine wpF_end (by kernel_rfl) ?_
          go_wp2
          go_returns
          exact ⟨rfl, bTr hB HB⟩
theorem sums_all (s : St) (A : Option Addr) (c : Nat) (l : List Int) (q value : Int) (hq : I64 q) (w : World) (hr : NamesOK w) (hA : Rd w A (ivs l)) :
    Calls Tryd.prog 5 #[s.v, .slice A l.length c, .int .i64 q, .int .i64 value] w fun e w' => e = .returned (.bool true) ∧ Below w.heap.size w w' := by
  by_cases hb : l.length = 0 ∨ 3 < l.length ∨ fineB s = false ∨ 1073741624 < s.index ∨ value < 0 ∨ 999 < value
  · exact sums_bad s A l.length c q value w hr hb
  · exact sums_good s A l.length c l q value hq w hr rfl hA (by omega) (by omega) (by cases hf : fineB s; simp [hf] at hb; rfl) (by omega) (by omega) (by omega)
end Go.Proofs.YtefpagijgiggmaaDoor
