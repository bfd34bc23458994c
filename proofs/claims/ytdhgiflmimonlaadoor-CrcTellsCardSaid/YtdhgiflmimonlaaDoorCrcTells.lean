/- The walk of CrcTells. -/
import Derived.Test.YtdhgiflmimonlaaDoorCrcWi
import Derived.Test.YtdhgiflmimonlaaDoorCalm8
import Derived.Test.YtdhgiflmimonlaaDoorEq
namespace Go.Proofs.YtdhgiflmimonlaaDoor
open Go Go.RowKit

/-- Rows of bytes, as long as they like. -/
def IsRowsW (w : World) (A : Option Addr) (ls : List (List UInt8)) : Prop :=
  ∃ vs : List Value, vs.length = ls.length ∧ Rd w A vs ∧ ∀ (i : Nat) (v : Value) (l : List UInt8), vs[i]? = some v → ls[i]? = some l → ∃ A c, v = .slice A l.length c ∧ (l.length ≤ c ∧ c ≤ maxLen) ∧ Rd w A (bvs l)
theorem IsRowsW.below {w w' : World} {A : Option Addr} {ls : List (List UInt8)} (h : IsRowsW w A ls) (hb : Below w.heap.size w w') : IsRowsW w' A ls := by
  obtain ⟨vs, hl, hr, hi⟩ := h
  refine ⟨vs, hl, hr.below hb, fun i v l h1 h2 => ?_⟩
  obtain ⟨A, c, e, h3, h4⟩ := hi i v l h1 h2
  exact ⟨A, c, e, h3, h4.below hb⟩
theorem IsRowsW.at_ {w : World} {A : Option Addr} {ls : List (List UInt8)} (h : IsRowsW w A ls) {k : Nat} (hk : k < ls.length) :
    ∃ b o A' c l, A = some ⟨b, o, none⟩ ∧ b < w.heap.size ∧ w.cell? ⟨b, o + k, none⟩ = some (.slice A' (List.length l) c) ∧ (l.length ≤ c ∧ c ≤ maxLen) ∧ Rd w A' (bvs l) ∧ ls[k]? = some l := by
  obtain ⟨vs, hl, hr, hi⟩ := h
  have hv : vs[k]? = some (vs[k]'(by omega)) := List.getElem?_eq_getElem (by omega)
  obtain ⟨b, o, e, hb, hc⟩ := hr k _ hv
  obtain ⟨A', c, e', hl', hr'⟩ := hi k _ ls[k] hv (List.getElem?_eq_getElem hk)
  exact ⟨b, o, A', c, ls[k], e, hb, by rw [hc, e'], hl', hr', List.getElem?_eq_getElem hk⟩
theorem IsRowsW.rows {w : World} {A : Option Addr} {ls : List (List UInt8)} (h : IsRowsW w A ls) (hs : ∀ l ∈ ls, l.length ≤ 1099511627776) : IsRows w A ls := by
  obtain ⟨vs, hl, hr, hi⟩ := h
  refine ⟨vs, hl, hr, fun i v l h1 h2 => ?_⟩
  obtain ⟨A, c, e, h3, h4⟩ := hi i v l h1 h2
  exact ⟨A, c, e, ⟨hs l (List.mem_of_getElem? h2), h3.1, h3.2⟩, h4⟩

theorem same_n (A B : Option Addr) (n m c d : Nat) (l k : List UInt8) (hn : l.length = n) (hk : k.length = m) (w : World) (hA : Rd w A (bvs l)) (hB : Rd w B (bvs k)) :
    Calls Tryd.prog 13 #[.slice A n c, .slice B m d] w fun e w' => e = .returned (.bool (decide (l = k))) ∧ w' = w := by
  subst hn; subst hk
  exact same_any A B c d l k w hA hB

set_option maxRecDepth 100000 in
set_option maxHeartbeats 2000000 in
theorem lawTells_any (A : Option Addr) (c n : Nat) (ls : List (List UInt8)) (hln : ls.length = n) (s h : Nat) (hs : s < 4294967296) (hh : h < 256) (w : World) (hA : n ≤ 40 → IsRowsW w A ls) (hr : RowsOK w) :
    Calls Tryd.prog 3 #[.slice A n c, .int .u32 s, .int .u8 h] w fun e w' => e = .returned (.bool true) ∧ Below w.heap.size w w' := by
  by_cases h4 : 40 < n
  · go_enter Tryd.func3, Tryd.ntmps3
    go_wp2_with (go_at_call 8; refine (wakes_any _ hr).mono ?_; rintro e w1 ⟨rfl, hB1⟩; have hz1 := hB1.size)
    go_returns
    exact ⟨rfl, hB1⟩
  · have hA := hA (by omega)
    go_enter Tryd.func3, Tryd.ntmps3
    go_wp2_with fail
    go_loopw [7] (fun i wr => ∃ k : Nat, k ≤ n ∧ i = .int .i64 k ∧ (∀ j l, j < k → ls[j]? = some l → l.length ≤ 400) ∧ Below w.heap.size w wr) (fun i _ => n - (intOf i).toNat)
    case atStart => exact ⟨0, by omega, rfl, fun _ _ h => by omega, Below.refl _ _⟩
    case round =>
      obtain ⟨k, hk, rfl, hshort, hBk⟩ := hrel
      have hAk := hA.below hBk
      have hrk := hr.below hBk
      by_cases hk4 : k < n
      · obtain ⟨b, o, A', c', l, rfl, hb, hcell, ⟨hlc, hcm⟩, hl, hat⟩ := hAk.at_ (k := k) (by omega)
        have HS := Lib.hid hshort
        clear hshort
        by_cases hbig : 400 < l.length
        · go_wp2_with (go_at_call 8; refine (wakes_any _ hrk).mono ?_; rintro e w1 ⟨rfl, hB1⟩; have hz1 := hB1.size)
          go_returns
          exact ⟨rfl, bTr hBk hB1⟩
        · have hk' : (k : Int) < n := by omega
          have hk0 : (0 : Int) ≤ k := by omega
          have hkn : k < n := by omega
          go_wp2_with fail
          refine (take_any A' c' l (by omega) hlc hcm _ hl hrk).mono ?_
          rintro e w1 ⟨v1, rfl, hown1, hB1⟩
          obtain ⟨hc1, hf1⟩ := bCells hB1
          have hc1' := (hc1 b (o + k) hb).trans hcell
          go_wp2_with fail
          refine (takeR_any A' c' l (by omega) hlc hcm _ (hl.below hB1)).mono ?_
          rintro e w2 ⟨v2, rfl, hown2, hB2⟩
          have hB12 := bTr hB1 hB2
          clear hc1 hf1 hc1'
          obtain ⟨hc2, hf2⟩ := bCells hB12
          have hc2' := (hc2 b (o + k) hb).trans hcell
          clear hc2 hf2
          obtain ⟨A1, c1, rfl, _⟩ := own_sl hown1
          obtain ⟨A2, c2, rfl, _⟩ := own_sl hown2
          have hd1 := (Rd.of_own hown1).below hB2
          have hd2 := Rd.of_own hown2
          have hr2 := hrk.below hB12
          have hl2 := hl.below hB12
          have hb2 : b < w2.heap.size := by have := hB12.size; omega
          have hSl : Sl w2 A' l.length c' l := ⟨hl2, rfl, by omega, hlc, hcm⟩
          clear hAk hrk hcell hl hown1 hown2
          go_wp2_with fail
          refine region_calm 38 ⟨by kernel_rfl, by kernel_rfl⟩ ?_
          refine' wpAnyM_lights [true, true, true, true, true, false, true, true, true, true, true] 107 _ (by decide +kernel) rfl (fun W hW => ?_) ?_
          rotate_left
          · have hcW := ((bCells hW).1 b (o + k) hb2).trans hc2'
            dsimp only [pickL]
            go_wp2
            exact Lend.ok
          have HB := Below.refl w2.heap.size w2
          refine wpAnyM_call [false, false, false, false, false, true] 5 ⟨by decide, by kernel_rfl, rfl, rfl⟩ (fun W hW => ?_)
          dsimp only [pickL]
          go_wp2_with fail
          refine (next_any s hs A' c' l (by omega) W (hl2.below (bTr HB hW)) (hr2.below (bTr HB hW))).mono ?_
          rintro e w' ⟨rfl, hB⟩
          go_wp2
          replace HB := bTr (bTr HB hW) hB
          refine wpAnyM_call [false, false, false, false, false, false, false, false, false, false, false, true] 11 ⟨by decide, by kernel_rfl, rfl, rfl⟩ (fun W hW => ?_)
          dsimp only [pickL]
          go_wp2_with fail
          refine (nextR_any s hs A' c' l (by unfold maxLen; omega) W (hl2.below (bTr HB hW))).mono ?_
          rintro e w' ⟨rfl, hB⟩
          go_wp2
          replace HB := bTr (bTr HB hW) hB
          refine' wpAnyM_lights [false, false, false, false, false, false, false, false, false, false, false, false, true, true, true, true, true, true, false, true, true, true, true] 107 _ (by decide +kernel) rfl (fun W hW => ?_) ?_
          rotate_left
          · have hcW := ((bCells (bTr HB hW)).1 b (o + k) hb2).trans hc2'
            dsimp only [pickL]
            go_wp2
            exact Lend.ok
          refine wpAnyM_call [false, false, false, false, false, false, false, false, false, false, false, false, false, false, false, false, false, false, true] 18 ⟨by decide, by kernel_rfl, rfl, rfl⟩ (fun W hW => ?_)
          dsimp only [pickL]
          go_wp2_with fail
          refine (put_any A' c' l (by omega) hlc hcm W (hl2.below (bTr HB hW)) (hr2.below (bTr HB hW))).mono ?_
          rintro e w' ⟨v3, rfl, hown3, hB⟩
          go_wp2
          replace HB := bTr (bTr HB hW) hB
          obtain ⟨A3, c3, rfl, _⟩ := own_sl hown3
          have hd3 := Rd.of_own hown3
          refine wpAnyM_call [false, false, false, false, false, false, false, false, false, false, false, false, false, false, false, false, false, false, false, false, false, false, false, true] 23 ⟨by decide, by kernel_rfl, rfl, rfl⟩ (fun W hW => ?_)
          dsimp only [pickL]
          go_wp2_with fail
          refine (putR_any A' c' l (by omega) hlc hcm W (hl2.below (bTr HB hW))).mono ?_
          rintro e w' ⟨v4, rfl, hown4, hB⟩
          go_wp2
          replace HB := bTr (bTr HB hW) hB
          obtain ⟨A4, c4, rfl, _⟩ := own_sl hown4
          have hd4 := Rd.of_own hown4
          replace hd3 := (hd3.below hW).below hB
          refine wpAnyM_call [false, false, false, false, false, false, false, false, false, false, false, false, false, false, false, false, false, false, false, false, false, false, false, false, true] 24 ⟨by decide, by kernel_rfl, rfl, rfl⟩ (fun W hW => ?_)
          dsimp only [pickL]
          go_wp2_with fail
          refine (same_n A3 A4 _ _ c3 c4 _ _ (putN_length l) (putN_length l) W (hd3.below hW) (hd4.below hW)).mono ?_
          rintro e w' ⟨rfl, rfl⟩
          go_wp2
          refine ⟨Below.refl _ _, ?_⟩
          replace HB := bTr HB hW
          refine' wpAnyM_lights [false, false, false, false, false, false, false, false, false, false, false, false, false, false, false, false, false, false, false, false, false, false, false, false, false, true, true, true, true, true] 107 _ (by decide +kernel) rfl (fun W hW => ?_) ?_
          rotate_left
          · dsimp only [pickL]
            go_wp2
            exact Lend.ok
          refine wpAnyM_call [false, false, false, false, false, false, false, false, false, false, false, false, false, false, false, false, false, false, false, false, false, false, false, false, false, false, false, false, false, false, true] 30 ⟨by decide, by kernel_rfl, rfl, rfl⟩ (fun W hW => ?_)
          dsimp only [pickL]
          go_wp2_with fail
          refine (same_any A1 A2 c1 c2 _ _ W (hd1.below (bTr HB hW)) (hd2.below (bTr HB hW))).mono ?_
          rintro e w' ⟨rfl, rfl⟩
          go_wp2
          refine ⟨Below.refl _ _, ?_⟩
          replace HB := bTr HB hW
          refine' wpAnyM_lights [false, false, false, false, false, false, false, false, false, false, false, false, false, false, false, false, false, false, false, false, false, false, false, false, false, false, false, false, false, false, false, true, true, true, true, true, true, true] 107 _ (by decide +kernel) rfl (fun W hW => ?_) ?_
          rotate_left
          · dsimp only [pickL]
            go_wp2
            exact Lend.ok
          refine region_calm_end (by kernel_rfl) (fun W hW => ?_)
          replace HB := bTr HB hW
          go_wp2
          go_roundw
          case rel => exact ⟨k + 1, by omega, by go_num, fun j l' hj hjl => by
            by_cases e : j = k
            · subst e; rw [hat] at hjl; injection hjl with hjl; subst hjl; omega
            · exact HS.out j l' (by omega) hjl, bTr (bTr hBk hB12) HB⟩
          case measure => simp [intOf]; omega
      · obtain rfl : k = n := by omega
        have hrows : IsRows wr A ls := hAk.rows fun l hl => by
          obtain ⟨j, hj⟩ := List.mem_iff_getElem?.1 hl
          have := hshort j l (by have := (List.getElem?_eq_some_iff.1 hj).1; omega) hj
          omega
        clear hshort hA hAk
        subst hln
        have he4 := fun w => run_eql_ints (P := Tryd.prog) (w := w) (t := 33) (e := 5) (k := .u8) [(s : Int) % 256, (s : Int) / 256 % 256, (s : Int) / 65536 % 256, (s : Int) / 16777216] [(s : Int) % 256, (s : Int) / 256 % 256, (s : Int) / 65536 % 256, (s : Int) / 16777216] Tryd.underlying33 Tryd.underlying5 (by kernel_rfl) rfl
        simp only [List.map_cons, List.map_nil, beq_self_eq_true] at he4
        have hlt := sumN_lt ls
        have q0 : s % 256 < 256 := by omega
        have q1 : s / 256 % 256 < 256 := by omega
        have q2 : s / 65536 % 256 < 256 := by omega
        have q3 : s / 16777216 < 256 := by omega
        go_wp2_with fail
        refine (step_any s h hs hh _ hrk).mono ?_
        rintro e w1 ⟨rfl, rfl⟩
        go_wp2_with fail
        refine (stepR_any s h hs hh _).mono ?_
        rintro e w1 ⟨rfl, rfl⟩
        go_wp2_with fail
        refine (sum_any A c ls (by omega) _ hrows hrk).mono ?_
        rintro e w1 ⟨rfl, hB1⟩
        go_wp2_with fail
        refine (sumR_any A c ls (by omega) _ (hrows.below hB1)).mono ?_
        rintro e w2 ⟨rfl, hB2⟩
        replace hB2 := bTr hB1 hB2
        go_wp2_with fail
        refine (four_any s hs _).mono ?_
        rintro e w3 ⟨rfl, hB3⟩
        replace hB3 := bTr hB2 hB3
        go_wp2_with fail
        refine (fourR_any s hs _).mono ?_
        rintro e w4 ⟨rfl, hB4⟩
        replace hB4 := bTr hB3 hB4
        simp only [fourV]
        go_wp2_with fail

        refine (wakes_any _ (hrk.below hB4)).mono ?_
        rintro e w5 ⟨rfl, hB5⟩
        go_wp2
        go_returns
        exact ⟨rfl, bTr hBk (bTr hB4 hB5)⟩
end Go.Proofs.YtdhgiflmimonlaaDoor
