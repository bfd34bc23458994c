/- The walk of LevelKnown. -/
import Derived.Test.YtoehcmddfpompaaLevWf
import Derived.Test.YtoehcmddfpompaaAlloc
import Derived.Deep.DeepCutAuto
namespace Go.Proofs.Ytoehcmddfpompaa
open Go Go.RowKit

theorem known_rev (l : List Int) : knownB l.reverse = knownB l := by simp [knownB]
theorem known_snoc (l : List Int) (m : Int) : knownB (l ++ [m]) = ((knownB l || decide (l.length = 0)) && (m == 2)) := by
  cases l with
  | nil => simp [knownB, not2, bne]
  | cons a l => simp [knownB, not2, bne, Bool.and_assoc]
/-- What is reckoned of those ahead. -/
def fineL (l : List Int) (k : Nat) : Bool := !l.isEmpty && !((l.take k).any not2)
theorem fineL_step (l : List Int) (k : Nat) (x : Int) (h : l[k]? = some x) : fineL l (k + 1) = (fineL l k && (x == 2)) := by
  unfold fineL
  rw [List.take_add_one, h]
  simp [not2, bne, List.any_append, Bool.and_assoc]
theorem fineL_end (l : List Int) (n : Nat) (h : l.length = n) : fineL l n = knownB l := by subst h; simp [fineL, knownB]

set_option maxRecDepth 100000 in
set_option maxHeartbeats 8000000 in
theorem known_all (A : Option Addr) (n c : Nat) (l : List Int) (hn : l.length = n) (m : Int) (w : World) (hA : Rd w A (ivs l)) :
    Calls Try.prog 5 #[.slice A n c, .int .i64 m] w fun e w' => e = .returned (.bool true) ∧ Below w.heap.size w w' := by
  have Hn := Lib.hid hn
  by_cases h40 : 40 < n
  · clear hn
    go_enter Try.func5, Try.ntmps5
    go_wp2_with (go_at_call 7; refine (wakes_any _).mono ?_; rintro e w2 ⟨rfl, hB2⟩)
    go_returns
    exact ⟨rfl, hB2⟩
  have d1 : decide ((40 : Int) < (n : Int)) = false := by simp; omega
  have hl : l.length ≤ 1099511627776 := by omega
  have h0 : decide (0 < n) = fineL l 0 := by
    cases l with
    | nil => simp at hn; subst hn; rfl
    | cons a l => simp only [List.length_cons] at hn; subst hn; simp [fineL]
  have hns := Lib.hid (known_snoc l m)
  have hrv := Lib.hid (known_rev l)
  have hen := Lib.hid (fineL_end l n hn)
  clear hn
  go_enter Try.func5, Try.ntmps5
  go_wp2_with fail
  go_loopw [5, 6, 7] (fun v5 v6 i wr => ∃ k : Nat, k ≤ n ∧ i = .int .i64 k ∧ v5 = .bool (fineL l k) ∧ wr.ownsRow w.heap.size 3 1 v6 k (ivs (l.take k).reverse) ∧ Below w.heap.size w wr) (fun _ _ i _ => n - (intOf i).toNat)
  case atStart => exact ⟨0, by omega, rfl, rfl, World.ownsRow_nil _ _ _ _, Below.refl _ _⟩
  case round =>
    obtain ⟨k, hk, rfl, rfl, hown, hB⟩ := hrel
    have hz := hB.size
    obtain ⟨A6, c6, rfl, h6⟩ := own_slice hown
    by_cases hlt : k < n
    · obtain ⟨b, o, x, rfl, hb, hc, hx⟩ := (hA.below hB).int (k := k) (by rw [Hn.out]; exact hlt)
      have Hs := Lib.hid (fineL_step l k x hx)
      have Ht := Lib.hid (show (l.take (k + 1)).reverse = x :: (l.take k).reverse by rw [List.take_add_one, hx]; simp)
      clear hx h0
      generalize fineL l k = f at *
      have hown1 := World.ownsRow_lit (base := w.heap.size) (e := 3) (size := 1) wr #[.int .i64 x] 1 hz (by simp [maxLen]) rfl
      have hrd6 := (Rd.of_own hown).below ((Below.refl wr.heap.size wr).alloc (Nat.le_refl _) (.cells #[.int .i64 x] 3))
      have Hlen := Lib.hid (show (ivs (l.take k).reverse).length = k * 1 by rw [ivs_length, List.length_reverse, List.length_take, Hn.out]; omega)
      by_cases hx2 : x = 2
      · subst hx2
        cases f
        all_goals
          go_wp2_with (at_builtin; refine list_append_rd (news := ivs (l.take k).reverse) rfl (.tmp 35) (.tmp 36) rfl elemI rfl hown1 rfl Hlen.out hrd6 (ivs_one _) (by unfold maxLen; omega) (by omega) (by simp; omega) ?_; intro v' w' hown' hg hloc)
          go_roundw
          case rel => exact ⟨k + 1, by omega, by go_num, by rw [Hs.out]; rfl, by rw [Ht.out, Nat.add_comm k 1]; exact hown', bGrow (hB.alloc hz _) hg (by simp; omega) hown1⟩
          case measure => simp [intOf]; omega
      · have hxe : (x == 2) = false := by simpa using hx2
        clear hx2
        cases f
        all_goals
          go_wp2_with (at_builtin; refine list_append_rd (news := ivs (l.take k).reverse) rfl (.tmp 35) (.tmp 36) rfl elemI rfl hown1 rfl Hlen.out hrd6 (ivs_one _) (by unfold maxLen; omega) (by omega) (by simp; omega) ?_; intro v' w' hown' hg hloc)
          go_roundw
          case rel => exact ⟨k + 1, by omega, by go_num, by rw [Hs.out]; first | rfl | (rw [hxe]; rfl), by rw [Ht.out, Nat.add_comm k 1]; exact hown', bGrow (hB.alloc hz _) hg (by simp; omega) hown1⟩
          case measure => simp [intOf]; omega
    · obtain rfl : k = n := by omega
      rw [hen.out]
      have HtA := Lib.hid (show l.take k = l from List.take_of_length_le (by rw [Hn.out]; omega))
      rw [HtA.out] at hown
      have hr6 := Rd.of_own hown
      have hAr := hA.below hB
      have HC := Lib.hid (fun W (h : Rd W A (ivs l)) => known_any A k c l Hn.out hl W h)
      have HC6 := Lib.hid (fun W (h : Rd W A6 (ivs l.reverse)) => known_any A6 k c6 l.reverse (by rw [List.length_reverse]; exact Hn.out) (by rw [List.length_reverse]; exact hl) W h)
      rw [hrv.out] at HC6
      have HK := Lib.hid (fun W (h : Rd W A (ivs l)) => check_any 2 ⟨0, 0, 0, 1, false⟩ A k c l Hn.out hl W h)
      rw [show checkS 2 ⟨0, 0, 0, 1, false⟩ l = if knownB l = true then 0 else 221 from rfl] at HK
      dsimp only [St.v] at HK
      have hkl : k = 0 → knownB l = false := fun h => by
        have := Hn.out
        rw [h] at this
        obtain rfl := List.eq_nil_of_length_eq_zero this
        rfl
      have Hkl := Lib.hid hkl
      have HS := Lib.hid (show knownB (l ++ [m]) = ((knownB l || decide (k = 0)) && (m == 2)) by rw [hns.out, Hn.out])
      clear h0 hkl hrv hen
      generalize knownB l = f at *
      have hown0 := World.ownsRow_lit (base := wr.heap.size) (e := 3) (size := 1) wr #[] 0 (Nat.le_refl _) (by simp [maxLen]) rfl
      have hAr' := hAr.below ((Below.refl wr.heap.size wr).alloc (Nat.le_refl _) (.cells #[] 3))
      have Hlen := Lib.hid (show (ivs l).length = k * 1 by rw [ivs_length, Hn.out]; omega)
      go_upto_region 11 with (first
        | (at_builtin; refine list_append_rd (news := ivs l) rfl (.tmp 38) (.tmp 39) rfl elemI rfl hown0 rfl Hlen.out hAr' (ivs_one _) (by unfold maxLen; omega) (by omega) (by simp) ?_; intro v3 w3 hown3 hg3 _; have hb3 := bGrow ((Below.refl _ _).alloc (Nat.le_refl _) _) hg3 (by simp) hown0; clear hg3)
        | (at_builtin; refine list_append_rd (news := ivs [m]) rfl (.tmp 40) (.tmp 42) rfl elemI rfl (hown3.alloc _) rfl rfl (Rd.new w3 [.int .i64 m] 3) (ivs_one _) (by unfold maxLen; omega) (by omega) (by have := hb3.size; simp; omega) ?_; intro v4 w4 hown4 hg4 _; have hb4 := bGrow (hb3.alloc hb3.size _) hg4 (by have := hb3.size; simp; omega) (hown3.alloc _); clear hg4))
      rw [List.nil_append, Nat.zero_add, show ivs l ++ ivs [m] = ivs (l ++ [m]) by simp [ivs]] at hown4
      obtain ⟨A8, c8, rfl, _⟩ := own_slice hown4
      have HC8 := Lib.hid (fun W (h : Rd W A8 (ivs (l ++ [m]))) => known_any A8 (k + 1) c8 (l ++ [m]) (by rw [List.length_append, Hn.out]; rfl) (by rw [List.length_append, Hn.out]; simp; omega) W h)
      rw [HS.out] at HC8
      have hr8 := Rd.of_own hown4
      have hz4 := hb4.size
      replace hr6 := hr6.below hb4
      replace hAr := hAr.below hb4
      replace hB := bTr hB hb4
      clear hown4 hown3 hb3 hb4 hown0 hAr' hown
      go_upto_region 12 with fail
      have h9 := Box5.new w4 ⟨0, 0, 0, 1, false⟩ 23
      have hW5 : Below w4.heap.size w4 (w4.alloc (.cells #[.int .i64 0, .int .i64 0, .int .i64 0, .int .i64 1, .bool false] 23)) := (Below.refl _ _).alloc (Nat.le_refl _) _
      replace hr6 := hr6.below hW5
      replace hr8 := hr8.below hW5
      replace hAr := hAr.below hW5
      replace hB := bTr hB hW5
      dsimp only at h9
      clear hW5 hz4
      generalize w4.alloc (.cells #[.int .i64 0, .int .i64 0, .int .i64 0, .int .i64 1, .bool false] 23) = w5 at *
      generalize w4.heap.size = g9 at *
      have fin : ∀ (f2 g k0 m2 : Bool), f2 = f → g = ((f || decide (k = 0)) && (m == 2)) → k0 = ((k : Int) == 0) → m2 = (m == 2) → Hid (((f2 || k0) && m2) = g) := fun f2 g k0 m2 h1 h2 h3 h4 => Lib.hid (by
        rw [h1, h2, h3, h4]
        congr 2
        by_cases hk0 : k = 0 <;> simp [hk0])
      obtain ⟨g, hg⟩ : ∃ g, g = ((f || decide (k = 0)) && (m == 2)) := ⟨_, rfl⟩
      obtain ⟨k0, hk0⟩ : ∃ k0, k0 = ((k : Int) == 0) := ⟨_, rfl⟩
      obtain ⟨m2, hm2⟩ : ∃ m2, m2 = (m == 2) := ⟨_, rfl⟩
      have Hfin := fin f g k0 m2 rfl hg hk0 hm2
      rw [← hg] at HC8
      clear fin
      have hk0' := hk0.symm
      have hm2' := hm2.symm
      clear hg hk0 hm2 HS hns
      cases f <;> cases k0 <;> cases m2
      all_goals
        have hgv := Hfin.out
        simp only [Bool.or_true, Bool.or_false, Bool.true_or, Bool.false_or, Bool.and_true, Bool.and_false, Bool.true_and, Bool.false_and] at hgv
        subst hgv
        go_wp2_with fail
        refine (HC.out w5 hAr).mono ?_
        rintro e x1 ⟨rfl, hX1⟩
        go_wp2_with fail
        refine (HC6.out x1 (hr6.below hX1)).mono ?_
        rintro e x2 ⟨rfl, hX2⟩
        replace hX2 := bTr hX1 hX2
        go_wp2_with fail
        refine (HC8.out x2 (hr8.below hX2)).mono ?_
        rintro e x3 ⟨rfl, hX3⟩
        replace hX3 := bTr hX2 hX3
        have h93 := h9.keep (keepT hX3) trivial
        obtain ⟨⟨c0, c1, c2, c3, c4⟩, _⟩ := h93
        dsimp only at c0 c1 c2 c3 c4
        go_wp2_with fail
        refine (HK.out x3 (hAr.below hX3)).mono ?_
        rintro e x4 ⟨rfl, hX4⟩
        replace hX4 := bTr hX3 hX4
        clear c0 c1 c2 c3 c4
        go_wp2_with fail
        refine (wakes_any x4).mono ?_
        rintro e x5 ⟨rfl, hX5⟩
        go_wp2
        go_returns
        exact ⟨rfl, bTr hB (bTr hX4 hX5)⟩
end Go.Proofs.Ytoehcmddfpompaa
