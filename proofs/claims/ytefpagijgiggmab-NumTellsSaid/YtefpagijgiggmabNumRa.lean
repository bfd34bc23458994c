/- The walks of the reference's numbers: Take, TakeLong, Takes. -/
import Derived.Test.YtefpagijgiggmabNumWk
namespace Go.Proofs.Ytefpagijgiggmab
open Go Go.RowKit Go.Shelf

theorem isR_n (A : Option Addr) (x : Int) (w : World) (hA : Rd w A (ivs [x])) : Calls Try.prog 17 #[.slice A 1 1] w fun e w' => e = .returned (.bool (isN [x])) ∧ w' = w :=
  isR_any A 1 1 [x] rfl (by simp) w hA
set_option maxRecDepth 4000 in
set_option maxHeartbeats 2000000 in
theorem takeR_any (A : Option Addr) (n0 c : Nat) (l : List UInt8) (hn0 : l.length = n0) (hl : n0 ≤ 1000000) (w : World) (hA : Rd w A (bvs l)) (hlc : n0 ≤ c) (hcm : c ≤ maxLen) :
    Calls Try.prog 18 #[.slice A n0 c] w fun e w' => ∃ v, e = .returned (.tuple #[.int .i64 (tkN l).1, v, .int .i64 (tkN l).2.2]) ∧
      w'.ownsRow w.heap.size 5 1 v (tkN l).2.1.length (bvs (tkN l).2.1) ∧ Below w.heap.size w w' := by
  have Hn0 := Lib.hid hn0
  by_cases h128 : l.head? = some 128
  · have HT := Lib.hid (show tkN l = (0, [], 11) from if_pos h128)
    obtain ⟨m, rfl⟩ : ∃ m, l = 128 :: m := by
      cases l with
      | nil => cases h128
      | cons a m => exact ⟨m, by simp at h128; rw [h128]⟩
    have hpos : 0 < n0 := by rw [← hn0]; simp
    clear h128
    obtain ⟨b, o, ch, rfl, hb, hc, hch, hlk⟩ := hA.byte (k := 0) (by simp)
    obtain rfl : 128 = ch := by simpa using hlk
    clear hlk hch hn0
    rw [Nat.add_zero] at hc
    have e128 : ((UInt8.toNat 128 : Nat) : Int) = 128 := rfl
    rw [e128] at hc
    clear e128
    go_enter Try.func18, Try.ntmps18
    go_wp2
    go_returns
    rw [HT.out]
    exact ⟨_, rfl, World.ownsRow_nil _ _ _ _, Below.refl _ _⟩
  · have HT := Lib.hid (show tkN l = tkGo 5 0 l from if_neg h128)
    have hfirst : l = [] ∨ ∃ (b o : Nat) (ch : UInt8), A = some ⟨b, o, none⟩ ∧ b < w.heap.size ∧ w.cell? ⟨b, o, none⟩ = some (.int .u8 ((UInt8.toNat ch : Nat) : Int)) ∧ (((UInt8.toNat ch : Nat) : Int) == 128) = false := by
      cases l with
      | nil => exact .inl rfl
      | cons c0 m =>
        obtain ⟨b, o, ch, rfl, hb, hc, hch, hlk⟩ := hA.byte (k := 0) (by simp)
        obtain rfl : c0 = ch := by simpa using hlk
        refine .inr ⟨b, o, c0, rfl, hb, by simpa using hc, ?_⟩
        simp only [beq_eq_false_iff_ne]
        intro e
        exact h128 (by have : c0 = 128 := UInt8.toNat_inj.1 (by simpa using (show c0.toNat = 128 by omega)); simp [this])
    clear h128
    have HR : Hid (∀ (w1 : World), True) := Lib.hid (fun _ => trivial)
    clear HR
    have hn1 : (n0 = 0 ∧ decide (0 < n0) = false) ∨ (0 < n0 ∧ decide (0 < n0) = true) := by
      rcases Nat.eq_zero_or_pos n0 with h | h
      · exact .inl ⟨h, by simp [h]⟩
      · exact .inr ⟨h, by simp [h]⟩
    have hcm2 := hcm
    unfold maxLen at hcm2
    clear hn0
    rcases hn1 with ⟨rfl, hd0⟩ | ⟨hpos, hd0⟩
    · clear hfirst
      have hl0 : l = [] := List.eq_nil_of_length_eq_zero Hn0.out
      have HZ := Lib.hid (show tkN l = (0, [], 10) by rw [hl0]; rfl)
      clear hl0
      go_enter Try.func18, Try.ntmps18
      go_wp2
      go_loop [5, 6] (fun n i => n = .int .i64 0 ∧ i = .int .i64 0) (fun _ _ => 0)
      case atStart => exact ⟨rfl, rfl⟩
      case round =>
        obtain ⟨rfl, rfl⟩ := hrel
        go_wp2
        go_returns
        rw [HZ.out]
        exact ⟨_, rfl, World.ownsRow_nil _ _ _ _, Below.refl _ _⟩
    · obtain ⟨b, o, ch, rfl, hb, hc, hne⟩ : ∃ (b o : Nat) (ch : UInt8), A = some ⟨b, o, none⟩ ∧ b < w.heap.size ∧ w.cell? ⟨b, o, none⟩ = some (.int .u8 ((UInt8.toNat ch : Nat) : Int)) ∧ (((UInt8.toNat ch : Nat) : Int) == 128) = false := by
        rcases hfirst with h | h
        · have := Hn0.out; rw [h] at this; simp at this; omega
        · exact h
      clear hfirst
      go_enter Try.func18, Try.ntmps18
      go_wp2
      clear hne hc
      go_loop [5, 6] (fun v5 v6 => ∃ (i n : Nat), i ≤ 5 ∧ i ≤ n0 ∧ v6 = .int .i64 i ∧ v5 = .int .i64 n ∧ n < 128 ^ i ∧ Hid (tkN l = tkGo (5 - i) n (l.drop i))) (fun _ v6 => 5 - (intOf v6).toNat)
      case atStart => exact ⟨0, 0, by omega, by omega, rfl, rfl, by simp, Lib.hid HT.out⟩
      case round =>
        obtain ⟨i, n, hi, hin, rfl, rfl, hn, hT⟩ := hrel
        by_cases hlt : i < n0 ∧ i < 5
        · obtain ⟨hlt, hi5⟩ := hlt
          obtain ⟨b', o', ch, he, hb', hc, hch, hlk⟩ := hA.byte (k := i) (by rw [Hn0.out]; exact hlt)
          simp only [Option.some.injEq, Addr.mk.injEq, and_true] at he
          obtain ⟨rfl, rfl⟩ := he
          clear hb'
          obtain ⟨k, hk⟩ : ∃ k, 5 - i = k + 1 := ⟨4 - i, by omega⟩
          have hik : 5 - (i + 1) = k := by omega
          have hdr : l.drop i = ch :: l.drop (i + 1) := by
            have hil : i < l.length := by rw [Hn0.out]; exact hlt
            rw [List.drop_eq_getElem_cons hil]
            congr 1
            rw [List.getElem?_eq_getElem hil] at hlk
            exact Option.some.inj hlk
          have hT1 := hT.out
          rw [hk, hdr] at hT1
          have hn4 : n < 4294967296 := Nat.lt_of_lt_of_le hn (Nat.le_trans (Nat.pow_le_pow_right (by omega) (show i ≤ 4 by omega)) (by decide))
          have hnz : n * 128 + ch.toNat % 128 < 128 ^ (i + 1) := by rw [Nat.pow_succ]; omega
          have Hnz := Lib.hid hnz
          have Hik := Lib.hid hik
          have t1 : (0 : Int) ≤ (i : Int) := by omega
          have t2 : (i : Int) < (n0 : Int) := by omega
          have t3 : (i : Int) < 5 := by omega
          clear hk hik hdr hlk hn hnz hT
          by_cases hm : 128 ≤ ch.toNat
          · rw [tkGo_more _ _ _ _ hm] at hT1
            have HT2 := Lib.hid hT1
            clear hT1
            have e1 : decide ((ch.toNat : Int) < 128) = false := by simp; omega
            go_wp2
            go_round
            case rel => exact ⟨i + 1, n * 128 + ch.toNat % 128, by omega, by omega, by go_num, by push_cast; rfl, Hnz.out, Lib.hid (by rw [HT2.out, Hik.out])⟩
            case measure => simp [intOf]; omega
          · have hlo : ch.toNat < 128 := by omega
            have e1 : decide ((ch.toNat : Int) < 128) = true := by simp; omega
            clear hm
            by_cases hbig : n * 128 + ch.toNat % 128 ≤ 1073741824
            · rw [tkGo_end _ _ _ _ hlo hbig] at hT1
              have HT2 := Lib.hid hT1
              clear hT1
              have HN := Lib.hid (show isN [(n : Int) * 128 + (ch.toNat : Int) % 128] = true by simp [isN, badN]; omega)
              have hrx : Rd (w.alloc (.cells #[.int .i64 ((n : Int) * 128 + (ch.toNat : Int) % 128)] 3)) (some ⟨w.heap.size, 0, none⟩) (ivs [(n : Int) * 128 + (ch.toNat : Int) % 128]) := Rd.new w _ _
              have hB1 : Below w.heap.size w (w.alloc (.cells #[.int .i64 ((n : Int) * 128 + (ch.toNat : Int) % 128)] 3)) := (Below.refl _ _).alloc (Nat.le_refl _) _
              have hown5 := World.ownsRow_lit (base := w.heap.size) (e := 5) (size := 1) (w.alloc (.cells #[.int .i64 ((n : Int) * 128 + (ch.toNat : Int) % 128)] 3)) #[] 0 hB1.size (by simp [maxLen]) rfl
              rw [World.size_alloc] at hown5
              have hsh := ((hA.cutF (k := i + 1) (c := c) (by rw [bvs_length, Hn0.out]; exact hlc)).below hB1).below ((Below.refl _ _).alloc (Nat.le_refl _) (.cells #[] 5))
              rw [← bvs_drop] at hsh
              simp only [Option.map_some] at hsh
              have hsl := cutB b o n0 c (i + 1) ((i : Int) + 1) (by omega) (by omega) hlc hcm
              obtain ⟨X, hX⟩ : ∃ X, (if c = i + 1 then some (⟨b, o, none⟩ : Addr) else some ⟨b, o + (i + 1), none⟩) = X := ⟨_, rfl⟩
              simp only [hX] at hsl hsh
              clear hX
              have Hl := Lib.hid (show (bvs (l.drop (i + 1))).length = (n0 - (i + 1)) * 1 by rw [bvs_length, List.length_drop, Hn0.out]; omega)
              have Hl2 := Lib.hid (show (l.drop (i + 1)).length = n0 - (i + 1) by rw [List.length_drop, Hn0.out])
              go_wp2_with (first | (go_at_call 17; refine (isR_n _ _ _ hrx).mono ?_; rintro e w1 ⟨rfl, rfl⟩; rw [HN.out]) | (at_builtin; refine list_append_rd (news := bvs (l.drop (i + 1))) rfl (.tmp 45) (.tmp 49) rfl elemB rfl hown5 rfl Hl.out hsh (bvs_one _) (by unfold maxLen; omega) (by omega) (by simp <;> omega) ?_; intro v' w' hown' hg hloc))
              go_returns
              rw [HT2.out]
              refine ⟨_, by push_cast; rfl, ?_, bGrow (hB1.alloc hB1.size _) hg (by simp <;> omega) hown5⟩
              dsimp only
              rw [Hl2.out]
              simpa using hown'
            · rw [tkGo_big _ _ _ _ hlo (by omega)] at hT1
              have HT2 := Lib.hid hT1
              clear hT1
              have HN := Lib.hid (show isN [(n : Int) * 128 + (ch.toNat : Int) % 128] = false by simp [isN, badN]; omega)
              have hrx : Rd (w.alloc (.cells #[.int .i64 ((n : Int) * 128 + (ch.toNat : Int) % 128)] 3)) (some ⟨w.heap.size, 0, none⟩) (ivs [(n : Int) * 128 + (ch.toNat : Int) % 128]) := Rd.new w _ _
              go_wp2_with (go_at_call 17; refine (isR_n _ _ _ hrx).mono ?_; rintro e w1 ⟨rfl, rfl⟩; rw [HN.out])
              go_returns
              rw [HT2.out]
              exact ⟨_, rfl, World.ownsRow_nil _ _ _ _, (Below.refl _ _).alloc (Nat.le_refl _) _⟩
        · by_cases h5 : n0 < 5
          · have hin2 : i = n0 := by omega
            have HZ := Lib.hid (show tkN l = (0, [], 10) by
              rw [hT.out, List.drop_eq_nil_of_le (by rw [Hn0.out]; omega)]
              obtain ⟨k, hk⟩ : ∃ k, 5 - i = k + 1 := ⟨4 - i, by omega⟩
              rw [hk]; rfl)
            subst hin2
            clear hT hn
            go_wp2
            go_returns
            rw [HZ.out]
            exact ⟨_, rfl, World.ownsRow_nil _ _ _ _, Below.refl _ _⟩
          · have hi5 : i = 5 := by omega
            subst hi5
            have HZ := Lib.hid (show tkN l = (0, [], 11) by rw [hT.out]; rfl)
            clear hT hn
            have t1 : (5 : Int) ≤ (n0 : Int) := by omega
            go_wp2
            all_goals
              go_returns
              rw [HZ.out]
              exact ⟨_, rfl, World.ownsRow_nil _ _ _ _, Below.refl _ _⟩
end Go.Proofs.Ytefpagijgiggmab
