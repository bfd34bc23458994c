/- The walks of numbers: Take. -/
import Derived.Test.YtefpagijgiggmabNumWg
import Derived.Test.YtefpagijgiggmabNumTk
namespace Go.Proofs.Ytefpagijgiggmab
open Go Go.RowKit Go.Shelf
attribute [local go_sem] Oper.semAt_some

theorem u8and127 (y : Nat) (h : y < 256) : bits BinOp.and IntKind.u8 (y : Int) 127 = ((y % 128 : Nat) : Int) :=
  (show ∀ y : Nat, y < 256 → bits BinOp.and IntKind.u8 (y : Int) 127 = ((y % 128 : Nat) : Int) by decide +kernel) y h

theorem cutB (b o n c k : Nat) (j : Int) (hj : j = k) (h : k ≤ n) (h2 : n ≤ c) (h3 : c ≤ maxLen) (W : World) : (Instr.sliceAt 23 (.slice (some ⟨b, o, none⟩) n c) (some (.int .i64 j)) none none).run Try.prog W = .ok (.slice (if c = k then some ⟨b, o, none⟩ else some ⟨b, o + k, none⟩) (n - k) (c - k)) W := by
  subst hj
  unfold maxLen at h3
  have h1 : (k : Int) ≤ n := by omega
  have h2 : (n : Int) ≤ c := by omega
  by_cases hc : c = k
  · subst hc
    go_simp
  · go_simp
set_option maxRecDepth 4000 in
set_option maxHeartbeats 2000000 in
theorem take_any (A : Option Addr) (c : Nat) (l : List UInt8) (hl : l.length ≤ 1000000) (w : World) (hA : Rd w A (bvs l)) (hlc : l.length ≤ c) (hcm : c ≤ maxLen) :
    Calls Try.prog 13 #[.slice A l.length c] w fun e w' => ∃ v, e = .returned (.tuple #[.int .i64 (tkN l).1, v, .int .i64 (tkN l).2.2]) ∧
      w'.ownsRow w.heap.size 5 1 v (tkN l).2.1.length (bvs (tkN l).2.1) ∧ Below w.heap.size w w' := by
  by_cases h128 : l.head? = some 128
  · have HT := Lib.hid (show tkN l = (0, [], 11) from if_pos h128)
    obtain ⟨m, rfl⟩ : ∃ m, l = 128 :: m := by
      cases l with
      | nil => cases h128
      | cons a m => exact ⟨m, by simp at h128; rw [h128]⟩
    clear h128
    obtain ⟨b, o, ch, rfl, hb, hc, hch, hlk⟩ := hA.byte (k := 0) (by simp)
    obtain rfl : 128 = ch := by simpa using hlk
    clear hlk hch
    rw [Nat.add_zero] at hc
    have e128 : ((UInt8.toNat 128 : Nat) : Int) = 128 := rfl
    rw [e128] at hc
    clear e128
    refine (callsIn_wide (n := 9)).1 (callsIn_of_wp Try.func13 rfl trivial ?_ rfl)
    simp only [Try.ntmps13, List.size_toArray, List.length_cons, List.length_nil, Nat.reduceAdd, Nat.reduceSub, Array.replicate_succ, Array.replicate_zero, List.push_toArray, List.append_toArray, List.nil_append, List.cons_append]
    gi_wp2_with fail
    refine scope_goto 0 (fun _ _ => False) (fun _ _ => 0) rfl (fun _ _ h => h.elim) ?_
    intro _
    gi_wp2
    simp only [Exit.jump]
    gi_wp2
    go_returns
    rw [HT.out]
    exact ⟨_, rfl, World.ownsRow_nil _ _ _ _, Below.refl _ _⟩
  · have HT := Lib.hid (show tkN l = tkGo 5 0 l from if_neg h128)
    refine (callsIn_wide (n := 9)).1 (callsIn_of_wp Try.func13 rfl trivial ?_ rfl)
    simp only [Try.ntmps13, List.size_toArray, List.length_cons, List.length_nil, Nat.reduceAdd, Nat.reduceSub, Array.replicate_succ, Array.replicate_zero, List.push_toArray, List.append_toArray, List.nil_append, List.cons_append]
    gi_wp2_with fail
    refine scope_goto 0 (fun a w' => ∃ (i n : Nat), i ≤ 5 ∧ i ≤ l.length ∧ (∃ u6 u7 u8 u9 u10 u11 u12 u13 u14 u15 u16 u17 u18 u19 u20 u21 u22 u23 u24 u25 u26 u27 u28 u29 u30 u31 u32 u33 u34 u35 u36 u37 u38 u39 u40 u41 u42 u43 u44 u45 u46 u47 u48 : Value, a = ⟨#[.slice A l.length c, undef, .int .i64 (n : Int), .slice none 0 0, .int .i64 0, .int .i64 (i : Int), u6, u7, u8, u9, u10, u11, u12, u13, u14, u15, u16, u17, u18, u19, u20, u21, u22, u23, u24, u25, u26, u27, u28, u29, u30, u31, u32, u33, u34, u35, u36, u37, u38, u39, u40, u41, u42, u43, u44, u45, u46, u47, u48], []⟩) ∧ n < 128 ^ i ∧ tkN l = tkGo (5 - i) n (l.drop i) ∧ w' = w) (fun a _ => 5 - (intOf (a.tmps.getD 5 undef)).toNat) rfl ?pass ?first
    case first =>
      intro hX
      have HX := Lib.hid hX
      clear hX
      rcases l with _ | ⟨c0, m⟩
      · gi_wp2
        refine wpIn_label ?_
        rename_i hgo
        refine hgo _ _ ?_
        exact HX.out _ _ ⟨0, 0, by omega, by simp, ⟨_, _, _, _, _, _, _, _, _, _, _, _, _, _, _, _, _, _, _, _, _, _, _, _, _, _, _, _, _, _, _, _, _, _, _, _, _, _, _, _, _, _, _, rfl⟩, by simp, HT.out, rfl⟩
      · have h0 : c0.toNat ≠ 128 := fun e => h128 (by
          have : c0 = 128 := UInt8.toNat_inj.1 e
          simp [this])
        have hne : ((c0.toNat : Int) == 128) = false := by simp only [beq_eq_false_iff_ne]; omega
        obtain ⟨b, o, ch, rfl, hb, hc, hch, hlk⟩ := hA.byte (k := 0) (by simp)
        obtain rfl : c0 = ch := by simpa using hlk
        clear hlk h0
        rw [Nat.add_zero] at hc
        gi_wp2
        refine wpIn_label ?_
        rename_i hgo
        refine hgo _ _ ?_
        exact HX.out _ _ ⟨0, 0, by omega, by simp, ⟨_, _, _, _, _, _, _, _, _, _, _, _, _, _, _, _, _, _, _, _, _, _, _, _, _, _, _, _, _, _, _, _, _, _, _, _, _, _, _, _, _, _, _, rfl⟩, by simp, HT.out, rfl⟩
    case pass =>
      rintro a w' ⟨i, n, hi, hil, ⟨u6, u7, u8, u9, u10, u11, u12, u13, u14, u15, u16, u17, u18, u19, u20, u21, u22, u23, u24, u25, u26, u27, u28, u29, u30, u31, u32, u33, u34, u35, u36, u37, u38, u39, u40, u41, u42, u43, u44, u45, u46, u47, u48, rfl⟩, hn, hT, rfl⟩
      by_cases h5 : i = 5
      · subst h5
        have HZ := Lib.hid (show tkN l = (0, [], 11) from by rw [hT]; rfl)
        clear hT
        gi_wp2
        simp only [Exit.jump]
        gi_wp2
        go_returns
        rw [HZ.out]
        exact ⟨_, rfl, World.ownsRow_nil _ _ _ _, Below.refl _ _⟩
      · obtain ⟨k, hk⟩ : ∃ k, 5 - i = k + 1 := ⟨4 - i, by omega⟩
        rw [hk] at hT
        have hik : 5 - (i + 1) = k := by omega
        have Hik := Lib.hid hik
        clear hk hik
        by_cases hlen : i = l.length
        · have HZ := Lib.hid (show tkN l = (0, [], 10) from by rw [hT, List.drop_eq_nil_of_le (by omega)]; rfl)
          clear hT
          have hi5 : ((i : Int) == 5) = false := by simp only [beq_eq_false_iff_ne]; omega
          subst hlen
          gi_wp2
          simp only [Exit.jump]
          gi_wp2
          go_returns
          rw [HZ.out]
          exact ⟨_, rfl, World.ownsRow_nil _ _ _ _, Below.refl _ _⟩
        · have HA0 := Lib.hid hA
          obtain ⟨b, o, ch, rfl, hb, hc, hch, hlk⟩ := hA.byte (k := i) (by omega)
          have hdr : l.drop i = ch :: l.drop (i + 1) := by
            rw [List.drop_eq_getElem_cons (by omega)]
            congr 1
            rw [List.getElem?_eq_getElem (by omega)] at hlk
            exact Option.some.inj hlk
          rw [hdr] at hT
          have hi5 : ((i : Int) == 5) = false := by simp only [beq_eq_false_iff_ne]; omega
          have hil2 : ((i : Int) == (l.length : Int)) = false := by simp only [beq_eq_false_iff_ne]; omega
          have hn4 : n < 4294967296 := Nat.lt_of_lt_of_le hn (Nat.le_trans (Nat.pow_le_pow_right (by omega) (show i ≤ 4 by omega)) (by decide))
          have hnz : n * 128 + ch.toNat % 128 < 128 ^ (i + 1) := by rw [Nat.pow_succ]; omega
          have e7 := u8and127 ch.toNat hch
          have eO := or_low7 n (ch.toNat % 128) hn4 (Nat.mod_lt _ (by omega))
          have hy128 : ch.toNat % 128 < 128 := Nat.mod_lt _ (by omega)
          clear hlk hdr hn
          obtain ⟨y, hy⟩ : ∃ y, y = ch.toNat % 128 := ⟨_, rfl⟩
          have Hy := Lib.hid hy
          rw [← hy] at e7 eO hy128 hnz
          clear hy
          by_cases hm : 128 ≤ ch.toNat
          · rw [tkGo_more _ _ _ _ hm] at hT
            rw [← Hy.out] at hT
            have HT2 := Lib.hid hT
            have hnz2 := Lib.hid hnz
            clear hT hnz
            gi_wp2
            refine wpIn_goto ?_
            gi_wp2
            have hil3 : i < l.length := by omega
            refine ⟨rfl, ⟨i + 1, by omega, by omega, n * 128 + y, ⟨_, _, _, _, _, _, _, _, _, _, _, _, _, _, _, _, _, _, _, _, _, _, _, _, _, _, _, _, _, _, _, _, _, _, _, _, _, _, _, _, _, _, _, rfl⟩, hnz2.out, by rw [HT2.out, Hik.out], rfl⟩, by simp [intOf]; omega⟩
          · have hlo : ch.toNat < 128 := by omega
            have hsh := (HA0.out).cutF (k := i + 1) (c := c) (by rw [bvs_length]; exact hlc)
            rw [← bvs_drop] at hsh
            have hrx : Rd (w'.alloc (.cells #[.int .i64 ((n : Int) * 128 + (y : Int))] 3)) (some ⟨w'.heap.size, 0, none⟩) (ivs [(n : Int) * 128 + (y : Int)]) := Rd.new w' _ _
            have hB1 : Below w'.heap.size w' (w'.alloc (.cells #[.int .i64 ((n : Int) * 128 + (y : Int))] 3)) := (Below.refl _ _).alloc (Nat.le_refl _) _
            have hcl := clone_any _ (c - (i + 1)) (l.drop (i + 1)) (by rw [List.length_drop]; omega) _ (hsh.below hB1)
            rw [List.length_drop] at hcl
            simp only [Option.map_some] at hcl
            have hsl := cutB b o l.length c (i + 1) ((i : Int) + 1) (by omega) (by omega) hlc hcm
            obtain ⟨X, hX⟩ : ∃ X, (if c = i + 1 then some (⟨b, o, none⟩ : Addr) else some ⟨b, o + (i + 1), none⟩) = X := ⟨_, rfl⟩
            simp only [hX] at hsl hcl
            clear hX
            have Hl := Lib.hid (show (l.drop (i + 1)).length = l.length - (i + 1) from List.length_drop)
            have Hcl := Lib.hid hcl
            clear hsh hcl
            have hil3 : i < l.length := by omega
            by_cases hbig : n * 128 + y ≤ 1073741824
            · rw [tkGo_end _ _ _ _ hlo (by rw [← Hy.out]; exact hbig), ← Hy.out] at hT
              have HT2 := Lib.hid hT
              have HN := Lib.hid (show isN [(n : Int) * 128 + (y : Int)] = true by simp [isN, badN]; omega)
              clear hT hnz hm
              gi_wp2_with fail
              refine ⟨trivial, ?_⟩
              refine (callsIn_wide.2 (is_any _ 1 1 [(n : Int) * 128 + (y : Int)] rfl (by simp) _ hrx)).mono ?_
              rintro e w1 ⟨rfl, rfl⟩
              rw [HN.out]
              gi_wp2_with fail
              refine ⟨trivial, ?_⟩
              refine (callsIn_wide.2 Hcl.out).mono ?_
              rintro e w2 ⟨v2, rfl, hown2, hB2⟩
              gi_wp2
              simp only [Exit.jump]
              gi_wp2
              go_returns
              rw [HT2.out]
              refine ⟨_, rfl, ?_, hB1.trans (hB2.mono hB1.size)⟩
              dsimp only
              rw [Hl.out]
              exact own_base hown2 hB1.size
            · rw [tkGo_big _ _ _ _ hlo (by rw [← Hy.out]; omega)] at hT
              have HT2 := Lib.hid hT
              have HN := Lib.hid (show isN [(n : Int) * 128 + (y : Int)] = false by simp [isN, badN]; omega)
              clear hT hnz hm
              gi_wp2_with fail
              refine ⟨trivial, ?_⟩
              refine (callsIn_wide.2 (is_any _ 1 1 [(n : Int) * 128 + (y : Int)] rfl (by simp) _ hrx)).mono ?_
              rintro e w1 ⟨rfl, rfl⟩
              rw [HN.out]
              gi_wp2
              simp only [Exit.jump]
              gi_wp2
              go_returns
              rw [HT2.out]
              exact ⟨_, rfl, World.ownsRow_nil _ _ _ _, hB1⟩
end Go.Proofs.Ytefpagijgiggmab
