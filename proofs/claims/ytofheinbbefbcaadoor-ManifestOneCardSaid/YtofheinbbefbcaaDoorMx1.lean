/- Texts of one claim put together: what its walks share. -/
import Derived.Test.YtofheinbbefbcaaDoorMx0
import Derived.Test.YtofheinbbefbcaaDoorRows
import Derived.Test.YtofheinbbefbcaaDoorTie
import Derived.Lib.SliceRun
import Derived.MapKept
import Derived.Laws.IdiomCopy
import Derived.Laws.BitsAllLaws
/- The walks of numbers: the iterator over digits. (Printed by gen_digs.py.) -/
namespace Go.Proofs.YtofheinbbefbcaaDoor
open Go Go.RowKit Go.Shelf
set_option maxRecDepth 100000
attribute [local go_sem] Oper.semAt_some

theorem low_and (x : Int) (h0 : 0 ≤ x) (h1 : x < 1099511627776) (p : Nat) (hp : p ≤ 8) : bits BinOp.and IntKind.i64 x (2 ^ p - 1) = x % 2 ^ p :=
  bits_mask .i64 63 (by decide) (fun n h0 h1 => by rw [IntKind.wrap_i64]; omega) p (by omega) x h0 (by omega)
theorem low_and7 (x : Int) (h0 : 0 ≤ x) (h1 : x < 1099511627776) : bits BinOp.and IntKind.i64 x 127 = x % 128 := low_and x h0 h1 7 (by decide)
set_option maxHeartbeats 8000000 in
theorem short1_iter (n M : Nat) (hn : n ≤ 1073741824) (w : World) (hM4 : w.heap.size = M + 4)
    (h0 : Box w M (.int .i64 n)) (h1 : Box w (M + 1) (.int .i64 7)) (h2 : Box w (M + 2) (.int .i64 5)) (h3 : Box w (M + 3) (.bool true)) :
    Iter Tryd.prog 100 #[.pointer (some ⟨M + 2, 0, none⟩), .pointer (some ⟨M, 0, none⟩), .pointer (some ⟨M + 1, 0, none⟩), .pointer (some ⟨M + 3, 0, none⟩)] (fun d : Nat => #[.int .u8 d]) (digs 128 (topK n) n) 0 M w := by
  obtain ⟨K, hK0⟩ : ∃ K, K = topK n := ⟨_, rfl⟩
  have hKb : K ≤ 4 := by rw [hK0]; exact topK_le n
  have hlow : n < 128 ^ (K + 1) := by rw [hK0]; exact topK_lt n hn
  have hhigh : 0 < K → 128 ^ K ≤ n := by rw [hK0]; exact topK_ge n
  rw [← hK0]
  clear hK0
  intro lr J Jx W hB hJ hJx hY hJ0
  have HY := Lib.hid hY
  have HJ := Lib.hid hJ
  have HJx := Lib.hid hJx
  clear hY hJ hJx
  refine callsIn_of_wp Tryd.func100 rfl trivial ?_ rfl
  simp only [Tryd.ntmps100, List.size_toArray, List.length_cons, List.length_nil, Nat.reduceAdd, Nat.reduceSub, Array.replicate_succ, Array.replicate_zero, List.push_toArray, List.append_toArray, List.nil_append, List.cons_append]
  refine scope_goto 0 (fun a w' => ∃ (k : Nat) (fl : Bool), k ≤ 4 ∧ (∃ u7 u8 u9 u10 u11 u12 u13 u14 u15 u16 u17 u18 u19 u20 u21 u22 u23 u24 u25 u26 u27 u28 u29 u30 u31 u32 u33 u34 u35 u36 u37 u38 u39 u40 : Value, a = ⟨#[.func (.yield lr) #[] #[], .pointer (some ⟨M + 2, 0, none⟩), .pointer (some ⟨M, 0, none⟩), .pointer (some ⟨M + 1, 0, none⟩), .pointer (some ⟨M + 3, 0, none⟩), undef, .int .i64 (k : Int), u7, u8, u9, u10, u11, u12, u13, u14, u15, u16, u17, u18, u19, u20, u21, u22, u23, u24, u25, u26, u27, u28, u29, u30, u31, u32, u33, u34, u35, u36, u37, u38, u39, u40], []⟩) ∧ ((fl = true ∧ K ≤ k ∧ J 0 w') ∨ (fl = false ∧ k < K ∧ J (K - k) w')) ∧ Box w' (M + 3) (.bool fl) ∧ KeepB (fun b => M ≤ b ∧ b < M + 3) w w') (fun a _ => (intOf (a.tmps.getD 6 undef)).toNat) rfl ?pass ?first
  case first =>
    intro hX
    have HX := Lib.hid hX
    clear hX
    obtain ⟨c2, f2⟩ := h2.below hB (by omega)
    gi_wp2
    refine wpIn_label ?_
    rename_i hgo
    refine hgo _ _ ?_
    exact HX.out _ _ ⟨4, true, by omega, ⟨_, _, _, _, _, _, _, _, _, _, _, _, _, _, _, _, _, _, _, _, _, _, _, _, _, _, _, _, _, _, _, _, _, _, rfl⟩, .inl ⟨rfl, hKb, hJ0⟩, h3.below hB (by omega), KeepB.of_below hB (fun _ _ h => by omega)⟩
  case pass =>
    rintro a w' ⟨k, fl, hk, ⟨u7, u8, u9, u10, u11, u12, u13, u14, u15, u16, u17, u18, u19, u20, u21, u22, u23, u24, u25, u26, u27, u28, u29, u30, u31, u32, u33, u34, u35, u36, u37, u38, u39, u40, rfl⟩, hJk, hF, hK⟩
    obtain ⟨cF, fF⟩ := hF
    obtain ⟨c0, f0⟩ := h0.keep hK (by omega)
    obtain ⟨c1, f1⟩ := h1.keep hK (by omega)
    have hKF : KeepB (fun b => b ≠ M + 3) w' (w'.setCell ⟨M + 3, 0, none⟩ (.bool false)) := (KeepB.refl _ _).setCell (by simp) _
    have hFB : Box (w'.setCell ⟨M + 3, 0, none⟩ (.bool false)) (M + 3) (.bool false) := Box.set ⟨cF, fF⟩ _
    have hFz := hKF.size
    have hwz := hK.size
    have hk5 : k = 4 ∨ k = 3 ∨ k = 2 ∨ k = 1 ∨ k = 0 := by omega
    have hcase : (fl = true ∧ K < k ∧ J 0 w') ∨ (k ≤ K ∧ J (K - k) w' ∧ (fl = true → k = K)) := by
      rcases hJk with ⟨h, h2, h3⟩ | ⟨h, h2, h3⟩
      · rcases Nat.lt_or_ge K k with h4 | h4
        · exact .inl ⟨h, h4, h3⟩
        · obtain rfl : K = k := by omega
          exact .inr ⟨h4, by rw [Nat.sub_self]; exact h3, fun _ => rfl⟩
      · exact .inr ⟨by omega, h3, fun e => by rw [h] at e; cases e⟩
    clear hJk
    rcases hcase with ⟨rfl, hKk, hJk⟩ | ⟨hkK, hJk, hflk⟩
    · have hz : n < 128 ^ k := Nat.lt_of_lt_of_le hlow (Nat.pow_le_pow_right (by omega) hKk)
      have HJk := Lib.hid hJk
      clear hJk hFB hhigh hlow
      rcases hk5 with rfl | rfl | rfl | rfl | rfl
      · simp only [Nat.reducePow] at hz
        gi_wp2
        refine wpIn_goto ?_
        exact ⟨rfl, ⟨3, true, by omega, ⟨_, _, _, _, _, _, _, _, _, _, _, _, _, _, _, _, _, _, _, _, _, _, _, _, _, _, _, _, _, _, _, _, _, _, rfl⟩, .inl ⟨rfl, by omega, HJk.out⟩, ⟨cF, fF⟩, hK⟩, by simp [intOf]⟩
      · simp only [Nat.reducePow] at hz
        gi_wp2
        refine wpIn_goto ?_
        exact ⟨rfl, ⟨2, true, by omega, ⟨_, _, _, _, _, _, _, _, _, _, _, _, _, _, _, _, _, _, _, _, _, _, _, _, _, _, _, _, _, _, _, _, _, _, rfl⟩, .inl ⟨rfl, by omega, HJk.out⟩, ⟨cF, fF⟩, hK⟩, by simp [intOf]⟩
      · simp only [Nat.reducePow] at hz
        gi_wp2
        refine wpIn_goto ?_
        exact ⟨rfl, ⟨1, true, by omega, ⟨_, _, _, _, _, _, _, _, _, _, _, _, _, _, _, _, _, _, _, _, _, _, _, _, _, _, _, _, _, _, _, _, _, _, rfl⟩, .inl ⟨rfl, by omega, HJk.out⟩, ⟨cF, fF⟩, hK⟩, by simp [intOf]⟩
      · simp only [Nat.reducePow] at hz
        gi_wp2
        refine wpIn_goto ?_
        exact ⟨rfl, ⟨0, true, by omega, ⟨_, _, _, _, _, _, _, _, _, _, _, _, _, _, _, _, _, _, _, _, _, _, _, _, _, _, _, _, _, _, _, _, _, _, rfl⟩, .inl ⟨rfl, by omega, HJk.out⟩, ⟨cF, fF⟩, hK⟩, by simp [intOf]⟩
      · omega
    · have hdg := digs_at 128 K n (K - k) (by omega)
      have hJ2 := HJ.out _ _ _ hJk (hKF.sub (fun b _ h => by omega))
      rw [show K - (K - k) = k from by omega] at hdg
      have hskip : ((((n / 128 ^ k : Nat) : Int) == 0) && fl && decide ((k : Int) > 0)) = false := by
        cases hfl : fl with
        | false => simp
        | true =>
          obtain rfl := hflk hfl
          rcases Nat.eq_zero_or_pos k with h0 | h0
          · subst h0; simp
          · have h5 := Nat.div_pos (hhigh h0) (Nat.pow_pos (n := k) (show 0 < 128 by omega))
            have h6 : (((n / 128 ^ k : Nat) : Int) == 0) = false := by simp only [beq_eq_false_iff_ne]; omega
            rw [h6]; rfl
      clear hflk hhigh hlow hJk
      rcases hk5 with rfl | rfl | rfl | rfl | rfl
      · rcases Int.lt_or_le 0 ((n : Int) / 268435456) with hd | hd
        · have hd2 : ((n : Int) / 268435456 == 0) = false := by simp only [beq_eq_false_iff_ne]; omega
          clear hskip
          have eD : ((n / 128 ^ (4) % 128 : Nat) : Int) = (n : Int) / 268435456 % 128 := by simp only [Nat.reducePow, Nat.reduceSub]; omega
          obtain ⟨fn, tmps, assign, body, hy, hR⟩ := HY.out _ _ _ hdg hJ2 (Nat.le_trans hK.size hKF.size)
          dsimp only at hy
          rw [eD] at hy
          have eL := low_and7 ((n : Int) / 268435456) (by omega) (by omega)
          clear eD hdg
          gi_wp2
          refine hR.mono ?_
          rintro e W3 (⟨rfl, hJ3, hk3⟩ | ⟨rfl, hJx3, hk3⟩)
          · gi_wp2
            refine wpIn_goto ?_
            refine ⟨rfl, ⟨3, false, by omega, ⟨_, _, _, _, _, _, _, _, _, _, _, _, _, _, _, _, _, _, _, _, _, _, _, _, _, _, _, _, _, _, _, _, _, _, rfl⟩, .inr ⟨rfl, by omega, by rw [show K - 3 = K - 4 + 1 from by omega]; exact hJ3⟩, hFB.keep hk3 (by omega), (hK.trans (hKF.sub (fun b _ h => by omega))).trans (hk3.sub (fun b _ h => by omega))⟩, by simp [intOf]⟩
          · gi_wp2
            simp only [Exit.jump]
            refine bodyPost_ret (results_none rfl _ _ _) rfl ⟨⟨_, rfl⟩, .inr hJx3⟩
        · have hd2 : (n : Int) / 268435456 = 0 := by omega
          have hfl : fl = false := by
            simp only [Nat.reducePow] at hskip
            have h6 : ((n / 268435456 : Nat) : Int) = 0 := by omega
            rw [h6] at hskip
            simpa using hskip
          subst hfl
          clear hskip hd
          have eD : ((n / 128 ^ (4) % 128 : Nat) : Int) = 0 := by simp only [Nat.reducePow, Nat.reduceSub]; omega
          obtain ⟨fn, tmps, assign, body, hy, hR⟩ := HY.out _ _ _ hdg hJ2 (Nat.le_trans hK.size hKF.size)
          dsimp only at hy
          rw [eD] at hy
          have eL := low_and7 0 (by omega) (by omega)
          clear eD hdg
          gi_wp2
          refine hR.mono ?_
          rintro e W3 (⟨rfl, hJ3, hk3⟩ | ⟨rfl, hJx3, hk3⟩)
          · gi_wp2
            refine wpIn_goto ?_
            refine ⟨rfl, ⟨3, false, by omega, ⟨_, _, _, _, _, _, _, _, _, _, _, _, _, _, _, _, _, _, _, _, _, _, _, _, _, _, _, _, _, _, _, _, _, _, rfl⟩, .inr ⟨rfl, by omega, by rw [show K - 3 = K - 4 + 1 from by omega]; exact hJ3⟩, hFB.keep hk3 (by omega), (hK.trans (hKF.sub (fun b _ h => by omega))).trans (hk3.sub (fun b _ h => by omega))⟩, by simp [intOf]⟩
          · gi_wp2
            simp only [Exit.jump]
            refine bodyPost_ret (results_none rfl _ _ _) rfl ⟨⟨_, rfl⟩, .inr hJx3⟩
      · rcases Int.lt_or_le 0 ((n : Int) / 2097152) with hd | hd
        · have hd2 : ((n : Int) / 2097152 == 0) = false := by simp only [beq_eq_false_iff_ne]; omega
          clear hskip
          have eD : ((n / 128 ^ (3) % 128 : Nat) : Int) = (n : Int) / 2097152 % 128 := by simp only [Nat.reducePow, Nat.reduceSub]; omega
          obtain ⟨fn, tmps, assign, body, hy, hR⟩ := HY.out _ _ _ hdg hJ2 (Nat.le_trans hK.size hKF.size)
          dsimp only at hy
          rw [eD] at hy
          have eL := low_and7 ((n : Int) / 2097152) (by omega) (by omega)
          clear eD hdg
          gi_wp2
          refine hR.mono ?_
          rintro e W3 (⟨rfl, hJ3, hk3⟩ | ⟨rfl, hJx3, hk3⟩)
          · gi_wp2
            refine wpIn_goto ?_
            refine ⟨rfl, ⟨2, false, by omega, ⟨_, _, _, _, _, _, _, _, _, _, _, _, _, _, _, _, _, _, _, _, _, _, _, _, _, _, _, _, _, _, _, _, _, _, rfl⟩, .inr ⟨rfl, by omega, by rw [show K - 2 = K - 3 + 1 from by omega]; exact hJ3⟩, hFB.keep hk3 (by omega), (hK.trans (hKF.sub (fun b _ h => by omega))).trans (hk3.sub (fun b _ h => by omega))⟩, by simp [intOf]⟩
          · gi_wp2
            simp only [Exit.jump]
            refine bodyPost_ret (results_none rfl _ _ _) rfl ⟨⟨_, rfl⟩, .inr hJx3⟩
        · have hd2 : (n : Int) / 2097152 = 0 := by omega
          have hfl : fl = false := by
            simp only [Nat.reducePow] at hskip
            have h6 : ((n / 2097152 : Nat) : Int) = 0 := by omega
            rw [h6] at hskip
            simpa using hskip
          subst hfl
          clear hskip hd
          have eD : ((n / 128 ^ (3) % 128 : Nat) : Int) = 0 := by simp only [Nat.reducePow, Nat.reduceSub]; omega
          obtain ⟨fn, tmps, assign, body, hy, hR⟩ := HY.out _ _ _ hdg hJ2 (Nat.le_trans hK.size hKF.size)
          dsimp only at hy
          rw [eD] at hy
          have eL := low_and7 0 (by omega) (by omega)
          clear eD hdg
          gi_wp2
          refine hR.mono ?_
          rintro e W3 (⟨rfl, hJ3, hk3⟩ | ⟨rfl, hJx3, hk3⟩)
          · gi_wp2
            refine wpIn_goto ?_
            refine ⟨rfl, ⟨2, false, by omega, ⟨_, _, _, _, _, _, _, _, _, _, _, _, _, _, _, _, _, _, _, _, _, _, _, _, _, _, _, _, _, _, _, _, _, _, rfl⟩, .inr ⟨rfl, by omega, by rw [show K - 2 = K - 3 + 1 from by omega]; exact hJ3⟩, hFB.keep hk3 (by omega), (hK.trans (hKF.sub (fun b _ h => by omega))).trans (hk3.sub (fun b _ h => by omega))⟩, by simp [intOf]⟩
          · gi_wp2
            simp only [Exit.jump]
            refine bodyPost_ret (results_none rfl _ _ _) rfl ⟨⟨_, rfl⟩, .inr hJx3⟩
      · rcases Int.lt_or_le 0 ((n : Int) / 16384) with hd | hd
        · have hd2 : ((n : Int) / 16384 == 0) = false := by simp only [beq_eq_false_iff_ne]; omega
          clear hskip
          have eD : ((n / 128 ^ (2) % 128 : Nat) : Int) = (n : Int) / 16384 % 128 := by simp only [Nat.reducePow, Nat.reduceSub]; omega
          obtain ⟨fn, tmps, assign, body, hy, hR⟩ := HY.out _ _ _ hdg hJ2 (Nat.le_trans hK.size hKF.size)
          dsimp only at hy
          rw [eD] at hy
          have eL := low_and7 ((n : Int) / 16384) (by omega) (by omega)
          clear eD hdg
          gi_wp2
          refine hR.mono ?_
          rintro e W3 (⟨rfl, hJ3, hk3⟩ | ⟨rfl, hJx3, hk3⟩)
          · gi_wp2
            refine wpIn_goto ?_
            refine ⟨rfl, ⟨1, false, by omega, ⟨_, _, _, _, _, _, _, _, _, _, _, _, _, _, _, _, _, _, _, _, _, _, _, _, _, _, _, _, _, _, _, _, _, _, rfl⟩, .inr ⟨rfl, by omega, by rw [show K - 1 = K - 2 + 1 from by omega]; exact hJ3⟩, hFB.keep hk3 (by omega), (hK.trans (hKF.sub (fun b _ h => by omega))).trans (hk3.sub (fun b _ h => by omega))⟩, by simp [intOf]⟩
          · gi_wp2
            simp only [Exit.jump]
            refine bodyPost_ret (results_none rfl _ _ _) rfl ⟨⟨_, rfl⟩, .inr hJx3⟩
        · have hd2 : (n : Int) / 16384 = 0 := by omega
          have hfl : fl = false := by
            simp only [Nat.reducePow] at hskip
            have h6 : ((n / 16384 : Nat) : Int) = 0 := by omega
            rw [h6] at hskip
            simpa using hskip
          subst hfl
          clear hskip hd
          have eD : ((n / 128 ^ (2) % 128 : Nat) : Int) = 0 := by simp only [Nat.reducePow, Nat.reduceSub]; omega
          obtain ⟨fn, tmps, assign, body, hy, hR⟩ := HY.out _ _ _ hdg hJ2 (Nat.le_trans hK.size hKF.size)
          dsimp only at hy
          rw [eD] at hy
          have eL := low_and7 0 (by omega) (by omega)
          clear eD hdg
          gi_wp2
          refine hR.mono ?_
          rintro e W3 (⟨rfl, hJ3, hk3⟩ | ⟨rfl, hJx3, hk3⟩)
          · gi_wp2
            refine wpIn_goto ?_
            refine ⟨rfl, ⟨1, false, by omega, ⟨_, _, _, _, _, _, _, _, _, _, _, _, _, _, _, _, _, _, _, _, _, _, _, _, _, _, _, _, _, _, _, _, _, _, rfl⟩, .inr ⟨rfl, by omega, by rw [show K - 1 = K - 2 + 1 from by omega]; exact hJ3⟩, hFB.keep hk3 (by omega), (hK.trans (hKF.sub (fun b _ h => by omega))).trans (hk3.sub (fun b _ h => by omega))⟩, by simp [intOf]⟩
          · gi_wp2
            simp only [Exit.jump]
            refine bodyPost_ret (results_none rfl _ _ _) rfl ⟨⟨_, rfl⟩, .inr hJx3⟩
      · rcases Int.lt_or_le 0 ((n : Int) / 128) with hd | hd
        · have hd2 : ((n : Int) / 128 == 0) = false := by simp only [beq_eq_false_iff_ne]; omega
          clear hskip
          have eD : ((n / 128 ^ (1) % 128 : Nat) : Int) = (n : Int) / 128 % 128 := by simp only [Nat.reducePow, Nat.reduceSub]; omega
          obtain ⟨fn, tmps, assign, body, hy, hR⟩ := HY.out _ _ _ hdg hJ2 (Nat.le_trans hK.size hKF.size)
          dsimp only at hy
          rw [eD] at hy
          have eL := low_and7 ((n : Int) / 128) (by omega) (by omega)
          clear eD hdg
          gi_wp2
          refine hR.mono ?_
          rintro e W3 (⟨rfl, hJ3, hk3⟩ | ⟨rfl, hJx3, hk3⟩)
          · gi_wp2
            refine wpIn_goto ?_
            refine ⟨rfl, ⟨0, false, by omega, ⟨_, _, _, _, _, _, _, _, _, _, _, _, _, _, _, _, _, _, _, _, _, _, _, _, _, _, _, _, _, _, _, _, _, _, rfl⟩, .inr ⟨rfl, by omega, by rw [show K - 0 = K - 1 + 1 from by omega]; exact hJ3⟩, hFB.keep hk3 (by omega), (hK.trans (hKF.sub (fun b _ h => by omega))).trans (hk3.sub (fun b _ h => by omega))⟩, by simp [intOf]⟩
          · gi_wp2
            simp only [Exit.jump]
            refine bodyPost_ret (results_none rfl _ _ _) rfl ⟨⟨_, rfl⟩, .inr hJx3⟩
        · have hd2 : (n : Int) / 128 = 0 := by omega
          have hfl : fl = false := by
            simp only [Nat.reducePow] at hskip
            have h6 : ((n / 128 : Nat) : Int) = 0 := by omega
            rw [h6] at hskip
            simpa using hskip
          subst hfl
          clear hskip hd
          have eD : ((n / 128 ^ (1) % 128 : Nat) : Int) = 0 := by simp only [Nat.reducePow, Nat.reduceSub]; omega
          obtain ⟨fn, tmps, assign, body, hy, hR⟩ := HY.out _ _ _ hdg hJ2 (Nat.le_trans hK.size hKF.size)
          dsimp only at hy
          rw [eD] at hy
          have eL := low_and7 0 (by omega) (by omega)
          clear eD hdg
          gi_wp2
          refine hR.mono ?_
          rintro e W3 (⟨rfl, hJ3, hk3⟩ | ⟨rfl, hJx3, hk3⟩)
          · gi_wp2
            refine wpIn_goto ?_
            refine ⟨rfl, ⟨0, false, by omega, ⟨_, _, _, _, _, _, _, _, _, _, _, _, _, _, _, _, _, _, _, _, _, _, _, _, _, _, _, _, _, _, _, _, _, _, rfl⟩, .inr ⟨rfl, by omega, by rw [show K - 0 = K - 1 + 1 from by omega]; exact hJ3⟩, hFB.keep hk3 (by omega), (hK.trans (hKF.sub (fun b _ h => by omega))).trans (hk3.sub (fun b _ h => by omega))⟩, by simp [intOf]⟩
          · gi_wp2
            simp only [Exit.jump]
            refine bodyPost_ret (results_none rfl _ _ _) rfl ⟨⟨_, rfl⟩, .inr hJx3⟩
      · rcases Int.lt_or_le 0 ((n : Int)) with hd | hd
        · have hd2 : ((n : Int) == 0) = false := by simp only [beq_eq_false_iff_ne]; omega
          clear hskip
          have eD : ((n / 128 ^ (0) % 128 : Nat) : Int) = (n : Int) % 128 := by simp only [Nat.reducePow, Nat.reduceSub]; omega
          obtain ⟨fn, tmps, assign, body, hy, hR⟩ := HY.out _ _ _ hdg hJ2 (Nat.le_trans hK.size hKF.size)
          dsimp only at hy
          rw [eD] at hy
          have eL := low_and7 (n : Int) (by omega) (by omega)
          clear eD hdg
          gi_wp2
          refine hR.mono ?_
          rintro e W3 (⟨rfl, hJ3, hk3⟩ | ⟨rfl, hJx3, hk3⟩)
          · gi_wp2
            simp only [Exit.jump]
            refine bodyPost_ret (results_none rfl _ _ _) rfl ⟨⟨_, rfl⟩, .inl ?_⟩
            rw [digs_length]
            exact hJ3
          · gi_wp2
            simp only [Exit.jump]
            refine bodyPost_ret (results_none rfl _ _ _) rfl ⟨⟨_, rfl⟩, .inr hJx3⟩
        · have hd2 : (n : Int) = 0 := by omega
          clear hskip hd
          obtain rfl : n = 0 := by omega
          cases fl
          · have eD : ((0 / 128 ^ (0) % 128 : Nat) : Int) = 0 := by simp only [Nat.reducePow, Nat.reduceSub]; omega
            obtain ⟨fn, tmps, assign, body, hy, hR⟩ := HY.out _ _ _ hdg hJ2 (Nat.le_trans hK.size hKF.size)
            dsimp only at hy
            rw [eD] at hy
            have eL := low_and7 0 (by omega) (by omega)
            clear eD hdg
            gi_wp2
            refine hR.mono ?_
            rintro e W3 (⟨rfl, hJ3, hk3⟩ | ⟨rfl, hJx3, hk3⟩)
            · gi_wp2
              simp only [Exit.jump]
              refine bodyPost_ret (results_none rfl _ _ _) rfl ⟨⟨_, rfl⟩, .inl ?_⟩
              rw [digs_length]
              exact hJ3
            · gi_wp2
              simp only [Exit.jump]
              refine bodyPost_ret (results_none rfl _ _ _) rfl ⟨⟨_, rfl⟩, .inr hJx3⟩
          · have eD : ((0 / 128 ^ (0) % 128 : Nat) : Int) = 0 := by simp only [Nat.reducePow, Nat.reduceSub]; omega
            obtain ⟨fn, tmps, assign, body, hy, hR⟩ := HY.out _ _ _ hdg hJ2 (Nat.le_trans hK.size hKF.size)
            dsimp only at hy
            rw [eD] at hy
            have eL := low_and7 0 (by omega) (by omega)
            clear eD hdg
            gi_wp2
            refine hR.mono ?_
            rintro e W3 (⟨rfl, hJ3, hk3⟩ | ⟨rfl, hJx3, hk3⟩)
            · gi_wp2
              simp only [Exit.jump]
              refine bodyPost_ret (results_none rfl _ _ _) rfl ⟨⟨_, rfl⟩, .inl ?_⟩
              rw [digs_length]
              exact hJ3
            · gi_wp2
              simp only [Exit.jump]
              refine bodyPost_ret (results_none rfl _ _ _) rfl ⟨⟨_, rfl⟩, .inr hJx3⟩
end Go.Proofs.YtofheinbbefbcaaDoor
/- The walks of numbers: a number's long bytes, put behind others. -/
namespace Go.Proofs.YtofheinbbefbcaaDoor
open Go Go.RowKit Go.Shelf
set_option maxRecDepth 100000
attribute [local go_sem] Oper.semAt_some

theorem ownsRow_keepO {S : Nat → Prop} {w w' : World} {base : Nat} {e : TypeId} {size : Nat} {v : Value} {n : Nat} {xs : List Value} (h : w.ownsRow base e size v n xs) (hk : KeepB S w w') (hs : ∀ b, v.ownBlock = some b → S b) : w'.ownsRow base e size v n xs := by
  obtain ⟨hl, h2⟩ := h
  refine ⟨hl, ?_⟩
  rcases h2 with h2 | ⟨g, cap, cur, rfl, h3, h4, h5, h6, h7⟩
  · exact .inl h2
  · exact .inr ⟨g, cap, cur, rfl, h3, hk.heap (hs g rfl) h4, h5, h6, h7⟩
theorem nkeepT {w w' : World} (h : Below w.heap.size w w') : KeepB (fun _ => True) w w' := KeepB.of_below h (fun _ hk _ => hk)
theorem ownsRow_keep' {w w' : World} {base : Nat} {e : TypeId} {size : Nat} {v : Value} {n : Nat} {xs : List Value} (h : w.ownsRow base e size v n xs) (hk : KeepB (fun _ => True) w w') : w'.ownsRow base e size v n xs := ownsRow_keepO h hk (fun _ _ => trivial)
/-- The row's block is either below a or from b on. -/
def Off (v : Value) (a b : Nat) : Prop := ∀ g, v.ownBlock = some g → g < a ∨ b ≤ g
theorem Off.out {v : Value} {a : Nat} (h : Off v a (a + 7)) {x : Nat} (hx : v.ownBlock = some x) (hh : x = a ∨ (a + 1 ≤ x ∧ x < a + 7)) : False := by
  have := h x hx; omega
theorem Off.loc {v v' : Value} {a b s : Nat} (h : Off v a b) (hl : v'.ownBlock = v.ownBlock ∨ v'.ownBlock = some s) (hs : b ≤ s) : Off v' a b := fun g hg => by
  rcases hl with hl | hl
  · exact h g (hl.symm.trans hg)
  · obtain rfl : s = g := Option.some.inj (hl.symm.trans hg)
    exact .inr hs

theorem toB_bv (d : Nat) (h : d < 256) : bv (UInt8.ofNat d) = .int .u8 (d : Int) := by
  simp only [bv, UInt8.toNat_ofNat', Nat.reducePow]
  rw [Nat.mod_eq_of_lt h]

end Go.Proofs.YtofheinbbefbcaaDoor
/- The walks of numbers: a number's short bytes, put behind others. -/
namespace Go.Proofs.YtofheinbbefbcaaDoor
open Go Go.RowKit Go.Shelf
set_option maxRecDepth 100000
attribute [local go_sem] Oper.semAt_some

theorem or128 (y : Nat) (h : y < 128) : bits BinOp.or IntKind.u8 (y : Int) 128 = ((y + 128 : Nat) : Int) :=
  (show ∀ y : Nat, y < 128 → bits BinOp.or IntKind.u8 (y : Int) 128 = ((y + 128 : Nat) : Int) by decide +kernel) y h
theorem and127 (y : Nat) (h : y < 128) : bits BinOp.and IntKind.u8 ((y + 128 : Nat) : Int) 127 = (y : Int) :=
  (show ∀ y : Nat, y < 128 → bits BinOp.and IntKind.u8 ((y + 128 : Nat) : Int) 127 = (y : Int) by decide +kernel) y h
theorem digs_last (B k n : Nat) : (digs B k n)[k]? = some (n % B) := by
  have := digs_at B k n k (Nat.le_refl _)
  simpa using this
theorem marked_eq (k n : Nat) : marked (digs 128 k n) = ((digs 128 k n).map (· + 128)).set k (n % 128) := by
  induction k with
  | zero => rfl
  | succ k ih =>
    have h : digs 128 (k + 1) n = n / 128 ^ (k + 1) % 128 :: digs 128 k n := rfl
    rw [h]
    cases hd : digs 128 k n with
    | nil => have := digs_length 128 k n; rw [hd] at this; simp at this
    | cons e l =>
      rw [hd] at ih
      show (n / 128 ^ (k + 1) % 128 + 128) :: marked (e :: l) = _
      rw [ih]; rfl

theorem set_short (l : List UInt8) (xs : List Nat) (K z : Nat) (h : z < 128) : (bvs (l ++ toB xs)).set (l.length + K) (.int .u8 (z : Int)) = bvs (l ++ toB (xs.set K z)) := by
  rw [← toB_bv z (by omega)]
  have h1 : (l ++ toB xs).set (l.length + K) (UInt8.ofNat z) = l ++ toB (xs.set K z) := by
    rw [List.set_append_right _ _ (by omega), Nat.add_sub_cancel_left]; simp [toB, List.map_set]
  rw [← h1]; simp [bvs, List.map_set]

set_option maxHeartbeats 4000000 in
theorem shortOne_any (n : Nat) (hn : n ≤ 1073741824) (B : Nat) (v : Value) (l : List UInt8) (hl : l.length ≤ 1099511627000) (w : World) (hBw : B ≤ w.heap.size) (hown : w.ownsRow B 5 1 v l.length (bvs l)) :
    Calls Tryd.prog 93 #[v, .int .i64 n] w fun e w' => ∃ v', e = .returned v' ∧ w'.ownsRow B 5 1 v' (l.length + (topK n + 1)) (bvs (l ++ short1 n)) ∧ Below B w w' := by
  have hK4 := topK_le n
  have Hm := Lib.hid (show short1 n = toB (((digs 128 (topK n) n).map (· + 128)).set (topK n) (n % 128)) from by rw [short1, marked_eq])
  have Hlast := Lib.hid (digs_last 128 (topK n) n)
  have hiter := Lib.hid (short1_iter n)
  obtain ⟨ds, hds⟩ : ∃ ds, ds = digs 128 (topK n) n := ⟨_, rfl⟩
  have hdl : ds.length = topK n + 1 := by rw [hds, digs_length]
  have hdlt : ∀ d ∈ ds, d < 128 := by rw [hds]; exact digs_lt 128 _ n (by omega)
  rw [← hds] at Hm Hlast hiter
  clear hds
  obtain ⟨K, hKe⟩ : ∃ K, K = topK n := ⟨_, rfl⟩
  rw [← hKe] at hK4 Hm Hlast hdl ⊢
  clear hKe
  have hlt0 : ∀ g, v.ownBlock = some g → g < w.heap.size := fun g hg => (hown.lt g hg).2
  obtain ⟨cum, hc0, hcs, hcl⟩ : ∃ cum : Nat → List UInt8, cum 0 = [] ∧ Hid (∀ (k y : Nat), ds[k]? = some y → cum (k + 1) = cum k ++ [UInt8.ofNat (y + 128)]) ∧ Hid (cum (K + 1) = toB (ds.map (· + 128))) :=
    ⟨fun k => toB ((ds.take k).map (· + 128)), rfl, Lib.hid (fun k y hy => by show toB ((ds.take (k + 1)).map (· + 128)) = toB ((ds.take k).map (· + 128)) ++ _; rw [List.take_add_one, hy]; simp [toB]), Lib.hid (by show toB ((ds.take (K + 1)).map (· + 128)) = _; rw [List.take_of_length_le (by omega)])⟩
  obtain ⟨Av, cv, rfl, hlc, hcm⟩ := own_slice hown
  have hb0 := Box.new w (.slice Av l.length cv) 23
  have hown0 := hown.alloc (.cells #[.slice Av l.length cv] 23)
  have hB0 : Below w.heap.size w (w.alloc (.cells #[.slice Av l.length cv] 23)) := (Below.refl _ _).alloc (Nat.le_refl _) _
  have hs0 : (w.alloc (.cells #[.slice Av l.length cv] 23)).heap.size = w.heap.size + 1 := by simp
  refine (callsIn_wide (n := 9)).1 (callsIn_of_wp_marks Tryd.func93 rfl trivial ?_ rfl)
  simp only [Tryd.ntmps93, List.size_toArray, List.length_cons, List.length_nil, Nat.reduceAdd, Nat.reduceSub, Array.replicate_succ, Array.replicate_zero, List.push_toArray, List.append_toArray, List.nil_append, List.cons_append]
  gi_wp2_with fail
  generalize w.alloc (.cells #[.slice Av l.length cv] 23) = W0 at *
  refine ⟨trivial, ?_⟩
  refine (callsIn_wide.2 (digits_any (n : Int) 7 5 true _)).mono ?_
  rintro e w' ⟨rfl, rfl⟩
  rw [hs0]
  have hN := Box.new W0 (.int .i64 n) 3
  have hD := Box.new ((W0.alloc (.cells #[.int .i64 n] 3)).alloc (.cells #[.int .i64 7] 3)) (.int .i64 5) 3
  have hE := Box.new (W0.alloc (.cells #[.int .i64 n] 3)) (.int .i64 7) 3
  have hF := Box.new (((W0.alloc (.cells #[.int .i64 n] 3)).alloc (.cells #[.int .i64 7] 3)).alloc (.cells #[.int .i64 5] 3)) (.bool true) 4
  replace hN := ((hN.alloc (.cells #[.int .i64 7] 3)).alloc (.cells #[.int .i64 5] 3)).alloc (.cells #[.bool true] 4)
  replace hE := (hE.alloc (.cells #[.int .i64 5] 3)).alloc (.cells #[.bool true] 4)
  replace hD := hD.alloc (.cells #[.bool true] 4)
  have hB1 : Below W0.heap.size W0 ((((W0.alloc (.cells #[.int .i64 n] 3)).alloc (.cells #[.int .i64 7] 3)).alloc (.cells #[.int .i64 5] 3)).alloc (.cells #[.bool true] 4)) :=
    ((((Below.refl _ _).alloc (Nat.le_refl _) _).alloc (by simp) _).alloc (by simp; omega) _).alloc (by simp; omega) _
  have hs1 : ((((W0.alloc (.cells #[.int .i64 n] 3)).alloc (.cells #[.int .i64 7] 3)).alloc (.cells #[.int .i64 5] 3)).alloc (.cells #[.bool true] 4)).heap.size = w.heap.size + 1 + 4 := by simp [hs0]
  simp only [World.size_alloc, hs0] at hN hE hD hF
  generalize (((W0.alloc (.cells #[.int .i64 n] 3)).alloc (.cells #[.int .i64 7] 3)).alloc (.cells #[.int .i64 5] 3)).alloc (.cells #[.bool true] 4) = W1 at *
  have hV := hb0.keep (nkeepT hB1) trivial
  have hown1 := ownsRow_keep' hown0 (nkeepT hB1)
  have hBB := bTr hB0 (hB1.mono (by omega))
  clear hb0 hown0 hB0 hB1
  gi_wp2
  refine range_law (n₀ := 0) (M := w.heap.size + 1) (xs := ds) (encs := fun d : Nat => #[.int .u8 d]) rfl (enters_of Tryd.func100 (by kernel_rfl) rfl)
    (hiter.out (w.heap.size + 1) hn W1 hs1 hN hE hD hF) (by omega) (by omega) (fun _ => rfl)
    (fun k W => (∃ v, Box W w.heap.size v ∧ W.ownsRow B 5 1 v (l.length + k) (bvs (l ++ cum k)) ∧ Off v w.heap.size (w.heap.size + 7)) ∧ Below B w W ∧ w.heap.size ≤ W.heap.size) (fun _ _ => False)
    (fun k A B' h hk => ⟨h.1.imp fun v hv => ⟨hv.1.keep hk (by omega), ownsRow_keepO hv.2.1 hk (fun b hb => by have := hv.2.2 b hb; omega), hv.2.2⟩, below_keep h.2.1 hk (Nat.le_trans hBw h.2.2) (fun _ _ => by omega), Nat.le_trans h.2.2 hk.size⟩) (fun _ _ _ h _ => h) ⟨⟨_, hV, by simpa [hc0] using hown1, fun g hg => .inl (hlt0 g hg)⟩, hBB.mono hBw, by omega⟩ ?round ?done (fun _ _ h _ => h.elim)
  case round =>
    intro lr k y A1 hy hI hsz
    have hy5 := hdlt y (List.mem_of_getElem? hy)
    have hkl : k < K + 1 := by have := (List.getElem?_eq_some_iff.1 hy).1; rwa [hdl] at this
    have htk := hcs.out k y hy
    have eO : bits BinOp.or IntKind.u8 (y : Int) 128 = ((y + 128 : Nat) : Int) := or128 y hy5
    have hbz := toB_bv (y + 128) (by omega)
    generalize y + 128 = z at *
    have Hy := Lib.hid htk
    have Hb := Lib.hid hbz
    clear hbz
    clear htk hy hI
    gi_wp2
    refine ⟨KeepB.refl _ _, fun A2 hk2 hI2 => ?_⟩
    obtain ⟨⟨v, hV, hown, hoff⟩, hB, hzz⟩ := hI2
    have hz2 := hk2.size
    have hVl := hV.lt
    obtain ⟨cV, fV⟩ := hV
    have hA3 : Rd (A2.alloc (.cells #[.int .u8 (z : Int)] 5)) (some ⟨A2.heap.size, 0, none⟩) (bvs [UInt8.ofNat z]) := by
      have := Rd.new A2 [.int .u8 (z : Int)] 5
      rw [← Hb.out] at this ⊢
      exact this
    obtain ⟨Av, cv, rfl, _⟩ := own_slice hown
    gi_wp2_with (refine listIn_append_rd (news := bvs [UInt8.ofNat z]) rfl (.tmp 9) (.tmp 12) rfl elemB rfl (hown.alloc _) rfl rfl hA3 (bvs_one _) (by unfold maxLen; omega) (by omega) (by simp; omega) ?_; intro v' w' hown' hg hloc; obtain ⟨A', c', rfl, _⟩ := own_slice hown'; have hkb : KeepB (fun b => b = w.heap.size ∨ (w.heap.size + 1 ≤ b ∧ b < w.heap.size + 7)) A2 w' := ((KeepB.refl _ A2).alloc _).grown hg fun x hx _ hh => Off.out hoff hx hh; have hoff' := Off.loc hoff hloc (by simp; omega); have hB' := Below.grown (hB.alloc (Nat.le_trans hBw hzz) _) hg (Nat.le_trans hBw (by simp; omega)) (fun k hk => (hown.lt k hk).1); clear hloc hg; have cV' := hkb.cell (p := ⟨w.heap.size, 0, none⟩) (.inl rfl) cV; have fV' := (hkb.frozen (p := ⟨w.heap.size, 0, none⟩) hVl (.inl rfl)).trans fV)
    have hk3 : KeepB (fun b => b ≠ w.heap.size) w' (w'.setCell ⟨w.heap.size, 0, none⟩ (.slice A' (l.length + k + 1) c')) := (KeepB.refl _ _).setCell (by simp) _
    refine ⟨(hkb.sub fun _ _ _ => by omega).trans (hk3.sub fun _ _ _ => by omega), ⟨_, Box.set ⟨cV', fV'⟩ _, ?_, hoff'⟩, ?_, ?_⟩
    · rw [Hy.out, ← List.append_assoc, bvs_append]
      refine ownsRow_keepO hown' hk3 fun b hb => ?_
      have := hoff' b hb
      omega
    · exact below_keep hB' hk3 (by have := hkb.size; omega) (fun _ _ => by omega)
    · have := hkb.size; have := hk3.size; omega
  case done =>
    intro A1 hI hD
    rw [hdl] at hI
    obtain ⟨⟨v, ⟨cV, fV⟩, hown, hoff⟩, hB, hzz⟩ := hI
    obtain ⟨g, cap, rfl, hgB, hgl⟩ := hown.form (by omega)
    have hcel := hown.cellAt (l.length + K) (by omega)
    have hfr := hown.frozenAt (l.length + K)
    have hst := hown.stored (l.length + K)
    have hgo := hoff g rfl
    have hlst : (bvs (l ++ cum (K + 1)))[l.length + K]? = some (.int .u8 ((n % 128 + 128 : Nat) : Int)) := by
      rw [hcl.out]
      have h1 := Hlast.out
      have h2 := toB_bv (n % 128 + 128) (by omega)
      have h3 : (l ++ toB (ds.map (· + 128)))[l.length + K]? = some (UInt8.ofNat (n % 128 + 128)) := by
        rw [List.getElem?_append_right (by omega), Nat.add_sub_cancel_left]; simp [toB, h1]
      rw [bvs, List.getElem?_map, h3, Option.map_some, h2]
    rw [hlst] at hcel
    have Hst := Lib.hid hst
    have eA : bits BinOp.and IntKind.u8 (((n % 128 : Nat) : Int) + 128) 127 = ((n % 128 : Nat) : Int) := and127 (n % 128) (by omega)
    clear hst hlst
    have hz : n % 128 < 128 := Nat.mod_lt _ (by omega)
    rw [hcl.out] at Hst
    generalize n % 128 = z at *
    have e5 : (((l.length + (K + 1) : Nat) : Int) - 1).toNat = l.length + K := by omega
    rw [hs1] at hD
    gi_wp2
    obtain ⟨hrow, hgr⟩ := Hst.out (.int .u8 (z : Int))
    have hB2 := Below.grown hB hgr (Nat.le_trans hBw hzz) (fun k hk => by injection hk with hk; omega)
    have hkg : KeepB (fun b => b ≠ g) A1 (A1.setCell ⟨g, l.length + K, none⟩ (.int .u8 (z : Int))) := (KeepB.refl _ _).setCell (by simp) _
    have hD2 := hkg.heap (show w.heap.size + 1 + 4 ≠ g by omega) hD
    have hzk := hkg.size
    rw [set_short l (ds.map (· + 128)) K z hz, ← Hm.out] at hrow
    generalize A1.setCell ⟨g, l.length + K, none⟩ (.int .u8 (z : Int)) = W2 at *
    rw [hs1]
    refine ⟨by simp, .inl ⟨_, _, rfl, run_takeDeferred hD2, ?_⟩⟩
    have hk3 : KeepB (fun k => k ≠ w.heap.size + 1 + 4) W2 (W2.putObj (w.heap.size + 1 + 4) (Obj.deferred none)) := (KeepB.refl _ _).putObj _ _ (by simp)
    refine ⟨_, results_tmp rfl _ _ _, _, rfl, ?_, ?_⟩
    · exact ownsRow_keepO hrow hk3 fun b hb => by have := hoff b hb; omega
    · exact below_keep hB2 hk3 (by omega) (fun _ _ => by omega)
end Go.Proofs.YtofheinbbefbcaaDoor
/- The walks of numbers: put, Long, Short. -/
namespace Go.Proofs.YtofheinbbefbcaaDoor
open Go Go.RowKit
set_option maxRecDepth 100000

theorem perL_succ (per : Nat → List UInt8) (l : List Int) (k : Nat) (x : Int) (h : l[k]? = some x) : (l.take (k + 1)).flatMap (fun n => per n.toNat) = (l.take k).flatMap (fun n => per n.toNat) ++ per x.toNat := by
  rw [List.take_add_one, h]; simp
theorem perL_le (per : Nat → List UInt8) (hp : ∀ n, (per n).length ≤ 5) (l : List Int) (k : Nat) : ((l.take k).flatMap (fun n => per n.toNat)).length ≤ 5 * k := by
  rw [List.length_flatMap]
  have : ∀ m : List Int, (m.map fun n => (per n.toNat).length).sum ≤ 5 * m.length := by
    intro m
    induction m with
    | nil => simp
    | cons a m ih => have := hp a.toNat; simp only [List.map_cons, List.sum_cons, List.length_cons]; omega
  have h2 := this (l.take k)
  have h3 := List.length_take_le k l
  omega
theorem isN_at {l : List Int} (h : isN l = true) {k : Nat} {x : Int} (hx : l[k]? = some x) : 0 ≤ x ∧ x ≤ 1073741824 := by
  have h1 : l.any badN = false := by simpa [isN] using h
  have := List.any_eq_false.1 h1 x (List.mem_of_getElem? hx)
  exact badN_false.1 (by simpa using this)
theorem short1_len (n : Nat) : (short1 n).length = topK n + 1 := by rw [short1, marked_eq]; simp [toB, digs_length]

theorem short1_le (n : Nat) : (short1 n).length ≤ 5 := by rw [short1_len]; have := topK_le n; omega
theorem oneShort_any (x : Int) (n : Nat) (hx : x = n) (hn : n ≤ 1073741824) (B : Nat) (v : Value) (l : List UInt8) (hl : l.length ≤ 1099511627000) (w : World) (hBw : B ≤ w.heap.size) (hown : w.ownsRow B 5 1 v l.length (bvs l)) :
    Calls Tryd.prog 93 #[v, .int .i64 x] w fun e w' => ∃ v', e = .returned v' ∧ w'.ownsRow B 5 1 v' (l ++ short1 n).length (bvs (l ++ short1 n)) ∧ Below B w w' := by
  subst hx
  have := shortOne_any n hn B v l hl w hBw hown
  rw [List.length_append, short1_len]
  exact this

set_option maxHeartbeats 1000000 in
theorem putShort_any (A : Option Addr) (n c : Nat) (l : List Int) (hn : n = l.length) (hl : l.length ≤ 1000000) (w : World) (hA : Rd w A (ivs l)) :
    Calls Tryd.prog 79 #[.slice A n c, .func (.func 93) #[] #[]] w fun e w' => ∃ v, e = .returned (.tuple #[v, .int .i64 (errN l)]) ∧
      w'.ownsRow w.heap.size 5 1 v (shortR l).length (bvs (shortR l)) ∧ Below w.heap.size w w' := by
  subst hn
  by_cases hN : isN l = true
  · rw [show shortR l = shortL l from if_pos hN, show errN l = 0 from if_pos hN]
    have HN := Lib.hid hN
    clear hN
    go_enter Tryd.func79, Tryd.ntmps79
    go_wp2_with (go_at_call 88; refine (is_any A _ c l rfl (by omega) _ hA).mono ?_; rintro e w1 ⟨rfl, rfl⟩; rw [HN.out])
    go_loopw [4, 13] (fun t i wr => ∃ k : Nat, k ≤ l.length ∧ i = .int .i64 k ∧ wr.ownsRow w1.heap.size 5 1 t ((l.take k).flatMap fun n => short1 n.toNat).length (bvs ((l.take k).flatMap fun n => short1 n.toNat)) ∧ Below w1.heap.size w1 wr) (fun _ i _ => l.length - (intOf i).toNat)
    case atStart => exact ⟨0, by omega, rfl, World.ownsRow_nil _ _ _ _, Below.refl _ _⟩
    case round =>
      obtain ⟨k, hk, rfl, hown, hB⟩ := hrel
      have hle := perL_le short1 short1_le l k
      by_cases hk4 : k < l.length
      · obtain ⟨b, o, x, rfl, hb, hc, hx⟩ := (hA.below hB).int hk4
        have hxn := isN_at HN.out hx
        have Hs := Lib.hid (perL_succ short1 l k x hx)
        have hBz := hB.size
        clear hx
        obtain ⟨rw, hrw⟩ : ∃ r, r = (l.take k).flatMap fun n => short1 n.toNat := ⟨_, rfl⟩
        rw [← hrw] at hown hle Hs
        clear hrw
        go_wp2_with (go_at_call 93; refine (oneShort_any x x.toNat (by omega) (by omega) w1.heap.size _ rw (by omega) _ (by simpa using hBz) hown).mono ?_; rintro e w2 ⟨v2, rfl, hown2, hB2⟩)
        go_roundw
        case rel => exact ⟨k + 1, by omega, by go_num, by rw [Hs.out]; exact hown2, hB.trans hB2⟩
        case measure => simp [intOf]; omega
      · obtain rfl : k = l.length := by omega
        rw [List.take_length] at hown
        go_wp2
        go_returns
        exact ⟨_, rfl, hown, hB⟩
  · rw [show shortR l = [] from if_neg hN, show errN l = 2 from if_neg hN]
    have HN := Lib.hid (show isN l = false by simpa using hN)
    clear hN
    go_enter Tryd.func79, Tryd.ntmps79
    go_wp2_with (go_at_call 88; refine (is_any A _ c l rfl (by omega) _ hA).mono ?_; rintro e w1 ⟨rfl, rfl⟩; rw [HN.out])
    go_returns
    exact ⟨_, rfl, World.ownsRow_nil _ _ _ _, Below.refl _ _⟩

end Go.Proofs.YtofheinbbefbcaaDoor
/- The walks of numbers: Long, Short. -/
namespace Go.Proofs.YtofheinbbefbcaaDoor
open Go Go.RowKit
set_option maxRecDepth 100000

set_option maxHeartbeats 200000 in
theorem short_any (A : Option Addr) (n c : Nat) (l : List Int) (hn : n = l.length) (hl : l.length ≤ 1000000) (w : World) (hA : Rd w A (ivs l)) :
    Calls Tryd.prog 60 #[.slice A n c] w fun e w' => ∃ v, e = .returned (.tuple #[v, .int .i64 (errN l)]) ∧
      w'.ownsRow w.heap.size 5 1 v (shortR l).length (bvs (shortR l)) ∧ Below w.heap.size w w' := by
  subst hn
  go_enter Tryd.func60, Tryd.ntmps60
  go_wp2_with (go_at_call 79; refine (putShort_any A _ c l rfl hl _ hA).mono ?_; rintro e w1 ⟨v1, rfl, hown1, hB1⟩)
  go_returns
  exact ⟨_, rfl, hown1, hB1⟩

theorem Rd.byte {w : World} {A : Option Addr} {l : List UInt8} (h : Rd w A (bvs l)) {k : Nat} (hk : k < l.length) :
    ∃ b o c, A = some ⟨b, o, none⟩ ∧ b < w.heap.size ∧ w.cell? ⟨b, o + k, none⟩ = some (.int .u8 ((UInt8.toNat c : Nat) : Int)) ∧ c.toNat < 256 ∧ l[k]? = some c := by
  have hu : (bvs l)[k]? = some (bv l[k]) := by simp [bvs, hk]
  obtain ⟨b, o, e, hb, hc⟩ := h k _ hu
  exact ⟨b, o, l[k], e, hb, hc, l[k].toNat_lt, by simp [hk]⟩
theorem Rd.cutF {w : World} {A : Option Addr} {xs : List Value} (h : Rd w A xs) {k c : Nat} (hc : xs.length ≤ c) : Rd w (if c = k then A else Option.map (fun x => (⟨x.block, x.off + k, none⟩ : Addr)) A) (xs.drop k) := by
  split
  · rw [List.drop_eq_nil_of_le (by omega)]; exact Rd.nil _ _
  · intro j u hj
    rw [List.getElem?_drop] at hj
    obtain ⟨b, o, rfl, hb, hc⟩ := h _ u hj
    exact ⟨b, o + k, rfl, hb, by rw [Nat.add_assoc]; exact hc⟩
theorem i64_or_nat (a b : Nat) (ha : a < 9223372036854775808) (hb : b < 9223372036854775808) : bits .or .i64 (a : Int) (b : Int) = ((a ||| b : Nat) : Int) := by
  have hx : a ||| b < 2 ^ 63 := Nat.or_lt_two_pow (by omega) (by omega)
  show IntKind.i64.wrap ((BitVec.ofInt 64 (a : Int) ||| BitVec.ofInt 64 (b : Int)).toNat : Int) = _
  rw [BitVec.toNat_or, ofInt_u64 a (by omega), ofInt_u64 b (by omega), IntKind.wrap_i64]
  omega
theorem or_low7 (x z : Nat) (hx : x < 4294967296) (hz : z < 128) : bits BinOp.or IntKind.i64 ((x : Int) * 128) (z : Int) = (x : Int) * 128 + z := by
  have := i64_or_nat (x * 128) z (by omega) (by omega)
  rw [nat_join 7 (x * 128) z (by omega) (by omega)] at this
  simpa using this

end Go.Proofs.YtofheinbbefbcaaDoor
/- What is taken of short bytes: in plain Lean. -/
namespace Go.Proofs.YtofheinbbefbcaaDoor

/-- From digit 5 - k on, n being what the digits ahead come to: a number, what is behind, an error (0, 10 too short, 11 no form). -/
def tkGo : Nat → Nat → List UInt8 → Int × List UInt8 × Int
  | 0, _, _ => (0, [], 11)
  | _ + 1, _, [] => (0, [], 10)
  | k + 1, n, c :: m =>
    if 128 ≤ c.toNat then tkGo k (n * 128 + c.toNat % 128) m
    else if n * 128 + c.toNat % 128 ≤ 1073741824 then (((n * 128 + c.toNat % 128 : Nat) : Int), m, 0) else (0, [], 11)
def tkN (l : List UInt8) : Int × List UInt8 × Int := if l.head? = some 128 then (0, [], 11) else tkGo 5 0 l
theorem tkGo_more (k n : Nat) (c : UInt8) (m : List UInt8) (h : 128 ≤ c.toNat) : tkGo (k + 1) n (c :: m) = tkGo k (n * 128 + c.toNat % 128) m := by
  rw [tkGo, if_pos h]
theorem tkGo_end (k n : Nat) (c : UInt8) (m : List UInt8) (h : c.toNat < 128) (hn : n * 128 + c.toNat % 128 ≤ 1073741824) : tkGo (k + 1) n (c :: m) = (((n * 128 + c.toNat % 128 : Nat) : Int), m, 0) := by
  rw [tkGo, if_neg (by omega), if_pos hn]
theorem tkGo_big (k n : Nat) (c : UInt8) (m : List UInt8) (h : c.toNat < 128) (hn : 1073741824 < n * 128 + c.toNat % 128) : tkGo (k + 1) n (c :: m) = (0, [], 11) := by
  rw [tkGo, if_neg (by omega), if_neg (by omega)]
theorem tkGo_rest : ∀ (k n : Nat) (l : List UInt8), (tkGo k n l).2.1.length ≤ l.length
  | 0, _, _ => by simp [tkGo]
  | _ + 1, _, [] => by simp [tkGo]
  | k + 1, n, c :: m => by
    rw [tkGo]
    split
    · have := tkGo_rest k (n * 128 + c.toNat % 128) m
      simp only [List.length_cons]; omega
    · split <;> simp
theorem tkN_rest (l : List UInt8) : (tkN l).2.1.length ≤ l.length := by
  unfold tkN; split
  · simp
  · exact tkGo_rest 5 0 l
end Go.Proofs.YtofheinbbefbcaaDoor
/- The walks of numbers: Take. -/
namespace Go.Proofs.YtofheinbbefbcaaDoor
open Go Go.RowKit Go.Shelf
set_option maxRecDepth 100000
attribute [local go_sem] Oper.semAt_some

theorem u8and127 (y : Nat) (h : y < 256) : bits BinOp.and IntKind.u8 (y : Int) 127 = ((y % 128 : Nat) : Int) :=
  (show ∀ y : Nat, y < 256 → bits BinOp.and IntKind.u8 (y : Int) 127 = ((y % 128 : Nat) : Int) by decide +kernel) y h

theorem cutB (b o n c k : Nat) (j : Int) (hj : j = k) (h : k ≤ n) (h2 : n ≤ c) (h3 : c ≤ maxLen) (W : World) : (Instr.sliceAt 23 (.slice (some ⟨b, o, none⟩) n c) (some (.int .i64 j)) none none).run Tryd.prog W = .ok (.slice (if c = k then some ⟨b, o, none⟩ else some ⟨b, o + k, none⟩) (n - k) (c - k)) W := by
  subst hj
  unfold maxLen at h3
  have h1 : (k : Int) ≤ n := by omega
  have h2 : (n : Int) ≤ c := by omega
  by_cases hc : c = k
  · subst hc
    go_simp
  · go_simp
set_option maxRecDepth 100000 in
set_option maxHeartbeats 2000000 in
theorem take_any (A : Option Addr) (c : Nat) (l : List UInt8) (hl : l.length ≤ 1000000) (w : World) (hA : Rd w A (bvs l)) (hlc : l.length ≤ c) (hcm : c ≤ maxLen) :
    Calls Tryd.prog 94 #[.slice A l.length c] w fun e w' => ∃ v, e = .returned (.tuple #[.int .i64 (tkN l).1, v, .int .i64 (tkN l).2.2]) ∧
      w'.ownsRow w.heap.size 5 1 v (tkN l).2.1.length (bvs (tkN l).2.1) ∧ Below w.heap.size w w' := by
  by_cases h128 : l.head? = some 128
  · have HT := Lib.hid (show tkN l = (0, [], 11) from if_pos h128)
    obtain ⟨m, rfl⟩ : ∃ m, l = 128 :: m := by
      cases l with
      | nil => cases h128
      | cons a m => exact ⟨m, by simp at h128; rw [h128]⟩
    clear h128
    obtain ⟨b, o, ch, rfl, hb, hc, hch, hlk⟩ := hA.byte (k := 0) (by simp)
    obtain rfl : 128 = ch := by simpa using hlk
    clear hlk hch
    rw [Nat.add_zero] at hc
    have e128 : ((UInt8.toNat 128 : Nat) : Int) = 128 := rfl
    rw [e128] at hc
    clear e128
    refine (callsIn_wide (n := 9)).1 (callsIn_of_wp Tryd.func94 rfl trivial ?_ rfl)
    simp only [Tryd.ntmps94, List.size_toArray, List.length_cons, List.length_nil, Nat.reduceAdd, Nat.reduceSub, Array.replicate_succ, Array.replicate_zero, List.push_toArray, List.append_toArray, List.nil_append, List.cons_append]
    gi_wp2_with fail
    refine scope_goto 0 (fun _ _ => False) (fun _ _ => 0) rfl (fun _ _ h => h.elim) ?_
    intro _
    gi_wp2
    simp only [Exit.jump]
    gi_wp2
    go_returns
    rw [HT.out]
    exact ⟨_, rfl, World.ownsRow_nil _ _ _ _, Below.refl _ _⟩
  · have HT := Lib.hid (show tkN l = tkGo 5 0 l from if_neg h128)
    refine (callsIn_wide (n := 9)).1 (callsIn_of_wp Tryd.func94 rfl trivial ?_ rfl)
    simp only [Tryd.ntmps94, List.size_toArray, List.length_cons, List.length_nil, Nat.reduceAdd, Nat.reduceSub, Array.replicate_succ, Array.replicate_zero, List.push_toArray, List.append_toArray, List.nil_append, List.cons_append]
    gi_wp2_with fail
    refine scope_goto 0 (fun a w' => ∃ (i n : Nat), i ≤ 5 ∧ i ≤ l.length ∧ (∃ u6 u7 u8 u9 u10 u11 u12 u13 u14 u15 u16 u17 u18 u19 u20 u21 u22 u23 u24 u25 u26 u27 u28 u29 u30 u31 u32 u33 u34 u35 u36 u37 u38 u39 u40 u41 u42 u43 u44 u45 u46 u47 u48 : Value, a = ⟨#[.slice A l.length c, undef, .int .i64 (n : Int), .slice none 0 0, .int .i64 0, .int .i64 (i : Int), u6, u7, u8, u9, u10, u11, u12, u13, u14, u15, u16, u17, u18, u19, u20, u21, u22, u23, u24, u25, u26, u27, u28, u29, u30, u31, u32, u33, u34, u35, u36, u37, u38, u39, u40, u41, u42, u43, u44, u45, u46, u47, u48], []⟩) ∧ n < 128 ^ i ∧ tkN l = tkGo (5 - i) n (l.drop i) ∧ w' = w) (fun a _ => 5 - (intOf (a.tmps.getD 5 undef)).toNat) rfl ?pass ?first
    case first =>
      intro hX
      have HX := Lib.hid hX
      clear hX
      rcases l with _ | ⟨c0, m⟩
      · gi_wp2
        refine wpIn_label ?_
        rename_i hgo
        refine hgo _ _ ?_
        exact HX.out _ _ ⟨0, 0, by omega, by simp, ⟨_, _, _, _, _, _, _, _, _, _, _, _, _, _, _, _, _, _, _, _, _, _, _, _, _, _, _, _, _, _, _, _, _, _, _, _, _, _, _, _, _, _, _, rfl⟩, by simp, HT.out, rfl⟩
      · have h0 : c0.toNat ≠ 128 := fun e => h128 (by
          have : c0 = 128 := UInt8.toNat_inj.1 e
          simp [this])
        have hne : ((c0.toNat : Int) == 128) = false := by simp only [beq_eq_false_iff_ne]; omega
        obtain ⟨b, o, ch, rfl, hb, hc, hch, hlk⟩ := hA.byte (k := 0) (by simp)
        obtain rfl : c0 = ch := by simpa using hlk
        clear hlk h0
        rw [Nat.add_zero] at hc
        gi_wp2
        refine wpIn_label ?_
        rename_i hgo
        refine hgo _ _ ?_
        exact HX.out _ _ ⟨0, 0, by omega, by simp, ⟨_, _, _, _, _, _, _, _, _, _, _, _, _, _, _, _, _, _, _, _, _, _, _, _, _, _, _, _, _, _, _, _, _, _, _, _, _, _, _, _, _, _, _, rfl⟩, by simp, HT.out, rfl⟩
    case pass =>
      rintro a w' ⟨i, n, hi, hil, ⟨u6, u7, u8, u9, u10, u11, u12, u13, u14, u15, u16, u17, u18, u19, u20, u21, u22, u23, u24, u25, u26, u27, u28, u29, u30, u31, u32, u33, u34, u35, u36, u37, u38, u39, u40, u41, u42, u43, u44, u45, u46, u47, u48, rfl⟩, hn, hT, rfl⟩
      by_cases h5 : i = 5
      · subst h5
        have HZ := Lib.hid (show tkN l = (0, [], 11) from by rw [hT]; rfl)
        clear hT
        gi_wp2
        simp only [Exit.jump]
        gi_wp2
        go_returns
        rw [HZ.out]
        exact ⟨_, rfl, World.ownsRow_nil _ _ _ _, Below.refl _ _⟩
      · obtain ⟨k, hk⟩ : ∃ k, 5 - i = k + 1 := ⟨4 - i, by omega⟩
        rw [hk] at hT
        have hik : 5 - (i + 1) = k := by omega
        have Hik := Lib.hid hik
        clear hk hik
        by_cases hlen : i = l.length
        · have HZ := Lib.hid (show tkN l = (0, [], 10) from by rw [hT, List.drop_eq_nil_of_le (by omega)]; rfl)
          clear hT
          have hi5 : ((i : Int) == 5) = false := by simp only [beq_eq_false_iff_ne]; omega
          subst hlen
          gi_wp2
          simp only [Exit.jump]
          gi_wp2
          go_returns
          rw [HZ.out]
          exact ⟨_, rfl, World.ownsRow_nil _ _ _ _, Below.refl _ _⟩
        · have HA0 := Lib.hid hA
          obtain ⟨b, o, ch, rfl, hb, hc, hch, hlk⟩ := hA.byte (k := i) (by omega)
          have hdr : l.drop i = ch :: l.drop (i + 1) := by
            rw [List.drop_eq_getElem_cons (by omega)]
            congr 1
            rw [List.getElem?_eq_getElem (by omega)] at hlk
            exact Option.some.inj hlk
          rw [hdr] at hT
          have hi5 : ((i : Int) == 5) = false := by simp only [beq_eq_false_iff_ne]; omega
          have hil2 : ((i : Int) == (l.length : Int)) = false := by simp only [beq_eq_false_iff_ne]; omega
          have hn4 : n < 4294967296 := Nat.lt_of_lt_of_le hn (Nat.le_trans (Nat.pow_le_pow_right (by omega) (show i ≤ 4 by omega)) (by decide))
          have hnz : n * 128 + ch.toNat % 128 < 128 ^ (i + 1) := by rw [Nat.pow_succ]; omega
          have e7 := u8and127 ch.toNat hch
          have eO := or_low7 n (ch.toNat % 128) hn4 (Nat.mod_lt _ (by omega))
          have hy128 : ch.toNat % 128 < 128 := Nat.mod_lt _ (by omega)
          clear hlk hdr hn
          obtain ⟨y, hy⟩ : ∃ y, y = ch.toNat % 128 := ⟨_, rfl⟩
          have Hy := Lib.hid hy
          rw [← hy] at e7 eO hy128 hnz
          clear hy
          by_cases hm : 128 ≤ ch.toNat
          · rw [tkGo_more _ _ _ _ hm] at hT
            rw [← Hy.out] at hT
            have HT2 := Lib.hid hT
            have hnz2 := Lib.hid hnz
            clear hT hnz
            gi_wp2
            refine wpIn_goto ?_
            gi_wp2
            have hil3 : i < l.length := by omega
            refine ⟨rfl, ⟨i + 1, by omega, by omega, n * 128 + y, ⟨_, _, _, _, _, _, _, _, _, _, _, _, _, _, _, _, _, _, _, _, _, _, _, _, _, _, _, _, _, _, _, _, _, _, _, _, _, _, _, _, _, _, _, rfl⟩, hnz2.out, by rw [HT2.out, Hik.out], rfl⟩, by simp [intOf]; omega⟩
          · have hlo : ch.toNat < 128 := by omega
            have hsh := (HA0.out).cutF (k := i + 1) (c := c) (by rw [bvs_length]; exact hlc)
            rw [← bvs_drop] at hsh
            have hrx : Rd (w'.alloc (.cells #[.int .i64 ((n : Int) * 128 + (y : Int))] 3)) (some ⟨w'.heap.size, 0, none⟩) (ivs [(n : Int) * 128 + (y : Int)]) := Rd.new w' _ _
            have hB1 : Below w'.heap.size w' (w'.alloc (.cells #[.int .i64 ((n : Int) * 128 + (y : Int))] 3)) := (Below.refl _ _).alloc (Nat.le_refl _) _
            have hcl := nclone_any _ (c - (i + 1)) (l.drop (i + 1)) (by rw [List.length_drop]; omega) _ (hsh.below hB1)
            rw [List.length_drop] at hcl
            simp only [Option.map_some] at hcl
            have hsl := cutB b o l.length c (i + 1) ((i : Int) + 1) (by omega) (by omega) hlc hcm
            obtain ⟨X, hX⟩ : ∃ X, (if c = i + 1 then some (⟨b, o, none⟩ : Addr) else some ⟨b, o + (i + 1), none⟩) = X := ⟨_, rfl⟩
            simp only [hX] at hsl hcl
            clear hX
            have Hl := Lib.hid (show (l.drop (i + 1)).length = l.length - (i + 1) from List.length_drop)
            have Hcl := Lib.hid hcl
            clear hsh hcl
            have hil3 : i < l.length := by omega
            by_cases hbig : n * 128 + y ≤ 1073741824
            · rw [tkGo_end _ _ _ _ hlo (by rw [← Hy.out]; exact hbig), ← Hy.out] at hT
              have HT2 := Lib.hid hT
              have HN := Lib.hid (show isN [(n : Int) * 128 + (y : Int)] = true by simp [isN, badN]; omega)
              clear hT hnz hm
              gi_wp2_with fail
              refine ⟨trivial, ?_⟩
              refine (callsIn_wide.2 (is_any _ 1 1 [(n : Int) * 128 + (y : Int)] rfl (by simp) _ hrx)).mono ?_
              rintro e w1 ⟨rfl, rfl⟩
              rw [HN.out]
              gi_wp2_with fail
              refine ⟨trivial, ?_⟩
              refine (callsIn_wide.2 Hcl.out).mono ?_
              rintro e w2 ⟨v2, rfl, hown2, hB2⟩
              gi_wp2
              simp only [Exit.jump]
              gi_wp2
              go_returns
              rw [HT2.out]
              refine ⟨_, rfl, ?_, hB1.trans (hB2.mono hB1.size)⟩
              dsimp only
              rw [Hl.out]
              exact own_base hown2 hB1.size
            · rw [tkGo_big _ _ _ _ hlo (by rw [← Hy.out]; omega)] at hT
              have HT2 := Lib.hid hT
              have HN := Lib.hid (show isN [(n : Int) * 128 + (y : Int)] = false by simp [isN, badN]; omega)
              clear hT hnz hm
              gi_wp2_with fail
              refine ⟨trivial, ?_⟩
              refine (callsIn_wide.2 (is_any _ 1 1 [(n : Int) * 128 + (y : Int)] rfl (by simp) _ hrx)).mono ?_
              rintro e w1 ⟨rfl, rfl⟩
              rw [HN.out]
              gi_wp2
              simp only [Exit.jump]
              gi_wp2
              go_returns
              rw [HT2.out]
              exact ⟨_, rfl, World.ownsRow_nil _ _ _ _, hB1⟩
end Go.Proofs.YtofheinbbefbcaaDoor
/- What is taken of short bytes, many at once: in plain Lean. -/
namespace Go.Proofs.YtofheinbbefbcaaDoor

def tksGo : Nat → List Int → List UInt8 → List Int × List UInt8 × Int
  | 0, acc, r => (acc, r, 0)
  | k + 1, acc, r => if (tkN r).2.2 ≠ 0 then ([], [], (tkN r).2.2) else tksGo k (acc ++ [(tkN r).1]) (tkN r).2.1
def tksN (b : List UInt8) (many : Nat) : List Int × List UInt8 × Int := tksGo many [] b
theorem tksGo_bad (k : Nat) (acc : List Int) (r : List UInt8) (h : (tkN r).2.2 ≠ 0) : tksGo (k + 1) acc r = ([], [], (tkN r).2.2) := if_pos h
theorem tksGo_more (k : Nat) (acc : List Int) (r : List UInt8) (h : (tkN r).2.2 = 0) : tksGo (k + 1) acc r = tksGo k (acc ++ [(tkN r).1]) (tkN r).2.1 := if_neg (by simp [h])
end Go.Proofs.YtofheinbbefbcaaDoor
/- The walks of numbers: Takes. -/
namespace Go.Proofs.YtofheinbbefbcaaDoor
open Go Go.RowKit Go.Shelf
set_option maxRecDepth 100000

theorem take_n (A : Option Addr) (n c : Nat) (l : List UInt8) (hn : l.length = n) (hl : l.length ≤ 1000000) (w : World) (hA : Rd w A (bvs l)) (hlc : l.length ≤ c) (hcm : c ≤ maxLen) :
    Calls Tryd.prog 94 #[.slice A n c] w fun e w' => ∃ v, e = .returned (.tuple #[.int .i64 (tkN l).1, v, .int .i64 (tkN l).2.2]) ∧
      w'.ownsRow w.heap.size 5 1 v (tkN l).2.1.length (bvs (tkN l).2.1) ∧ Below w.heap.size w w' := by
  subst hn; exact take_any A c l hl w hA hlc hcm

set_option maxHeartbeats 2000000 in
theorem takes_any (A : Option Addr) (c : Nat) (b : List UInt8) (m : Int) (hm : m ≤ 1000000) (hl : b.length ≤ 1000000) (w : World) (hA : Rd w A (bvs b)) (hlc : b.length ≤ c) (hcm : c ≤ maxLen) :
    Calls Tryd.prog 67 #[.slice A b.length c, .int .i64 m] w fun e w' => ∃ v u, e = .returned (.tuple #[v, u, .int .i64 (tksN b m.toNat).2.2]) ∧
      w'.ownsRow w.heap.size 3 1 v (tksN b m.toNat).1.length (ivs (tksN b m.toNat).1) ∧ w'.ownsRow w.heap.size 5 1 u (tksN b m.toNat).2.1.length (bvs (tksN b m.toNat).2.1) ∧ Below w.heap.size w w' := by
  obtain ⟨res, hres⟩ : ∃ r, r = tksN b m.toNat := ⟨_, rfl⟩
  rw [← hres]
  have H0 := Lib.hid hres
  clear hres
  go_enter Tryd.func67, Tryd.ntmps67
  go_wp2_with (go_at_call 89; refine (nclone_any A c b (by omega) _ hA).mono ?_; rintro e w1 ⟨v1, rfl, hown1, hB1⟩)
  obtain ⟨A1, c1, rfl, _⟩ := own_slice hown1
  go_loopw [4, 5, 6, 11] (fun v4 v5 v6 i wr => ∃ (k : Nat) (acc : List Int) (r : List UInt8), k ≤ m.toNat ∧ i = .int .i64 k ∧ v6 = .int .i64 0 ∧ Hid (acc.length = k) ∧ r.length ≤ 1000000 ∧ Hid (res = tksGo (m.toNat - k) acc r) ∧
      wr.ownsRow w.heap.size 3 1 v4 k (ivs acc) ∧ wr.ownsRow w.heap.size 5 1 v5 r.length (bvs r) ∧ Below w.heap.size w wr) (fun _ _ _ i _ => m.toNat - (intOf i).toNat)
  case atStart => exact ⟨0, [], b, by omega, rfl, rfl, Lib.hid rfl, hl, Lib.hid H0.out, World.ownsRow_nil _ _ _ _, hown1, hB1⟩
  case round =>
    obtain ⟨k, acc, r, hk, rfl, rfl, hak, hr, Hg, ho4, ho5, hB⟩ := hrel
    have hz := hB.size
    obtain ⟨A4, c4, rfl, _⟩ := own_slice ho4
    obtain ⟨A5, c5, rfl, h5c, h5m⟩ := own_slice ho5
    by_cases hlt : (k : Int) < m
    · obtain ⟨q, hq⟩ : ∃ q, m.toNat - k = q + 1 := ⟨m.toNat - k - 1, by omega⟩
      have hq2 : m.toNat - (k + 1) = q := by omega
      have hg := Hg.out
      rw [hq] at hg
      have hrd5 := Rd.of_own ho5
      have hlk := tkN_rest r
      by_cases he : (tkN r).2.2 = 0
      · have Hg2 := Lib.hid (hg.trans (tksGo_more q acc r he))
        have He := Lib.hid he
        have Htk := Lib.hid (take_n A5 _ c5 r rfl hr wr hrd5 h5c h5m)
        generalize tkN r = tk at *
        obtain ⟨x, r2, e2⟩ := tk
        dsimp only at *
        obtain rfl : e2 = 0 := He.out
        clear He hg he hrd5 hq ho5
        go_wp2_with (first | (go_at_call 94; refine Htk.out.mono ?_; rintro e w2 ⟨v2, rfl, hown2, hB2⟩; have hz2 := hB2.size; have ho4' := own_below ho4 hB2; have hlt4 := ho4.lt) | (at_builtin; refine list_append_rd (news := ivs [x]) rfl (.tmp 22) (.tmp 24) rfl elemI rfl (ho4'.alloc _) rfl rfl (Rd.new w2 [.int .i64 x] 3) (ivs_one _) (by unfold maxLen; omega) (by omega) (by simp; omega) ?_; intro v' w' hown' hg hloc))
        go_roundw
        case rel =>
          have hk3 : KeepB (fun b => (Value.slice A4 k c4).ownBlock ≠ some b) w2 w' := ((KeepB.refl _ w2).alloc _).grown hg (fun x hx _ hne => hne hx)
          have hb3 : Below w.heap.size w w' := bGrow ((bTr hB hB2).alloc (by omega) _) hg (by simp; omega) (ho4'.alloc _)
          have ho2 := own_keep hown2 hk3 (fun b hb he => by have h1 := (hown2.lt b hb).1; have h2 := (hlt4 b he).2; omega)
          refine ⟨k + 1, acc ++ [x], r2, by omega, by go_num, rfl, Lib.hid (by rw [List.length_append, hak.out]; rfl), by omega, Lib.hid (by rw [hq2]; exact Hg2.out), ?_, own_base ho2 hz, hb3⟩
          have : ivs (acc ++ [x]) = ivs acc ++ ivs [x] := by simp [ivs]
          rw [this]
          exact hown'
        case measure => simp [intOf]; omega
      · have Hg2 := Lib.hid (hg.trans (tksGo_bad q acc r he))
        have Htk := Lib.hid (take_n A5 _ c5 r rfl hr wr hrd5 h5c h5m)
        generalize tkN r = tk at *
        obtain ⟨x, r2, e2⟩ := tk
        dsimp only at *
        have hne : (e2 != 0) = true := by simpa using he
        clear hg he hrd5 hq ho5
        go_wp2_with (go_at_call 94; refine Htk.out.mono ?_; rintro e w2 ⟨v2, rfl, hown2, hB2⟩)
        go_returns
        rw [Hg2.out]
        exact ⟨_, _, rfl, World.ownsRow_nil _ _ _ _, World.ownsRow_nil _ _ _ _, bTr hB hB2⟩
    · have hkm : m.toNat - k = 0 := by omega
      have hg := Hg.out
      rw [hkm] at hg
      have Hg2 := Lib.hid (show res = (acc, r, 0) from hg)
      clear hg hkm
      go_wp2
      go_returns
      rw [Hg2.out]
      refine ⟨_, _, rfl, ?_, ho5, hB⟩
      dsimp only
      rw [hak.out]
      exact ho4
end Go.Proofs.YtofheinbbefbcaaDoor
/- The walks of numbers: rows of numbers held against each other. -/
namespace Go.Proofs.YtofheinbbefbcaaDoor
open Go Go.RowKit
set_option maxRecDepth 100000

end Go.Proofs.YtofheinbbefbcaaDoor
/- The walks of numbers: rows of numbers held against each other, and what wakes. -/
namespace Go.Proofs.YtofheinbbefbcaaDoor
open Go Go.RowKit
set_option maxRecDepth 100000

theorem takes_n (A : Option Addr) (n c : Nat) (b : List UInt8) (hn : b.length = n) (m : Int) (hm : m ≤ 1000000) (hl : b.length ≤ 1000000) (w : World) (hA : Rd w A (bvs b)) (hlc : b.length ≤ c) (hcm : c ≤ maxLen) :
    Calls Tryd.prog 67 #[.slice A n c, .int .i64 m] w fun e w' => ∃ v u, e = .returned (.tuple #[v, u, .int .i64 (tksN b m.toNat).2.2]) ∧
      w'.ownsRow w.heap.size 3 1 v (tksN b m.toNat).1.length (ivs (tksN b m.toNat).1) ∧ w'.ownsRow w.heap.size 5 1 u (tksN b m.toNat).2.1.length (bvs (tksN b m.toNat).2.1) ∧ Below w.heap.size w w' := by
  subst hn; exact takes_any A c b m hm hl w hA hlc hcm

end Go.Proofs.YtofheinbbefbcaaDoor
/- The walks of the reference's numbers: Take, TakeLong, Takes. -/
namespace Go.Proofs.YtofheinbbefbcaaDoor
open Go Go.RowKit Go.Shelf
set_option maxRecDepth 100000

theorem isR_n (A : Option Addr) (x : Int) (w : World) (hA : Rd w A (ivs [x])) : Calls Tryd.prog 82 #[.slice A 1 1] w fun e w' => e = .returned (.bool (isN [x])) ∧ w' = w :=
  isR_any A 1 1 [x] rfl (by simp) w hA
set_option maxRecDepth 100000 in
set_option maxHeartbeats 2000000 in
theorem takeR_any (A : Option Addr) (n0 c : Nat) (l : List UInt8) (hn0 : l.length = n0) (hl : n0 ≤ 1000000) (w : World) (hA : Rd w A (bvs l)) (hlc : n0 ≤ c) (hcm : c ≤ maxLen) :
    Calls Tryd.prog 99 #[.slice A n0 c] w fun e w' => ∃ v, e = .returned (.tuple #[.int .i64 (tkN l).1, v, .int .i64 (tkN l).2.2]) ∧
      w'.ownsRow w.heap.size 5 1 v (tkN l).2.1.length (bvs (tkN l).2.1) ∧ Below w.heap.size w w' := by
  have Hn0 := Lib.hid hn0
  by_cases h128 : l.head? = some 128
  · have HT := Lib.hid (show tkN l = (0, [], 11) from if_pos h128)
    obtain ⟨m, rfl⟩ : ∃ m, l = 128 :: m := by
      cases l with
      | nil => cases h128
      | cons a m => exact ⟨m, by simp at h128; rw [h128]⟩
    have hpos : 0 < n0 := by rw [← hn0]; simp
    clear h128
    obtain ⟨b, o, ch, rfl, hb, hc, hch, hlk⟩ := hA.byte (k := 0) (by simp)
    obtain rfl : 128 = ch := by simpa using hlk
    clear hlk hch hn0
    rw [Nat.add_zero] at hc
    have e128 : ((UInt8.toNat 128 : Nat) : Int) = 128 := rfl
    rw [e128] at hc
    clear e128
    go_enter Tryd.func99, Tryd.ntmps99
    go_wp2
    go_returns
    rw [HT.out]
    exact ⟨_, rfl, World.ownsRow_nil _ _ _ _, Below.refl _ _⟩
  · have HT := Lib.hid (show tkN l = tkGo 5 0 l from if_neg h128)
    have hfirst : l = [] ∨ ∃ (b o : Nat) (ch : UInt8), A = some ⟨b, o, none⟩ ∧ b < w.heap.size ∧ w.cell? ⟨b, o, none⟩ = some (.int .u8 ((UInt8.toNat ch : Nat) : Int)) ∧ (((UInt8.toNat ch : Nat) : Int) == 128) = false := by
      cases l with
      | nil => exact .inl rfl
      | cons c0 m =>
        obtain ⟨b, o, ch, rfl, hb, hc, hch, hlk⟩ := hA.byte (k := 0) (by simp)
        obtain rfl : c0 = ch := by simpa using hlk
        refine .inr ⟨b, o, c0, rfl, hb, by simpa using hc, ?_⟩
        simp only [beq_eq_false_iff_ne]
        intro e
        exact h128 (by have : c0 = 128 := UInt8.toNat_inj.1 (by simpa using (show c0.toNat = 128 by omega)); simp [this])
    clear h128
    have HR : Hid (∀ (w1 : World), True) := Lib.hid (fun _ => trivial)
    clear HR
    have hn1 : (n0 = 0 ∧ decide (0 < n0) = false) ∨ (0 < n0 ∧ decide (0 < n0) = true) := by
      rcases Nat.eq_zero_or_pos n0 with h | h
      · exact .inl ⟨h, by simp [h]⟩
      · exact .inr ⟨h, by simp [h]⟩
    have hcm2 := hcm
    unfold maxLen at hcm2
    clear hn0
    rcases hn1 with ⟨rfl, hd0⟩ | ⟨hpos, hd0⟩
    · clear hfirst
      have hl0 : l = [] := List.eq_nil_of_length_eq_zero Hn0.out
      have HZ := Lib.hid (show tkN l = (0, [], 10) by rw [hl0]; rfl)
      clear hl0
      go_enter Tryd.func99, Tryd.ntmps99
      go_wp2
      go_loop [5, 6] (fun n i => n = .int .i64 0 ∧ i = .int .i64 0) (fun _ _ => 0)
      case atStart => exact ⟨rfl, rfl⟩
      case round =>
        obtain ⟨rfl, rfl⟩ := hrel
        go_wp2
        go_returns
        rw [HZ.out]
        exact ⟨_, rfl, World.ownsRow_nil _ _ _ _, Below.refl _ _⟩
    · obtain ⟨b, o, ch, rfl, hb, hc, hne⟩ : ∃ (b o : Nat) (ch : UInt8), A = some ⟨b, o, none⟩ ∧ b < w.heap.size ∧ w.cell? ⟨b, o, none⟩ = some (.int .u8 ((UInt8.toNat ch : Nat) : Int)) ∧ (((UInt8.toNat ch : Nat) : Int) == 128) = false := by
        rcases hfirst with h | h
        · have := Hn0.out; rw [h] at this; simp at this; omega
        · exact h
      clear hfirst
      go_enter Tryd.func99, Tryd.ntmps99
      go_wp2
      clear hne hc
      go_loop [5, 6] (fun v5 v6 => ∃ (i n : Nat), i ≤ 5 ∧ i ≤ n0 ∧ v6 = .int .i64 i ∧ v5 = .int .i64 n ∧ n < 128 ^ i ∧ Hid (tkN l = tkGo (5 - i) n (l.drop i))) (fun _ v6 => 5 - (intOf v6).toNat)
      case atStart => exact ⟨0, 0, by omega, by omega, rfl, rfl, by simp, Lib.hid HT.out⟩
      case round =>
        obtain ⟨i, n, hi, hin, rfl, rfl, hn, hT⟩ := hrel
        by_cases hlt : i < n0 ∧ i < 5
        · obtain ⟨hlt, hi5⟩ := hlt
          obtain ⟨b', o', ch, he, hb', hc, hch, hlk⟩ := hA.byte (k := i) (by rw [Hn0.out]; exact hlt)
          simp only [Option.some.injEq, Addr.mk.injEq, and_true] at he
          obtain ⟨rfl, rfl⟩ := he
          clear hb'
          obtain ⟨k, hk⟩ : ∃ k, 5 - i = k + 1 := ⟨4 - i, by omega⟩
          have hik : 5 - (i + 1) = k := by omega
          have hdr : l.drop i = ch :: l.drop (i + 1) := by
            have hil : i < l.length := by rw [Hn0.out]; exact hlt
            rw [List.drop_eq_getElem_cons hil]
            congr 1
            rw [List.getElem?_eq_getElem hil] at hlk
            exact Option.some.inj hlk
          have hT1 := hT.out
          rw [hk, hdr] at hT1
          have hn4 : n < 4294967296 := Nat.lt_of_lt_of_le hn (Nat.le_trans (Nat.pow_le_pow_right (by omega) (show i ≤ 4 by omega)) (by decide))
          have hnz : n * 128 + ch.toNat % 128 < 128 ^ (i + 1) := by rw [Nat.pow_succ]; omega
          have Hnz := Lib.hid hnz
          have Hik := Lib.hid hik
          have t1 : (0 : Int) ≤ (i : Int) := by omega
          have t2 : (i : Int) < (n0 : Int) := by omega
          have t3 : (i : Int) < 5 := by omega
          clear hk hik hdr hlk hn hnz hT
          by_cases hm : 128 ≤ ch.toNat
          · rw [tkGo_more _ _ _ _ hm] at hT1
            have HT2 := Lib.hid hT1
            clear hT1
            have e1 : decide ((ch.toNat : Int) < 128) = false := by simp; omega
            go_wp2
            go_round
            case rel => exact ⟨i + 1, n * 128 + ch.toNat % 128, by omega, by omega, by go_num, by push_cast; rfl, Hnz.out, Lib.hid (by rw [HT2.out, Hik.out])⟩
            case measure => simp [intOf]; omega
          · have hlo : ch.toNat < 128 := by omega
            have e1 : decide ((ch.toNat : Int) < 128) = true := by simp; omega
            clear hm
            by_cases hbig : n * 128 + ch.toNat % 128 ≤ 1073741824
            · rw [tkGo_end _ _ _ _ hlo hbig] at hT1
              have HT2 := Lib.hid hT1
              clear hT1
              have HN := Lib.hid (show isN [(n : Int) * 128 + (ch.toNat : Int) % 128] = true by simp [isN, badN]; omega)
              have hrx : Rd (w.alloc (.cells #[.int .i64 ((n : Int) * 128 + (ch.toNat : Int) % 128)] 3)) (some ⟨w.heap.size, 0, none⟩) (ivs [(n : Int) * 128 + (ch.toNat : Int) % 128]) := Rd.new w _ _
              have hB1 : Below w.heap.size w (w.alloc (.cells #[.int .i64 ((n : Int) * 128 + (ch.toNat : Int) % 128)] 3)) := (Below.refl _ _).alloc (Nat.le_refl _) _
              have hown5 := World.ownsRow_lit (base := w.heap.size) (e := 5) (size := 1) (w.alloc (.cells #[.int .i64 ((n : Int) * 128 + (ch.toNat : Int) % 128)] 3)) #[] 0 hB1.size (by simp [maxLen]) rfl
              rw [World.size_alloc] at hown5
              have hsh := ((hA.cutF (k := i + 1) (c := c) (by rw [bvs_length, Hn0.out]; exact hlc)).below hB1).below ((Below.refl _ _).alloc (Nat.le_refl _) (.cells #[] 5))
              rw [← bvs_drop] at hsh
              simp only [Option.map_some] at hsh
              have hsl := cutB b o n0 c (i + 1) ((i : Int) + 1) (by omega) (by omega) hlc hcm
              obtain ⟨X, hX⟩ : ∃ X, (if c = i + 1 then some (⟨b, o, none⟩ : Addr) else some ⟨b, o + (i + 1), none⟩) = X := ⟨_, rfl⟩
              simp only [hX] at hsl hsh
              clear hX
              have Hl := Lib.hid (show (bvs (l.drop (i + 1))).length = (n0 - (i + 1)) * 1 by rw [bvs_length, List.length_drop, Hn0.out]; omega)
              have Hl2 := Lib.hid (show (l.drop (i + 1)).length = n0 - (i + 1) by rw [List.length_drop, Hn0.out])
              go_wp2_with (first | (go_at_call 82; refine (isR_n _ _ _ hrx).mono ?_; rintro e w1 ⟨rfl, rfl⟩; rw [HN.out]) | (at_builtin; refine list_append_rd (news := bvs (l.drop (i + 1))) rfl (.tmp 45) (.tmp 49) rfl elemB rfl hown5 rfl Hl.out hsh (bvs_one _) (by unfold maxLen; omega) (by omega) (by simp <;> omega) ?_; intro v' w' hown' hg hloc))
              go_returns
              rw [HT2.out]
              refine ⟨_, by push_cast; rfl, ?_, bGrow (hB1.alloc hB1.size _) hg (by simp <;> omega) hown5⟩
              dsimp only
              rw [Hl2.out]
              simpa using hown'
            · rw [tkGo_big _ _ _ _ hlo (by omega)] at hT1
              have HT2 := Lib.hid hT1
              clear hT1
              have HN := Lib.hid (show isN [(n : Int) * 128 + (ch.toNat : Int) % 128] = false by simp [isN, badN]; omega)
              have hrx : Rd (w.alloc (.cells #[.int .i64 ((n : Int) * 128 + (ch.toNat : Int) % 128)] 3)) (some ⟨w.heap.size, 0, none⟩) (ivs [(n : Int) * 128 + (ch.toNat : Int) % 128]) := Rd.new w _ _
              go_wp2_with (go_at_call 82; refine (isR_n _ _ _ hrx).mono ?_; rintro e w1 ⟨rfl, rfl⟩; rw [HN.out])
              go_returns
              rw [HT2.out]
              exact ⟨_, rfl, World.ownsRow_nil _ _ _ _, (Below.refl _ _).alloc (Nat.le_refl _) _⟩
        · by_cases h5 : n0 < 5
          · have hin2 : i = n0 := by omega
            have HZ := Lib.hid (show tkN l = (0, [], 10) by
              rw [hT.out, List.drop_eq_nil_of_le (by rw [Hn0.out]; omega)]
              obtain ⟨k, hk⟩ : ∃ k, 5 - i = k + 1 := ⟨4 - i, by omega⟩
              rw [hk]; rfl)
            subst hin2
            clear hT hn
            go_wp2
            go_returns
            rw [HZ.out]
            exact ⟨_, rfl, World.ownsRow_nil _ _ _ _, Below.refl _ _⟩
          · have hi5 : i = 5 := by omega
            subst hi5
            have HZ := Lib.hid (show tkN l = (0, [], 11) by rw [hT.out]; rfl)
            clear hT hn
            have t1 : (5 : Int) ≤ (n0 : Int) := by omega
            go_wp2
            all_goals
              go_returns
              rw [HZ.out]
              exact ⟨_, rfl, World.ownsRow_nil _ _ _ _, Below.refl _ _⟩
end Go.Proofs.YtofheinbbefbcaaDoor
/- The walks of the reference's numbers: TakeLong, Takes. -/
namespace Go.Proofs.YtofheinbbefbcaaDoor
open Go Go.RowKit Go.Shelf
set_option maxRecDepth 100000

set_option maxHeartbeats 2000000 in
theorem takesR_any (A : Option Addr) (c : Nat) (b : List UInt8) (m : Int) (hm : m ≤ 1000000) (hl : b.length ≤ 1000000) (w : World) (hA : Rd w A (bvs b)) (hlc : b.length ≤ c) (hcm : c ≤ maxLen) :
    Calls Tryd.prog 77 #[.slice A b.length c, .int .i64 m] w fun e w' => ∃ v u, e = .returned (.tuple #[v, u, .int .i64 (tksN b m.toNat).2.2]) ∧
      w'.ownsRow w.heap.size 3 1 v (tksN b m.toNat).1.length (ivs (tksN b m.toNat).1) ∧ w'.ownsRow w.heap.size 5 1 u (tksN b m.toNat).2.1.length (bvs (tksN b m.toNat).2.1) ∧ Below w.heap.size w w' := by
  obtain ⟨res, hres⟩ : ∃ r, r = tksN b m.toNat := ⟨_, rfl⟩
  rw [← hres]
  have H0 := Lib.hid hres
  clear hres
  go_enter Tryd.func77, Tryd.ntmps77
  have hown0 := World.ownsRow_lit (base := w.heap.size) (e := 5) (size := 1) w #[] 0 (Nat.le_refl _) (by simp [maxLen]) rfl
  have Hbl := Lib.hid (show (bvs b).length = b.length * 1 by rw [bvs_length]; omega)
  go_wp2_with (at_builtin; refine list_append_rd (news := bvs b) rfl (.tmp 13) (.tmp 14) rfl elemB rfl hown0 rfl Hbl.out (hA.below ((Below.refl _ _).alloc (Nat.le_refl _) (.cells #[] 5))) (bvs_one _) (by unfold maxLen; omega) (by omega) (by simp) ?_; intro v1 w1 hown1 hg1 _; have hB1 := bGrow ((Below.refl _ _).alloc (Nat.le_refl _) _) hg1 (by simp) hown0; clear hg1; rw [Nat.zero_add, List.nil_append] at hown1)
  obtain ⟨A1, c1, rfl, _⟩ := own_slice hown1
  go_loopw [7, 8, 9] (fun v5 v4 i wr => ∃ (k : Nat) (acc : List Int) (r : List UInt8), k ≤ m.toNat ∧ i = .int .i64 k ∧ Hid (acc.length = k) ∧ r.length ≤ 1000000 ∧ Hid (res = tksGo (m.toNat - k) acc r) ∧
      wr.ownsRow w.heap.size 3 1 v4 k (ivs acc) ∧ wr.ownsRow w.heap.size 5 1 v5 r.length (bvs r) ∧ Below w.heap.size w wr) (fun _ _ i _ => m.toNat - (intOf i).toNat)
  case atStart => exact ⟨0, [], b, by omega, rfl, Lib.hid rfl, hl, Lib.hid H0.out, World.ownsRow_nil _ _ _ _, hown1, hB1⟩
  case round =>
    obtain ⟨k, acc, r, hk, rfl, hak, hr, Hg, ho4, ho5, hB⟩ := hrel
    have hz := hB.size
    obtain ⟨A4, c4, rfl, _⟩ := own_slice ho4
    obtain ⟨A5, c5, rfl, h5c, h5m⟩ := own_slice ho5
    by_cases hlt : (k : Int) < m
    · obtain ⟨q, hq⟩ : ∃ q, m.toNat - k = q + 1 := ⟨m.toNat - k - 1, by omega⟩
      have hq2 : m.toNat - (k + 1) = q := by omega
      have hg := Hg.out
      rw [hq] at hg
      have hrd5 := Rd.of_own ho5
      have hlk := tkN_rest r
      by_cases he : (tkN r).2.2 = 0
      · have Hg2 := Lib.hid (hg.trans (tksGo_more q acc r he))
        have He := Lib.hid he
        have Htk := Lib.hid (takeR_any A5 _ c5 r rfl hr wr hrd5 h5c h5m)
        generalize tkN r = tk at *
        obtain ⟨x, r2, e2⟩ := tk
        dsimp only at *
        obtain rfl : e2 = 0 := He.out
        clear He hg he hrd5 hq ho5
        go_wp2_with (first | (go_at_call 99; refine Htk.out.mono ?_; rintro e w2 ⟨v2, rfl, hown2, hB2⟩; have hz2 := hB2.size; have ho4' := own_below ho4 hB2; have hlt4 := ho4.lt) | (at_builtin; refine list_append_rd (news := ivs [x]) rfl (.tmp 30) (.tmp 32) rfl elemI rfl (ho4'.alloc _) rfl rfl (Rd.new w2 [.int .i64 x] 3) (ivs_one _) (by unfold maxLen; omega) (by omega) (by simp; omega) ?_; intro v' w' hown' hg hloc))
        go_roundw
        case rel =>
          have hk3 : KeepB (fun b => (Value.slice A4 k c4).ownBlock ≠ some b) w2 w' := ((KeepB.refl _ w2).alloc _).grown hg (fun x hx _ hne => hne hx)
          have hb3 : Below w.heap.size w w' := bGrow ((bTr hB hB2).alloc (by omega) _) hg (by simp; omega) (ho4'.alloc _)
          have ho2 := own_keep hown2 hk3 (fun b hb he => by have h1 := (hown2.lt b hb).1; have h2 := (hlt4 b he).2; omega)
          refine ⟨k + 1, acc ++ [x], r2, by omega, by go_num, Lib.hid (by rw [List.length_append, hak.out]; rfl), by omega, Lib.hid (by rw [hq2]; exact Hg2.out), ?_, own_base ho2 hz, hb3⟩
          have : ivs (acc ++ [x]) = ivs acc ++ ivs [x] := by simp [ivs]
          rw [this]
          exact hown'
        case measure => simp [intOf]; omega
      · have Hg2 := Lib.hid (hg.trans (tksGo_bad q acc r he))
        have Htk := Lib.hid (takeR_any A5 _ c5 r rfl hr wr hrd5 h5c h5m)
        generalize tkN r = tk at *
        obtain ⟨x, r2, e2⟩ := tk
        dsimp only at *
        have hne : (e2 != 0) = true := by simpa using he
        clear hg he hrd5 hq ho5
        go_wp2_with (go_at_call 99; refine Htk.out.mono ?_; rintro e w2 ⟨v2, rfl, hown2, hB2⟩)
        go_returns
        rw [Hg2.out]
        exact ⟨_, _, rfl, World.ownsRow_nil _ _ _ _, World.ownsRow_nil _ _ _ _, bTr hB hB2⟩
    · have hkm : m.toNat - k = 0 := by omega
      have hg := Hg.out
      rw [hkm] at hg
      have Hg2 := Lib.hid (show res = (acc, r, 0) from hg)
      clear hg hkm
      go_wp2
      go_returns
      rw [Hg2.out]
      refine ⟨_, _, rfl, ?_, ho5, hB⟩
      dsimp only
      rw [hak.out]
      exact ho4
end Go.Proofs.YtofheinbbefbcaaDoor
/- What is put in short bytes is taken; long bytes stand in order: in plain Lean. -/
namespace Go.Proofs.YtofheinbbefbcaaDoor
open Go
set_option maxRecDepth 100000

theorem toB_cons (d : Nat) (l : List Nat) : toB (d :: l) = UInt8.ofNat d :: toB l := rfl
theorem ofN (d : Nat) (h : d < 256) : (UInt8.ofNat d).toNat = d := by simp [UInt8.toNat_ofNat', Nat.mod_eq_of_lt h]
theorem mod_join (n k : Nat) : n % 128 ^ (k + 1 + 1) = n / 128 ^ (k + 1) % 128 * 128 ^ (k + 1) + n % 128 ^ (k + 1) := by
  rw [Nat.pow_succ 128 (k + 1), Nat.mod_mul, Nat.add_comm, Nat.mul_comm]
theorem tkGo_short (r : List UInt8) (n : Nat) : ∀ (k j acc : Nat), k < j → acc * 128 ^ (k + 1) + n % 128 ^ (k + 1) ≤ 1073741824 →
    tkGo j acc (toB (marked (digs 128 k n)) ++ r) = (((acc * 128 ^ (k + 1) + n % 128 ^ (k + 1) : Nat) : Int), r, 0) := by
  intro k
  induction k with
  | zero =>
    intro j acc hj hv
    obtain ⟨j, rfl⟩ : ∃ i, j = i + 1 := ⟨j - 1, by omega⟩
    have hd : n % 128 < 128 := Nat.mod_lt _ (by omega)
    simp only [digs, marked, toB_cons, List.cons_append]
    simp only [Nat.zero_add, Nat.pow_one] at hv ⊢
    have e := ofN (n % 128) (by omega)
    rw [tkGo_end j acc _ _ (by rw [e]; exact hd) (by rw [e, Nat.mod_mod]; exact hv), e, Nat.mod_mod]
    rfl
  | succ k ih =>
    intro j acc hj hv
    obtain ⟨j, rfl⟩ : ∃ i, j = i + 1 := ⟨j - 1, by omega⟩
    have hd : n / 128 ^ (k + 1) % 128 < 128 := Nat.mod_lt _ (by omega)
    have hx : ∀ d : Nat, toB (marked (d :: digs 128 k n)) = UInt8.ofNat (d + 128) :: toB (marked (digs 128 k n)) := fun d => by
      cases hh : digs 128 k n with
      | nil => have := digs_length 128 k n; rw [hh] at this; simp at this
      | cons e l => rfl
    have e := ofN (n / 128 ^ (k + 1) % 128 + 128) (by omega)
    have hj2 := mod_join n k
    show tkGo (j + 1) acc (toB (marked (n / 128 ^ (k + 1) % 128 :: digs 128 k n)) ++ r) = _
    rw [hx, List.cons_append, tkGo_more _ _ _ _ (by rw [e]; omega), e]
    have e2 : acc * 128 ^ (k + 1 + 1) = acc * 128 * 128 ^ (k + 1) := by rw [Nat.pow_succ 128 (k + 1), Nat.mul_assoc, Nat.mul_comm (128 ^ (k + 1)) 128]
    have e3 : (n / 128 ^ (k + 1) % 128 + 128) % 128 = n / 128 ^ (k + 1) % 128 := by omega
    rw [e3]
    have e4 : (acc * 128 + n / 128 ^ (k + 1) % 128) * 128 ^ (k + 1) + n % 128 ^ (k + 1) = acc * 128 ^ (k + 1 + 1) + n % 128 ^ (k + 1 + 1) := by
      rw [e2, hj2, Nat.add_mul, Nat.add_assoc]
    rw [ih j _ (by omega) (by rw [e4]; exact hv), e4]
theorem short_head (n : Nat) (h : n ≤ 1073741824) (r : List UInt8) : (short1 n ++ r).head? ≠ some 128 := by
  unfold short1
  have hx : ∀ (k d : Nat), toB (marked (d :: digs 128 k n)) = UInt8.ofNat (d + 128) :: toB (marked (digs 128 k n)) := fun k d => by
    cases hh : digs 128 k n with
    | nil => have := digs_length 128 k n; rw [hh] at this; simp at this
    | cons e l => rfl
  cases hk : topK n with
  | zero =>
    simp only [digs, marked, toB_cons, List.cons_append, List.head?_cons, ne_eq, Option.some.injEq]
    intro e
    have := congrArg UInt8.toNat e
    rw [ofN _ (by omega)] at this
    simp at this
    omega
  | succ k =>
    show (toB (marked (n / 128 ^ (k + 1) % 128 :: digs 128 k n)) ++ r).head? ≠ _
    rw [hx]
    simp only [List.cons_append, List.head?_cons, ne_eq, Option.some.injEq]
    intro e
    have h1 := topK_ge n (by omega)
    have h2 := topK_lt n h
    rw [hk] at h1 h2
    have hp : 0 < 128 ^ (k + 1) := Nat.pow_pos (by omega)
    have h3 : 1 ≤ n / 128 ^ (k + 1) := (Nat.le_div_iff_mul_le hp).2 (by omega)
    have h4 : n / 128 ^ (k + 1) < 128 := (Nat.div_lt_iff_lt_mul hp).2 (by rw [Nat.pow_succ] at h2; omega)
    have := congrArg UInt8.toNat e
    rw [ofN _ (by omega)] at this
    simp at this
    omega
/-- What is put in short bytes is taken, whatever stands behind. -/
theorem tk_short (n : Nat) (h : n ≤ 1073741824) (r : List UInt8) : tkN (short1 n ++ r) = ((n : Int), r, 0) := by
  unfold tkN
  rw [if_neg (short_head n h r)]
  have hm : n % 128 ^ (topK n + 1) = n := Nat.mod_eq_of_lt (topK_lt n h)
  have := tkGo_short r n (topK n) 5 0 (by have := topK_le n; omega) (by rw [hm]; omega)
  rw [hm] at this
  simpa [short1] using this
theorem short_len (n : Nat) : (short1 n).length = topK n + 1 := by
  have h : ∀ l : List Nat, (marked l).length = l.length := by
    intro l
    induction l with
    | nil => rfl
    | cons d l ih => cases l with
      | nil => rfl
      | cons e l => simp only [marked, List.length_cons] at ih ⊢; omega
  simp [short1, toB, h, digs_length]
end Go.Proofs.YtofheinbbefbcaaDoor
/- What is taken is put as the bytes that were there: in plain Lean. -/
namespace Go.Proofs.YtofheinbbefbcaaDoor
open Go
set_option maxRecDepth 100000

theorem ofNat_toNat' (c : UInt8) : UInt8.ofNat c.toNat = c := by simp
theorem marked_two (k d n : Nat) : toB (marked (d :: digs 128 k n)) = UInt8.ofNat (d + 128) :: toB (marked (digs 128 k n)) := by
  cases hh : digs 128 k n with
  | nil => have := digs_length 128 k n; rw [hh] at this; simp at this
  | cons e l => rfl
theorem tkGo_inv : ∀ (k n : Nat) (l : List UInt8) (x : Int) (r : List UInt8), tkGo k n l = (x, r, 0) →
    ∃ X j : Nat, x = X ∧ X ≤ 1073741824 ∧ j < k ∧ X / 128 ^ (j + 1) = n ∧ l = toB (marked (digs 128 j X)) ++ r
  | 0, n, l, x, r, h => by simp [tkGo] at h
  | k + 1, n, [], x, r, h => by simp [tkGo] at h
  | k + 1, n, c :: m, x, r, h => by
    have hc := c.toNat_lt
    by_cases h1 : 128 ≤ c.toNat
    · rw [tkGo_more k n c m h1] at h
      obtain ⟨X, j, rfl, hX, hj, hq, rfl⟩ := tkGo_inv k _ m x r h
      have e1 : X / 128 ^ (j + 1 + 1) = n := by rw [Nat.pow_succ 128 (j + 1), ← Nat.div_div_eq_div_mul, hq]; omega
      refine ⟨X, j + 1, rfl, hX, by omega, e1, ?_⟩
      show _ = toB (marked (X / 128 ^ (j + 1) % 128 :: digs 128 j X)) ++ r
      rw [marked_two, hq, List.cons_append]
      have e2 : (n * 128 + c.toNat % 128) % 128 + 128 = c.toNat := by omega
      rw [e2, ofNat_toNat']
    · by_cases h2 : n * 128 + c.toNat % 128 ≤ 1073741824
      · rw [tkGo_end k n c m (by omega) h2] at h
        injection h with h3 h4
        injection h4 with h4 _
        subst h3 h4
        refine ⟨_, 0, rfl, h2, by omega, by simp; omega, ?_⟩
        have e2 : (n * 128 + c.toNat % 128) % 128 = c.toNat := by omega
        simp only [digs, marked, toB_cons, e2, ofNat_toNat']
        rfl
      · rw [tkGo_big k n c m (by omega) (by omega)] at h
        injection h with _ h4
        injection h4 with _ h5
        cases h5
theorem topK_of (X j : Nat) (hj : j < 5) (h1 : 0 < j → 128 ^ j ≤ X) (h2 : X < 128 ^ (j + 1)) : topK X = j := by
  have : j = 0 ∨ j = 1 ∨ j = 2 ∨ j = 3 ∨ j = 4 := by omega
  unfold topK
  rcases this with rfl | rfl | rfl | rfl | rfl <;> simp at h1 h2 <;> (repeat' split) <;> omega
/-- What is taken of short bytes is what they are put as. -/
theorem tk_inv (l : List UInt8) (x : Int) (r : List UInt8) (h : tkN l = (x, r, 0)) : ∃ X : Nat, x = X ∧ X ≤ 1073741824 ∧ l = short1 X ++ r := by
  unfold tkN at h
  split at h
  · injection h with _ h4; injection h4 with _ h5; cases h5
  · rename_i hh
    obtain ⟨X, j, rfl, hX, hj, hq, rfl⟩ := tkGo_inv 5 0 l x r h
    refine ⟨X, rfl, hX, ?_⟩
    have hp : 0 < 128 ^ (j + 1) := Nat.pow_pos (by omega)
    have hlt : X < 128 ^ (j + 1) := by
      have := (Nat.div_eq_zero_iff (a := X) (b := 128 ^ (j + 1))).1 hq
      omega
    have hk : topK X = j := by
      refine topK_of X j hj (fun h0 => ?_) hlt
      obtain ⟨i, rfl⟩ : ∃ i, j = i + 1 := ⟨j - 1, by omega⟩
      rcases Nat.lt_or_ge X (128 ^ (i + 1)) with hl | hl
      · exfalso
        refine hh ?_
        show (toB (marked (X / 128 ^ (i + 1) % 128 :: digs 128 i X)) ++ r).head? = _
        rw [marked_two, Nat.div_eq_of_lt hl]
        rfl
      · exact hl
    rw [short1, hk]
end Go.Proofs.YtofheinbbefbcaaDoor
/- The walks of the reference's numbers: Long, Short. -/
namespace Go.Proofs.YtofheinbbefbcaaDoor
open Go Go.RowKit Go.Shelf
set_option maxRecDepth 100000

theorem marked_cells (m j : Nat) (q : Nat) (hq : q = m / 128 ^ (j + 1)) : bvs (toB (marked (digs 128 (j + 1) m))) = .int .u8 ((q : Int) % 128 + 128) :: bvs (toB (marked (digs 128 j m))) := by
  show bvs (toB (marked (m / 128 ^ (j + 1) % 128 :: digs 128 j m))) = _
  rw [marked_two, ← hq]
  show bv (UInt8.ofNat (q % 128 + 128)) :: _ = _
  rw [toB_bv _ (by omega)]
  rfl
theorem marked_len (k n : Nat) : (toB (marked (digs 128 k n))).length = k + 1 := by rw [marked_eq]; simp [toB, digs_length]
set_option maxRecDepth 100000 in
set_option maxHeartbeats 4000000 in
theorem shortR2_any (A : Option Addr) (n c : Nat) (l : List Int) (hn : l.length = n) (hl : n ≤ 100000) (w : World) (hA : Rd w A (ivs l)) :
    Calls Tryd.prog 74 #[.slice A n c] w fun e w' => ∃ v, e = .returned (.tuple #[v, .int .i64 (errN l)]) ∧
      w'.ownsRow w.heap.size 5 1 v (shortR l).length (bvs (shortR l)) ∧ Below w.heap.size w w' := by
  have Hn := Lib.hid hn
  have HIs := Lib.hid (isR_any A n c l hn.symm (by omega) w hA)
  clear hn
  cases hN : isN l with
  | false =>
    rw [hN] at HIs
    have Hg := Lib.hid (show shortR l = [] from if_neg (by rw [hN]; simp))
    have He := Lib.hid (show errN l = 2 from if_neg (by rw [hN]; simp))
    clear hN
    go_enter Tryd.func74, Tryd.ntmps74
    go_wp2_with (go_at_call 82; refine HIs.out.mono ?_; rintro e w1 ⟨rfl, rfl⟩)
    go_returns
    rw [Hg.out, He.out]
    exact ⟨_, rfl, World.ownsRow_nil _ _ _ _, Below.refl _ _⟩
  | true =>
    rw [hN] at HIs
    have HN := Lib.hid hN
    have Hg := Lib.hid (show shortR l = shortL l from if_pos hN)
    have He := Lib.hid (show errN l = 0 from if_pos hN)
    clear hN
    go_enter Tryd.func74, Tryd.ntmps74
    go_wp2_with (go_at_call 82; refine HIs.out.mono ?_; rintro e w1 ⟨rfl, rfl⟩)
    go_loopw [4, 5] (fun v4 i wr => ∃ (k z : Nat), k ≤ n ∧ i = .int .i64 k ∧ Hid ((shortL (l.take k)).length = z) ∧ z ≤ 5 * k ∧ wr.ownsRow w1.heap.size 5 1 v4 z (bvs (shortL (l.take k))) ∧ Below w1.heap.size w1 wr) (fun _ i _ => n - (intOf i).toNat)
    case atStart => exact ⟨0, 0, by omega, rfl, Lib.hid rfl, by omega, World.ownsRow_nil _ _ _ _, Below.refl _ _⟩
    case round =>
      obtain ⟨k, z, hk, rfl, Hz, hzk, hown, hB⟩ := hrel
      have hzz := hB.size
      obtain ⟨A4, c4, rfl, h4⟩ := own_slice hown
      by_cases hlt : k < n
      · obtain ⟨b, o, x, rfl, hb, hc, hx⟩ := (hA.below hB).int (k := k) (by rw [Hn.out]; exact hlt)
        have hxn := isN_at HN.out hx
        obtain ⟨m, rfl⟩ := Int.eq_ofNat_of_zero_le hxn.1
        have hm : m ≤ 1073741824 := by omega
        have Hs := Lib.hid (show shortL (l.take (k + 1)) = shortL (l.take k) ++ short1 m by
          unfold shortL; rw [List.take_add_one, hx]; simp)
        have b0 : 0 ≤ (m : Int) % 128 ∧ (m : Int) % 128 < 128 := by omega
        have b1 : 0 ≤ (m : Int) / 128 := by omega
        clear hx hxn
        obtain ⟨wo, rfl⟩ : ∃ wo, wo = wr := ⟨_, rfl⟩
        have hown1 := World.ownsRow_lit (base := wo.heap.size) (e := 5) (size := 1) wo #[.int .u8 ((m : Int) % 128)] 1 (Nat.le_refl _) (by simp [maxLen]) rfl
        go_wp2_with fail
        have hm0 : bvs (toB (marked (digs 128 0 m))) = [.int .u8 ((m : Int) % 128)] := by
          show [bv (UInt8.ofNat (m % 128))] = _
          rw [toB_bv _ (by omega)]; rfl
        go_loopw [6, 7] (fun v6 v7 wr => ∃ (j q : Nat), v7 = .int .i64 q ∧ j < 5 ∧ Hid (q = m / 128 ^ (j + 1)) ∧ Hid (0 < j → 128 ^ j ≤ m) ∧ wr.ownsRow wo.heap.size 5 1 v6 (j + 1) (bvs (toB (marked (digs 128 j m)))) ∧ Below wo.heap.size wo wr) (fun _ v7 _ => (intOf v7).toNat)
        case atStart => exact ⟨0, m / 128, by push_cast; rfl, by omega, Lib.hid (by simp), Lib.hid (fun h => by omega), by rw [hm0]; exact hown1, (Below.refl _ _).alloc (Nat.le_refl _) _⟩
        case round =>
          clear hm0 hown1
          obtain ⟨j, q, rfl, hj, Hq, Hj, hown6, hBi⟩ := hrel
          have hzi := hBi.size
          have hqm : q ≤ 1073741824 := by rw [Hq.out]; exact Nat.le_trans (Nat.div_le_self _ _) hm
          obtain ⟨A6, c6, rfl, h6⟩ := own_slice hown6
          by_cases hq0 : 0 < q
          · have hcell := marked_cells m j q Hq.out
            have HC := Lib.hid hcell
            have Hj2 := Lib.hid (show 128 ^ (j + 1) ≤ m by
              have := Hq.out
              have hp : 0 < 128 ^ (j + 1) := Nat.pow_pos (by omega)
              have h1 : 1 ≤ m / 128 ^ (j + 1) := by omega
              have := (Nat.le_div_iff_mul_le hp).1 h1
              omega)
            have hj4 : j + 1 < 5 := by
              have h1 := Hj2.out
              rcases Nat.lt_or_ge (j + 1) 5 with h | h
              · exact h
              · exfalso
                obtain rfl : j = 4 := by omega
                simp at h1; omega
            have Hq2 := Lib.hid (show q / 128 = m / 128 ^ (j + 1 + 1) by rw [Hq.out, Nat.div_div_eq_div_mul, ← Nat.pow_succ])
            have c0 : 0 ≤ (q : Int) % 128 + 128 ∧ (q : Int) % 128 + 128 < 256 := by omega
            have c1 : (0 : Int) < (q : Int) := by omega
            have hown2 := World.ownsRow_lit (base := wo.heap.size) (e := 5) (size := 1) wr #[.int .u8 ((q : Int) % 128 + 128)] 1 hzi (by simp [maxLen]) rfl
            have hr6 := (Rd.of_own hown6).below ((Below.refl wr.heap.size wr).alloc (Nat.le_refl _) (.cells #[.int .u8 ((q : Int) % 128 + 128)] 5))
            have Hl6 := Lib.hid (show (bvs (toB (marked (digs 128 j m)))).length = (j + 1) * 1 by rw [bvs_length, marked_len]; omega)
            clear hcell
            go_wp2_with (at_builtin; refine list_append_rd (news := bvs (toB (marked (digs 128 j m)))) rfl (.tmp 37) (.tmp 38) rfl elemB rfl hown2 rfl Hl6.out hr6 (bvs_one _) (by unfold maxLen; omega) (by omega) (by simp; omega) ?_; intro v' w' hown' hg hloc)
            go_roundw
            case rel => exact ⟨j + 1, q / 128, by push_cast; rfl, hj4, Lib.hid Hq2.out, Lib.hid (fun _ => Hj2.out), by rw [HC.out, Nat.add_comm (j + 1) 1]; exact hown', bGrow (hBi.alloc hzi _) hg (by simp; omega) hown2⟩
            case measure => simp [intOf]; omega
          · obtain rfl : q = 0 := by omega
            have HK := Lib.hid (show topK m = j from topK_of m j hj Hj.out (by
              have := Hq.out
              have hp : 0 < 128 ^ (j + 1) := Nat.pow_pos (by omega)
              have := (Nat.div_eq_zero_iff (a := m) (b := 128 ^ (j + 1))).1 this.symm
              omega))
            have HSh := Lib.hid (show toB (marked (digs 128 j m)) = short1 m by rw [short1, HK.out])
            rw [HSh.out] at hown6
            have hr6 := Rd.of_own hown6
            have hown4 := own_below hown hBi
            have Hl6 := Lib.hid (show (bvs (short1 m)).length = (j + 1) * 1 by rw [bvs_length, short_len, HK.out]; omega)
            go_wp2_with (at_builtin; refine list_append_rd (news := bvs (short1 m)) rfl (.tmp 40) (.tmp 41) rfl elemB rfl hown4 rfl Hl6.out hr6 (bvs_one _) (by unfold maxLen; omega) (by omega) (by omega) ?_; intro v' w' hown' hg hloc)
            go_roundw
            case rel => exact ⟨k + 1, z + (j + 1), by omega, by go_num, Lib.hid (by rw [Hs.out, List.length_append, Hz.out, short_len, HK.out]), by omega, by rw [Hs.out, bvs_append]; exact hown', bGrow (bTr hB hBi) hg (by omega) hown4⟩
            case measure => simp [intOf]; omega
      · obtain rfl : k = n := by omega
        have Ht := Lib.hid (show shortL (l.take k) = shortL l by rw [List.take_of_length_le (by rw [Hn.out]; omega)])
        rw [Ht.out] at hown Hz
        go_wp2
        go_returns
        rw [Hg.out, He.out, Hz.out]
        exact ⟨_, rfl, hown, hB⟩
end Go.Proofs.YtofheinbbefbcaaDoor
/- Plain law of the sum of bytes: steps, sums, their linearity; no program in sight. -/
namespace Go.Proofs.YtofheinbbefbcaaDoor

def tabL : List Nat := [0x00000000, 0x105ec76f, 0x20bd8ede, 0x30e349b1, 0x417b1dbc, 0x5125dad3, 0x61c69362, 0x7198540d, 0x82f63b78, 0x92a8fc17, 0xa24bb5a6, 0xb21572c9, 0xc38d26c4, 0xd3d3e1ab, 0xe330a81a, 0xf36e6f75]
def tab (i : Nat) : Nat := tabL.getD i 0
def stepN (s h : Nat) : Nat := tab ((s ^^^ h) &&& 15) ^^^ (s / 16)
def inv32 (s : Nat) : Nat := 4294967295 - s

theorem tab_lt (i : Nat) : tab i < 4294967296 := by
  unfold tab
  rcases Nat.lt_or_ge i 16 with h | h
  · have : ∀ j, j < 16 → tabL.getD j 0 < 4294967296 := by decide
    exact this i h
  · rw [List.getD_eq_getElem?_getD, List.getElem?_eq_none (by simpa [tabL] using h)]
    decide

theorem stepN_lt (s h : Nat) (hs : s < 4294967296) : stepN s h < 4294967296 :=
  Nat.xor_lt_two_pow (n := 32) (tab_lt _) (by omega)

/-- One bit's step, as the reference has it. -/
def bitN (s : Nat) : Nat := if s % 2 = 1 then (s / 2) ^^^ 0x82f63b78 else s / 2

theorem xor_div2 (a b : Nat) : (a ^^^ b) / 2 = (a / 2) ^^^ (b / 2) := Nat.xor_div_two
theorem xor_mod2 (a b : Nat) : (a ^^^ b) % 2 = (a % 2) ^^^ (b % 2) := by
  have := @Nat.xor_mod_two_pow a b 1
  simpa using this
theorem xor_mod_two_cases (a b : Nat) : (a ^^^ b) % 2 = (a % 2 + b % 2) % 2 := by
  rw [xor_mod2]
  rcases Nat.mod_two_eq_zero_or_one a with h | h <;> rcases Nat.mod_two_eq_zero_or_one b with h' | h' <;> rw [h, h'] <;> rfl

theorem bitN_xor (a b : Nat) : bitN (a ^^^ b) = bitN a ^^^ bitN b := by
  unfold bitN
  rw [xor_mod_two_cases, xor_div2]
  rcases Nat.mod_two_eq_zero_or_one a with h | h <;> rcases Nat.mod_two_eq_zero_or_one b with h' | h' <;> rw [h, h'] <;> simp
  · simp [Nat.xor_assoc]
  · ac_rfl
  · rw [show a / 2 ^^^ 2197175160 ^^^ (b / 2 ^^^ 2197175160) = (a / 2 ^^^ b / 2) ^^^ (2197175160 ^^^ 2197175160) from by ac_rfl, Nat.xor_self, Nat.xor_zero]

def bit4 (s : Nat) : Nat := bitN (bitN (bitN (bitN s)))
theorem bit4_xor (a b : Nat) : bit4 (a ^^^ b) = bit4 a ^^^ bit4 b := by simp only [bit4, bitN_xor]
theorem bit4_mul (q : Nat) : bit4 (16 * q) = q := by
  have h1 : bitN (16 * q) = 8 * q := by unfold bitN; rw [if_neg (by omega)]; omega
  have h2 : bitN (8 * q) = 4 * q := by unfold bitN; rw [if_neg (by omega)]; omega
  have h3 : bitN (4 * q) = 2 * q := by unfold bitN; rw [if_neg (by omega)]; omega
  have h4 : bitN (2 * q) = q := by unfold bitN; rw [if_neg (by omega)]; omega
  simp only [bit4, h1, h2, h3, h4]
theorem bit4_low : ∀ r, r < 16 → bit4 r = tab r := by decide

theorem split16 (x : Nat) : x = (16 * (x / 16)) ^^^ (x % 16) := by
  have h := Nat.two_pow_add_eq_or_of_lt (i := 4) (b := x % 16) (by omega) (x / 16)
  have h2 : 2 ^ 4 * (x / 16) + x % 16 = x := by omega
  rw [h2] at h
  apply Nat.eq_of_testBit_eq
  intro i
  rw [Nat.testBit_xor]
  have h16 : (16 * (x / 16)) = 2 ^ 4 * (x / 16) := by omega
  rw [h16, Nat.testBit_two_pow_mul]
  have : x % 16 = x % 2 ^ 4 := rfl
  rw [this, Nat.testBit_mod_two_pow]
  by_cases hi : i < 4
  · simp [hi, Nat.not_le.2 hi]
  · have hi' : 4 ≤ i := by omega
    simp only [hi', decide_true, Bool.true_and, hi, decide_false, Bool.false_and, Bool.xor_false]
    rw [show x / 16 = x / 2 ^ 4 from rfl, Nat.testBit_div_two_pow]
    congr 1; omega

theorem and15 (x : Nat) : x &&& 15 = x % 16 := Nat.and_two_pow_sub_one_eq_mod x 4
theorem xor_div16 (a b : Nat) : (a ^^^ b) / 16 = (a / 16) ^^^ (b / 16) := by
  have := @Nat.xor_div_two_pow a b 4
  simpa using this
theorem xor_mod16 (a b : Nat) : (a ^^^ b) % 16 = (a % 16) ^^^ (b % 16) := by
  have := @Nat.xor_mod_two_pow a b 4
  simpa using this

/-- A step of a sum is a step of what it is with the half put to it. -/
theorem stepN_eq (s h : Nat) : stepN s h = bit4 (s ^^^ (h % 16)) := by
  rw [split16 (s ^^^ (h % 16)), bit4_xor, bit4_mul, bit4_low _ (Nat.mod_lt _ (by omega))]
  unfold stepN
  rw [and15, xor_div16, Nat.div_eq_of_lt (Nat.mod_lt h (by omega : 16 > 0)), Nat.xor_zero, Nat.xor_comm, xor_mod16, xor_mod16 s (h % 16), Nat.mod_mod]

def byteN (s : Nat) (c : UInt8) : Nat := stepN (stepN s (c.toNat % 16)) (c.toNat / 16)
def runN (s : Nat) (l : List UInt8) : Nat := l.foldl byteN s
def nextN (s : Nat) (l : List UInt8) : Nat := inv32 (runN (inv32 s) l)
def sumN (ls : List (List UInt8)) : Nat := ls.foldl nextN 0
def fourN (s : Nat) : List UInt8 := [UInt8.ofNat s, UInt8.ofNat (s / 256), UInt8.ofNat (s / 65536), UInt8.ofNat (s / 16777216)]
def putN (l : List UInt8) : List UInt8 := l ++ fourN (nextN 0 l)
/-- What is taken: the bytes ahead of the sum, if it is theirs. -/
def takeN (l : List UInt8) : Option (List UInt8) :=
  if l.length < 4 then none
  else if fourN (nextN 0 (l.take (l.length - 4))) = l.drop (l.length - 4) then some (l.take (l.length - 4)) else none

theorem byteN_lt (s : Nat) (c : UInt8) (h : s < 4294967296) : byteN s c < 4294967296 := stepN_lt _ _ (stepN_lt _ _ h)
theorem runN_lt (l : List UInt8) : ∀ s, s < 4294967296 → runN s l < 4294967296 := by
  induction l with
  | nil => intro s h; exact h
  | cons c l ih => intro s h; exact ih _ (byteN_lt s c h)
theorem inv32_lt (s : Nat) : inv32 s < 4294967296 := by unfold inv32; omega
theorem nextN_lt (s : Nat) (l : List UInt8) : nextN s l < 4294967296 := inv32_lt _
theorem sumN_lt (ls : List (List UInt8)) : sumN ls < 4294967296 := by
  unfold sumN
  suffices ∀ s, s < 4294967296 → ls.foldl nextN s < 4294967296 from this 0 (by decide)
  induction ls with
  | nil => intro s h; exact h
  | cons l ls ih => intro s h; exact ih _ (nextN_lt _ _)
theorem runN_append (s : Nat) (l m : List UInt8) : runN s (l ++ m) = runN (runN s l) m := by simp [runN]
end Go.Proofs.YtofheinbbefbcaaDoor
/- The walks of the sum of bytes. -/
namespace Go.Proofs.YtofheinbbefbcaaDoor
open Go Go.RowKit
set_option maxRecDepth 100000

/-- The table as it lies in memory. -/
def RowsOK (w : World) : Prop := ∀ i, i < 16 → w.cell? ⟨0, i, none⟩ = some (.int .u32 (tab i : Nat))

set_option maxHeartbeats 400000 in
theorem step_any (s h : Nat) (h1 : s < 4294967296) (h3 : h < 256) (w : World) (hr : RowsOK w) :
    Calls Tryd.prog 111 #[.int .u32 s, .int .u8 h] w fun e w' => e = .returned (.int .u32 (stepN s h : Nat)) ∧ w = w' := by
  have e1 : bits BinOp.xor IntKind.u32 (s : Int) (h : Int) = ((s ^^^ h : Nat) : Int) := u32_xor_nat s h h1 (by omega)
  have hx : s ^^^ h < 2 ^ 32 := Nat.xor_lt_two_pow (by omega) (by omega)
  have e2 : bits BinOp.and IntKind.u32 ((s ^^^ h : Nat) : Int) 15 = (((s ^^^ h) &&& 15 : Nat) : Int) := u32_and_nat (s ^^^ h) 15 (by omega) (by omega)
  have hy : (s ^^^ h) &&& 15 < 16 := by rw [nat_mask4]; omega
  have hc := hr _ hy
  have e3 := Lib.hid (show bits BinOp.xor IntKind.u32 ((tab ((s ^^^ h) &&& 15) : Nat) : Int) ((s / 16 : Nat) : Int) = ((tab ((s ^^^ h) &&& 15) ^^^ (s / 16) : Nat) : Int) from u32_xor_nat _ _ (tab_lt _) (by omega))
  go_enter Tryd.func111, Tryd.ntmps111
  go_wp2
  go_ret
  exact ⟨ret_int e3.out, rfl⟩

def bitIter : Nat → Nat → Nat
  | 0, s => s
  | k + 1, s => bitN (bitIter k s)
theorem bitIter_lt (s : Nat) (h : s < 4294967296) : ∀ k, bitIter k s < 4294967296
  | 0 => h
  | k + 1 => by
    have := bitIter_lt s h k
    show bitN _ < _
    unfold bitN
    split
    · exact Nat.xor_lt_two_pow (n := 32) (by omega) (by decide)
    · omega

set_option maxHeartbeats 400000 in
theorem stepR_any (s h : Nat) (h1 : s < 4294967296) (h3 : h < 256) (w : World) :
    Calls Tryd.prog 113 #[.int .u32 s, .int .u8 h] w fun e w' => e = .returned (.int .u32 (stepN s h : Nat)) ∧ w = w' := by
  have e1 : bits BinOp.xor IntKind.u32 (s : Int) ((h : Int) % 16) = ((s ^^^ (h % 16) : Nat) : Int) := by
    rw [show ((h : Int) % 16) = ((h % 16 : Nat) : Int) from by omega]; exact u32_xor_nat s _ h1 (by omega)
  have hx : s ^^^ (h % 16) < 2 ^ 32 := Nat.xor_lt_two_pow (by omega) (by omega)
  have hfin := Lib.hid (stepN_eq s h)
  obtain ⟨x, hxx⟩ : ∃ x, x = s ^^^ (h % 16) := ⟨_, rfl⟩
  rw [← hxx] at e1 hx hfin
  clear hxx
  go_enter Tryd.func113, Tryd.ntmps113
  go_wp2
  clear e1
  go_loop [0, 5, 6] (fun t i _ => ∃ k : Nat, k ≤ 4 ∧ i = .int .i64 k ∧ t = .int .u32 (bitIter k x : Nat)) (fun _ i _ => 4 - (intOf i).toNat)
  case atStart => exact ⟨0, by omega, rfl, rfl⟩
  case round =>
    obtain ⟨k, hk, rfl, rfl⟩ := hrel
    have hlt := bitIter_lt x (by omega) k
    have hs : bitIter (k + 1) x = bitN (bitIter k x) := rfl
    have Hs := Lib.hid hs
    clear hs
    by_cases hk4 : k < 4
    · obtain ⟨y, hy⟩ : ∃ y, y = bitIter k x := ⟨_, rfl⟩
      rw [← hy] at Hs hlt ⊢
      clear hy
      by_cases hodd : y % 2 = 1
      · have o1 : (((y : Int) % 2) == 1) = true := by simp; omega
        have e3 : bits BinOp.xor IntKind.u32 ((y : Int) / 2) 2197175160 = (((y / 2) ^^^ 2197175160 : Nat) : Int) := by
          rw [show ((y : Int) / 2) = ((y / 2 : Nat) : Int) from by omega]; exact u32_xor_nat _ 2197175160 (by omega) (by decide)
        have Hb := Lib.hid (show bitN y = (y / 2) ^^^ 2197175160 from by unfold bitN; rw [if_pos hodd])
        clear hodd
        go_wp2
        go_round
        case rel => exact ⟨k + 1, by omega, by go_num, by rw [Hs.out, Hb.out]⟩
        case measure => simp [intOf]; omega
      · have o1 : (((y : Int) % 2) == 1) = false := by simp; omega
        have Hb := Lib.hid (show bitN y = (y / 2) from by unfold bitN; rw [if_neg hodd])
        clear hodd
        go_wp2
        go_round
        case rel => exact ⟨k + 1, by omega, by go_num, by rw [Hs.out, Hb.out]; simp⟩
        case measure => simp [intOf]; omega
    · go_wp2
      go_ret
      obtain rfl : k = 4 := by omega
      exact ⟨ret_int (by rw [hfin.out]; rfl), rfl⟩

/-- The same at whatever numbers stand at the call. -/
theorem stepR_i (s h : Int) (a b : Nat) (hs : s = a) (hh : h = b) (h1 : a < 4294967296) (h3 : b < 256) (w : World) :
    Calls Tryd.prog 113 #[.int .u32 s, .int .u8 h] w fun e w' => e = .returned (.int .u32 (stepN a b : Nat)) ∧ w' = w := by
  subst hs; subst hh
  exact (stepR_any a b h1 h3 w).mono fun _ _ ⟨h, h'⟩ => ⟨h, h'.symm⟩
theorem step_i (s h : Int) (a b : Nat) (hs : s = a) (hh : h = b) (h1 : a < 4294967296) (h3 : b < 256) (w : World) (hr : RowsOK w) :
    Calls Tryd.prog 111 #[.int .u32 s, .int .u8 h] w fun e w' => e = .returned (.int .u32 (stepN a b : Nat)) ∧ w' = w := by
  subst hs; subst hh
  exact (step_any a b h1 h3 w hr).mono fun _ _ ⟨h, h'⟩ => ⟨h, h'.symm⟩
end Go.Proofs.YtofheinbbefbcaaDoor
/- The walks of the sum of bytes: the reference's Next and Sum. -/
namespace Go.Proofs.YtofheinbbefbcaaDoor
open Go Go.RowKit
set_option maxRecDepth 100000

theorem take_snoc {α : Type} (l : List α) (k : Nat) (u : α) (h : l[k]? = some u) : l.take (k + 1) = l.take k ++ [u] := by
  rw [List.take_add_one, h]; rfl

theorem Rd.cbyte {w : World} {A : Option Addr} {l : List UInt8} (h : Rd w A (bvs l)) {k : Nat} (hk : k < l.length) :
    ∃ b o c, A = some ⟨b, o, none⟩ ∧ b < w.heap.size ∧ w.cell? ⟨b, o + k, none⟩ = some (.int .u8 ((UInt8.toNat c : Nat) : Int)) ∧ c.toNat < 256 ∧ l[k]? = some c := by
  have hu : (bvs l)[k]? = some (bv l[k]) := by simp [bvs, hk]
  obtain ⟨b, o, e, hb, hc⟩ := h k _ hu
  exact ⟨b, o, l[k], e, hb, hc, l[k].toNat_lt, by simp [hk]⟩

theorem inv_bits (s : Nat) (h : s < 4294967296) : bits BinOp.xor IntKind.u32 IntKind.u32.max (s : Int) = ((inv32 s : Nat) : Int) := by
  have e : IntKind.u32.max = ((4294967295 : Nat) : Int) := by decide
  rw [e, u32_xor_nat _ _ (by decide) h]
  have h1 : (4294967295 : Nat) ^^^ s = (BitVec.allOnes 32 ^^^ BitVec.ofNat 32 s).toNat := by
    rw [BitVec.toNat_xor, BitVec.toNat_allOnes, BitVec.toNat_ofNat, Nat.mod_eq_of_lt h]
  rw [h1, BitVec.allOnes_xor, BitVec.toNat_not, BitVec.toNat_ofNat, Nat.mod_eq_of_lt h]
  rfl

set_option maxHeartbeats 400000 in
theorem cnextR_any (s : Nat) (h1 : s < 4294967296) (A : Option Addr) (c : Nat) (l : List UInt8) (hl : l.length ≤ maxLen) (w : World) (hA : Rd w A (bvs l)) :
    Calls Tryd.prog 109 #[.int .u32 s, .slice A l.length c] w fun e w' => e = .returned (.int .u32 (nextN s l : Nat)) ∧ Below w.heap.size w w' := by
  unfold maxLen at hl
  have hfin := Lib.hid (show nextN s l = inv32 (runN (inv32 s) l) from rfl)
  have hi := inv32_lt s
  have e1 := inv_bits s h1
  obtain ⟨x, hx⟩ : ∃ x, x = inv32 s := ⟨_, rfl⟩
  rw [← hx] at hi hfin e1
  clear hx
  go_enter Tryd.func109, Tryd.ntmps109
  go_wp2
  clear e1
  go_loopw [0, 5] (fun t i wr => ∃ k : Nat, k ≤ l.length ∧ i = .int .i64 k ∧ t = .int .u32 (runN x (l.take k) : Nat) ∧ Below w.heap.size w wr) (fun _ i _ => l.length - (intOf i).toNat)
  case atStart => exact ⟨0, by omega, rfl, rfl, Below.refl _ _⟩
  case round =>
    obtain ⟨k, hk, rfl, rfl, hB⟩ := hrel
    have hlt := runN_lt (l.take k) x hi
    by_cases hk4 : k < l.length
    · have hA' := hA.below hB
      obtain ⟨b, o, ch, rfl, hb, hc, hch, hlk⟩ := hA'.cbyte hk4
      have Hs := Lib.hid (show runN x (l.take (k + 1)) = stepN (stepN (runN x (l.take k)) (ch.toNat % 16)) (ch.toNat / 16) from by rw [take_snoc l k ch hlk, runN_append]; rfl)
      clear hlk
      obtain ⟨y, hy⟩ : ∃ y, y = runN x (l.take k) := ⟨_, rfl⟩
      rw [← hy] at Hs hlt ⊢
      clear hy
      obtain ⟨z, hz⟩ : ∃ z, z = ch.toNat := ⟨_, rfl⟩
      rw [← hz] at Hs hch hc
      clear hz
      have hlt2 := stepN_lt y (z % 16) hlt
      go_wp2
      go_quiet ((first
        | (go_at_call 113; exact Calls.quiet_of_same (stepR_i _ _ y (z % 16) (by omega) (by omega) hlt (by omega) _))
        | (go_at_call 113; exact Calls.quiet_of_same (stepR_i _ _ (stepN y (z % 16)) (z / 16) (by omega) (by omega) hlt2 (by omega) _))))
      go_wp2
      go_roundw
      case rel => exact ⟨k + 1, by omega, by go_num, by rw [Hs.out], bDrewN hB _⟩
      case measure => simp [intOf]; omega
    · have e2 := inv_bits (runN x (l.take k)) hlt
      obtain rfl : k = l.length := by omega
      have e3 := Lib.hid (show l.take l.length = l from List.take_length)
      go_wp2
      go_ret
      exact ⟨ret_int (by rw [hfin.out, ← e3.out]; simpa using e2), hB⟩
end Go.Proofs.YtofheinbbefbcaaDoor
/- The walks of the sum of bytes: the program's Next, over its iterator. -/
namespace Go.Proofs.YtofheinbbefbcaaDoor
open Go Go.RowKit Go.Shelf
set_option maxRecDepth 100000
attribute [local go_sem] Oper.semAt_some

/-- A row's halves, the lower one of each byte first. -/
def halvesN (l : List UInt8) : List Nat := l.flatMap fun c => [c.toNat % 16, c.toNat / 16]
theorem halvesN_length (l : List UInt8) : (halvesN l).length = 2 * l.length := by
  induction l with
  | nil => rfl
  | cons c l ih => simp only [halvesN, List.flatMap_cons, List.length_append, List.length_cons, List.length_nil] at ih ⊢; omega
theorem halvesN_even (l : List UInt8) (k : Nat) (c : UInt8) (h : l[k]? = some c) : (halvesN l)[2 * k]? = some (c.toNat % 16) ∧ (halvesN l)[2 * k + 1]? = some (c.toNat / 16) := by
  induction l generalizing k with
  | nil => simp at h
  | cons d l ih =>
    cases k with
    | zero => simp at h; subst h; simp [halvesN]
    | succ k =>
      have := ih k (by simpa using h)
      have e : 2 * (k + 1) = 2 * k + 1 + 1 := by omega
      rw [e]
      simpa [halvesN] using this

theorem bit0 (k : Nat) (h : k % 2 = 0) (hk : k < 9223372036854775808) : bits BinOp.and IntKind.i64 (k : Int) 1 = 0 := by
  have := bits_mask .i64 63 (by decide) (fun n h0 h1 => by rw [IntKind.wrap_i64]; omega) 1 (by decide) k (by omega) (by omega)
  simp only [Int.pow_one] at this
  rw [show (1 : Int) = 2 - 1 from rfl, this]; omega
theorem bit1 (k : Nat) (h : k % 2 = 1) (hk : k < 9223372036854775808) : bits BinOp.and IntKind.i64 (k : Int) 1 = 1 := by
  have := bits_mask .i64 63 (by decide) (fun n h0 h1 => by rw [IntKind.wrap_i64]; omega) 1 (by decide) k (by omega) (by omega)
  simp only [Int.pow_one] at this
  rw [show (1 : Int) = 2 - 1 from rfl, this]; omega
theorem halvesN_at0 (l : List UInt8) (k : Nat) (c : UInt8) (h : l[k / 2]? = some c) (h2 : k % 2 = 0) : (halvesN l)[k]? = some (c.toNat % 16) := by
  have := (halvesN_even l _ c h).1
  rwa [show 2 * (k / 2) = k from by omega] at this
theorem halvesN_at1 (l : List UInt8) (k : Nat) (c : UInt8) (h : l[k / 2]? = some c) (h2 : k % 2 = 1) : (halvesN l)[k]? = some (c.toNat / 16) := by
  have := (halvesN_even l _ c h).2
  rwa [show 2 * (k / 2) + 1 = k from by omega] at this

set_option maxHeartbeats 1000000 in
theorem halves1_iter (b : Nat) (A : Option Addr) (c : Nat) (l : List UInt8) (hl : l.length ≤ 1099511627776) (w0 : World) (M : Nat) (w : World) (hA : Rd w0 A (bvs l)) (hB0 : Below w0.heap.size w0 w) (hn : w0.heap.size ≤ M) (hM : M ≤ b)
    (hb : b < w.heap.size) (hc : w.cell? ⟨b, 0, none⟩ = some (.slice A l.length c)) :
    Iter Tryd.prog 114 #[.pointer (some ⟨b, 0, none⟩)] (fun h : Nat => #[.int .u8 h]) (halvesN l) w0.heap.size M w := by
  intro lr J Jx W hB hJ hJx hY h0
  have HY := Lib.hid hY
  have HJ := Lib.hid hJ
  have HJx := Lib.hid hJx
  clear hY hJ hJx
  refine callsIn_of_wp Tryd.func114 rfl trivial ?_ rfl
  simp only [Tryd.ntmps114, List.size_toArray, List.length_cons, List.length_nil, Nat.reduceAdd, Nat.reduceSub, Array.replicate_succ, Array.replicate_zero, List.push_toArray, List.append_toArray, List.nil_append, List.cons_append]
  refine scope_goto 0 (fun a w' => ∃ k : Nat, k ≤ 2 * l.length ∧ (∃ u4 u5 u6 u7 u8 u9 u10 u11 u12 u13 u14 u15 u16 u17 u18 u19 u20 u21 u22 u23 u24 : Value, a = ⟨#[.func (.yield lr) #[] #[], .pointer (some ⟨b, 0, none⟩), undef, .int .i64 (k : Int), u4, u5, u6, u7, u8, u9, u10, u11, u12, u13, u14, u15, u16, u17, u18, u19, u20, u21, u22, u23, u24], []⟩) ∧ J k w' ∧ KeepB (fun b => b < w0.heap.size ∨ (M ≤ b ∧ b < w.heap.size)) w w') (fun a _ => 2 * l.length - (intOf (a.tmps.getD 3 undef)).toNat) rfl ?pass ?first
  case first =>
    intro hX
    have HX := Lib.hid hX
    clear hX
    gi_wp2
    refine wpIn_label ?_
    rename_i hgo
    refine hgo _ _ ?_
    exact HX.out _ _ ⟨0, by omega, ⟨_, _, _, _, _, _, _, _, _, _, _, _, _, _, _, _, _, _, _, _, _, rfl⟩, h0, KeepB.of_below hB (fun _ h _ => h)⟩
  case pass =>
    rintro a w' ⟨k, hk, ⟨u4, u5, u6, u7, u8, u9, u10, u11, u12, u13, u14, u15, u16, u17, u18, u19, u20, u21, u22, u23, u24, rfl⟩, hJk, hK⟩
    have hc' := hK.cell (p := ⟨b, 0, none⟩) (by right; exact ⟨hM, hb⟩) hc
    by_cases hlt : k < 2 * l.length
    · have hk2 : k / 2 < l.length := by omega
      obtain ⟨b', o, ch, rfl, hb', hcell, hch, hlk⟩ := (hA.below (below_keep hB0 hK hB0.size (fun _ h => .inl h))).cbyte hk2
      rcases Nat.mod_two_eq_zero_or_one k with h2 | h2
      · have e1 : bits BinOp.and IntKind.i64 (k : Int) 1 = 0 := bit0 k h2 (by omega)
        obtain ⟨fn, tmps, assign, body, hy, hR⟩ := HY.out k _ w' (halvesN_at0 l k ch hlk h2) hJk hK.size
        have e2 : ((ch.toNat % 16 : Nat) : Int) = (ch.toNat : Int) % 16 := by omega
        dsimp only at hy
        rw [e2] at hy
        clear h2 hlk e2
        gi_wp2
        refine hR.mono ?_
        rintro e W3 (⟨rfl, hJ3, hk3⟩ | ⟨rfl, hJx3, hk3⟩)
        · gi_wp2
          refine wpIn_goto ?_
          exact ⟨rfl, ⟨k + 1, by omega, ⟨_, _, _, _, _, _, _, _, _, _, _, _, _, _, _, _, _, _, _, _, _, rfl⟩, hJ3, hK.trans (hk3.sub (fun b _ h => h))⟩, by simp [intOf]; omega⟩
        · gi_wp2
          simp only [Exit.jump]
          refine bodyPost_end (results_none rfl _ _ _) rfl ⟨⟨_, rfl⟩, .inr hJx3⟩
      · have e1 : bits BinOp.and IntKind.i64 (k : Int) 1 = 1 := bit1 k h2 (by omega)
        obtain ⟨fn, tmps, assign, body, hy, hR⟩ := HY.out k _ w' (halvesN_at1 l k ch hlk h2) hJk hK.size
        have e2 : ((ch.toNat / 16 : Nat) : Int) = (ch.toNat : Int) / 16 % 16 := by omega
        dsimp only at hy
        rw [e2] at hy
        clear h2 hlk e2
        gi_wp2
        refine hR.mono ?_
        rintro e W3 (⟨rfl, hJ3, hk3⟩ | ⟨rfl, hJx3, hk3⟩)
        · gi_wp2
          refine wpIn_goto ?_
          exact ⟨rfl, ⟨k + 1, by omega, ⟨_, _, _, _, _, _, _, _, _, _, _, _, _, _, _, _, _, _, _, _, _, rfl⟩, hJ3, hK.trans (hk3.sub (fun b _ h => h))⟩, by simp [intOf]; omega⟩
        · gi_wp2
          simp only [Exit.jump]
          refine bodyPost_end (results_none rfl _ _ _) rfl ⟨⟨_, rfl⟩, .inr hJx3⟩
    · have hd : decide ((k : Int) < 2 * (l.length : Int)) = false := by simp; omega
      gi_wp2
      refine ⟨fun _ h => (by cases h), ?_⟩
      gi_wp2
      obtain rfl : k = 2 * l.length := by omega
      simp only [Exit.jump]
      refine bodyPost_end (results_none rfl _ _ _) rfl ⟨⟨_, rfl⟩, .inl ?_⟩
      rw [halvesN_length]
      exact hJk
end Go.Proofs.YtofheinbbefbcaaDoor
/- The walks of the sum of bytes: the program's Next. -/
namespace Go.Proofs.YtofheinbbefbcaaDoor
open Go Go.RowKit Go.Shelf
set_option maxRecDepth 100000
attribute [local go_sem] Oper.semAt_some

theorem runN_halves (l : List UInt8) : ∀ s, runN s l = (halvesN l).foldl stepN s := by
  induction l with
  | nil => intro s; rfl
  | cons c l ih => intro s; rw [halvesN, List.flatMap_cons, List.foldl_append, ← halvesN, ← ih]; rfl
def halfRun (s : Nat) (l : List UInt8) (k : Nat) : Nat := ((halvesN l).take k).foldl stepN s
theorem halfRun_lt (s : Nat) (l : List UInt8) (h : s < 4294967296) (k : Nat) : halfRun s l k < 4294967296 := by
  unfold halfRun
  generalize (halvesN l).take k = xs
  induction xs generalizing s with
  | nil => exact h
  | cons x xs ih => exact ih _ (stepN_lt _ _ h)
theorem halfRun_succ (s : Nat) (l : List UInt8) (k x : Nat) (h : (halvesN l)[k]? = some x) : halfRun s l (k + 1) = stepN (halfRun s l k) x := by
  unfold halfRun
  rw [take_snoc _ k x h, List.foldl_append]; rfl
theorem halvesN_lt (l : List UInt8) (k x : Nat) (h : (halvesN l)[k]? = some x) : x < 16 := by
  have := List.mem_of_getElem? h
  unfold halvesN at this
  rw [List.mem_flatMap] at this
  obtain ⟨c, _, hc⟩ := this
  have := c.toNat_lt
  simp at hc
  omega

theorem RowsOK.below {w w' : World} (h : RowsOK w) (hb : Below w.heap.size w w') : RowsOK w' := fun i hi => by
  have := h i hi
  exact (hb.cell (p := ⟨0, i, none⟩) (World.block_lt_of_cell? w _ this)).trans this
theorem RowsOK.pos {w : World} (h : RowsOK w) : 0 < w.heap.size := World.block_lt_of_cell? w _ (h 0 (by omega))

set_option maxHeartbeats 400000 in
theorem halves_any (A : Option Addr) (n c : Nat) (w : World) :
    Calls Tryd.prog 110 #[.slice A n c] w fun e w' => e = .returned (.func (.func 114) #[] #[.pointer (some ⟨w.heap.size, 0, none⟩)]) ∧ w' = w.alloc (.cells #[.slice A n c] 23) := by
  go_enter Tryd.func110, Tryd.ntmps110
  go_wp2
  go_ret
  exact ⟨rfl, rfl⟩

set_option maxHeartbeats 1000000 in
theorem cnext_any (s : Nat) (h1 : s < 4294967296) (A : Option Addr) (c : Nat) (l : List UInt8) (hl : l.length ≤ 1099511627776) (w : World) (hA : Rd w A (bvs l)) (hr : RowsOK w) :
    Calls Tryd.prog 106 #[.int .u32 s, .slice A l.length c] w fun e w' => e = .returned (.int .u32 (nextN s l : Nat)) ∧ Below w.heap.size w w' := by
  have e1 := inv_bits s h1
  have hi := inv32_lt s
  have Hfin := Lib.hid (show nextN s l = inv32 (runN (inv32 s) l) from rfl)
  obtain ⟨x, hx⟩ : ∃ x, x = inv32 s := ⟨_, rfl⟩
  rw [← hx] at hi Hfin e1
  clear hx
  refine (callsIn_wide (n := 9)).1 (callsIn_of_wp_marks Tryd.func106 rfl trivial ?_ rfl)
  simp only [Tryd.ntmps106, List.size_toArray, List.length_cons, List.length_nil, Nat.reduceAdd, Nat.reduceSub, Array.replicate_succ, Array.replicate_zero, List.push_toArray, List.append_toArray, List.nil_append, List.cons_append]
  gi_wp2_with (refine ⟨trivial, ?_⟩; gi_at_call 110; refine (callsIn_wide.2 (halves_any A l.length c _)).mono ?_; rintro e w' ⟨rfl, rfl⟩)
  have hB0 : Below w.heap.size w ((w.alloc (.cells #[.int .u32 x] 115)).alloc (.cells #[.slice A l.length c] 23)) := ((Below.refl _ _).alloc (Nat.le_refl _) _).alloc (by simp) _
  have hb1 : Box ((w.alloc (.cells #[.int .u32 x] 115)).alloc (.cells #[.slice A l.length c] 23)) w.heap.size (.int .u32 x) := (Box.new _ _ _).alloc _
  have hb2 : Box ((w.alloc (.cells #[.int .u32 x] 115)).alloc (.cells #[.slice A l.length c] 23)) (w.heap.size + 1) (.slice A l.length c) := by have := Box.new (w.alloc (.cells #[.int .u32 x] 115)) (.slice A l.length c) 23; simpa using this
  have hs0 : ((w.alloc (.cells #[.int .u32 x] 115)).alloc (.cells #[.slice A l.length c] 23)).heap.size = w.heap.size + 2 := by simp
  generalize (w.alloc (.cells #[.int .u32 x] 115)).alloc (.cells #[.slice A l.length c] 23) = W0 at *
  refine range_law (n₀ := w.heap.size) (M := w.heap.size + 1) (xs := halvesN l) (encs := fun h : Nat => #[.int .u8 h]) rfl (enters_of Tryd.func114 (by kernel_rfl) rfl)
    (halves1_iter _ A c l hl w _ W0 hA hB0 (by omega) (by omega) hb2.lt hb2.1) (by omega) (by omega) (fun _ => rfl)
    (fun k W => Box W w.heap.size (.int .u32 (halfRun x l k : Nat)) ∧ Below w.heap.size w W) (fun _ _ => False)
    (fun k A B h hk => ⟨h.1.keep hk (by omega), below_keep h.2 hk h.2.size (fun _ _ => by omega)⟩) (fun _ _ _ h _ => h) ⟨hb1, hB0⟩ ?round ?done (fun _ _ h _ => h.elim)
  case round =>
    intro lr k y A1 hy hI hsz
    gi_wp2
    refine ⟨KeepB.refl _ _, fun A2 _ hI2 => ?_⟩
    obtain ⟨⟨hc, hf⟩, hB⟩ := hI2
    have hlt := halfRun_lt x l hi k
    have hy16 := halvesN_lt l k y hy
    have Hs := Lib.hid (halfRun_succ x l k y hy)
    have hr2 := hr.below hB
    have hBn := hB.size
    clear hy
    gi_wp2_with (refine ⟨trivial, ?_⟩; gi_at_call 111; refine (CallsIn.inRound lr (callsIn_wide.2 (step_i _ _ (halfRun x l k) y rfl rfl hlt (by omega) _ hr2))).mono ?_; rintro e w' ⟨rfl, rfl⟩)
    exact ⟨(KeepB.refl _ _).setCell (by simp; (try (intros; omega))) _, by rw [Hs.out]; exact Box.set ⟨hc, hf⟩ _, hB.setCell (Nat.le_refl _) _⟩
  case done =>
    intro A1 hI hD
    obtain ⟨⟨hc, hf⟩, hB⟩ := hI
    have hlt := halfRun_lt x l hi (halvesN l).length
    have e4 := inv_bits _ hlt
    have Hl := Lib.hid (show halfRun x l (halvesN l).length = runN x l from by unfold halfRun; rw [List.take_length, runN_halves])
    gi_wp2
    refine ⟨by simp, .inl ⟨_, _, rfl, run_takeDeferred hD, ?_⟩⟩
    refine ⟨_, results_tmp rfl _ _ _, ?_, ?_⟩
    · rw [Hfin.out, ← Hl.out]; rfl
    · exact below_keep hB ((KeepB.refl (fun k => k ≠ W0.heap.size) _).putObj _ _ (by simp)) hB.size (fun _ _ => by omega)
end Go.Proofs.YtofheinbbefbcaaDoor
/- The walks of the sum of bytes: a sum's bytes. -/
namespace Go.Proofs.YtofheinbbefbcaaDoor
open Go Go.RowKit
set_option maxRecDepth 100000

def fourV (s : Nat) : Value := .agg #[.int .u8 ((s % 256 : Nat) : Int), .int .u8 ((s / 256 % 256 : Nat) : Int), .int .u8 ((s / 65536 % 256 : Nat) : Int), .int .u8 ((s / 16777216 : Nat) : Int)]

set_option maxHeartbeats 400000 in
theorem fourR_any (s : Nat) (h1 : s < 4294967296) (w : World) :
    Calls Tryd.prog 97 #[.int .u32 s] w fun e w' => e = .returned (fourV s) ∧ Below w.heap.size w w' := by
  go_enter Tryd.func97, Tryd.ntmps97
  go_wp2
  go_returns
  exact ⟨rfl, (Below.refl _ _).alloc (Nat.le_refl _) _⟩

set_option maxHeartbeats 400000 in
theorem four_any (s : Nat) (h1 : s < 4294967296) (w : World) :
    Calls Tryd.prog 85 #[.int .u32 s] w fun e w' => e = .returned (fourV s) ∧ Below w.heap.size w w' := by
  go_enter Tryd.func85, Tryd.ntmps85
  go_wp2
  go_rounds 5
  go_returns
  exact ⟨rfl, (Below.refl _ _).alloc (Nat.le_refl _) _⟩

set_option maxHeartbeats 400000 in
theorem equal_any (A B : Option Addr) (c d : Nat) (l m : List UInt8) (w : World) (hA : Rd w A (bvs l)) (hB : Rd w B (bvs m)) :
    Calls Tryd.prog 69 #[.slice A l.length c, .slice B m.length d] w fun e w' => e = .returned (.bool (decide (l = m))) ∧ w' = w := by
  have e1 := run_str hA c 23 5 Tryd.underlying23 Tryd.underlying5
  have e2 := run_str hB d 23 5 Tryd.underlying23 Tryd.underlying5
  go_enter Tryd.func69, Tryd.ntmps69
  go_wp2
  go_returns
  exact ⟨ret_bool (bstr_beq l m), rfl⟩

def sumTo (ls : List (List UInt8)) (k : Nat) : Nat := (ls.take k).foldl nextN 0
theorem sumTo_lt (ls : List (List UInt8)) (k : Nat) : sumTo ls k < 4294967296 := sumN_lt _
theorem sumTo_succ (ls : List (List UInt8)) (k : Nat) (l : List UInt8) (h : ls[k]? = some l) : sumTo ls (k + 1) = nextN (sumTo ls k) l := by
  unfold sumTo
  rw [take_snoc _ k l h, List.foldl_append]; rfl

set_option maxHeartbeats 400000 in
theorem sum_any (A : Option Addr) (c : Nat) (ls : List (List UInt8)) (hl : ls.length ≤ 1099511627776) (w : World) (hA : IsRows w A ls) (hr : RowsOK w) :
    Calls Tryd.prog 86 #[.slice A ls.length c] w fun e w' => e = .returned (.int .u32 (sumN ls : Nat)) ∧ Below w.heap.size w w' := by
  have hfin := Lib.hid (show sumTo ls ls.length = sumN ls from by unfold sumTo; rw [List.take_length]; rfl)
  go_enter Tryd.func86, Tryd.ntmps86
  go_wp2
  go_loopw [2, 4, 7] (fun t _ i wr => ∃ k : Nat, k ≤ ls.length ∧ i = .int .i64 k ∧ t = .int .u32 (sumTo ls k : Nat) ∧ Below w.heap.size w wr) (fun _ _ i _ => ls.length - (intOf i).toNat)
  case atStart => exact ⟨0, by omega, rfl, rfl, Below.refl _ _⟩
  case round =>
    obtain ⟨k, hk, rfl, rfl, hB⟩ := hrel
    by_cases hk4 : k < ls.length
    · obtain ⟨b, o, A', c', l, rfl, hb, hc, ⟨hll, hlc, hcm⟩, hrd, hlk⟩ := (hA.below hB).at_ hk4
      have Hs := Lib.hid (sumTo_succ ls k l hlk)
      have hlt := sumTo_lt ls k
      have hr2 := hr.below hB
      clear hlk
      go_wp2_with (go_at_call 106; refine (cnext_any _ hlt _ _ _ hll _ hrd hr2).mono ?_; rintro e w' ⟨rfl, hB2⟩)
      go_roundw
      case rel => exact ⟨k + 1, by omega, by go_num, by rw [Hs.out], bTr hB hB2⟩
      case measure => simp [intOf]; omega
    · obtain rfl : k = ls.length := by omega
      go_wp2
      go_ret
      exact ⟨ret_int (by rw [hfin.out]), hB⟩

set_option maxHeartbeats 400000 in
theorem sumR_any (A : Option Addr) (c : Nat) (ls : List (List UInt8)) (hl : ls.length ≤ 1099511627776) (w : World) (hA : IsRows w A ls) :
    Calls Tryd.prog 98 #[.slice A ls.length c] w fun e w' => e = .returned (.int .u32 (sumN ls : Nat)) ∧ Below w.heap.size w w' := by
  have hfin := Lib.hid (show sumTo ls ls.length = sumN ls from by unfold sumTo; rw [List.take_length]; rfl)
  go_enter Tryd.func98, Tryd.ntmps98
  go_wp2
  go_loopw [3, 4] (fun t i wr => ∃ k : Nat, k ≤ ls.length ∧ i = .int .i64 k ∧ t = .int .u32 (sumTo ls k : Nat) ∧ Below w.heap.size w wr) (fun _ i _ => ls.length - (intOf i).toNat)
  case atStart => exact ⟨0, by omega, rfl, rfl, Below.refl _ _⟩
  case round =>
    obtain ⟨k, hk, rfl, rfl, hB⟩ := hrel
    by_cases hk4 : k < ls.length
    · obtain ⟨b, o, A', c', l, rfl, hb, hc, ⟨hll, hlc, hcm⟩, hrd, hlk⟩ := (hA.below hB).at_ hk4
      have Hs := Lib.hid (sumTo_succ ls k l hlk)
      have hlt := sumTo_lt ls k
      have hmx : l.length ≤ maxLen := by unfold maxLen; omega
      clear hlk
      go_wp2_with (go_at_call 109; refine (cnextR_any _ hlt _ _ _ hmx _ hrd).mono ?_; rintro e w' ⟨rfl, hB2⟩)
      go_roundw
      case rel => exact ⟨k + 1, by omega, by go_num, by rw [Hs.out], bTr hB hB2⟩
      case measure => simp [intOf]; omega
    · obtain rfl : k = ls.length := by omega
      go_wp2
      go_ret
      exact ⟨ret_int (by rw [hfin.out]), hB⟩
end Go.Proofs.YtofheinbbefbcaaDoor
/- The walks of the sum of bytes: sums put and taken. -/
namespace Go.Proofs.YtofheinbbefbcaaDoor
open Go Go.RowKit
set_option maxRecDepth 100000

theorem celemB : Elem Tryd.prog 23 5 (.int .u8 0) 1 1 := ⟨Tryd.underlying23, by kernel_rfl, rfl, by omega⟩

set_option maxHeartbeats 400000 in
theorem cclone_any (A : Option Addr) (c : Nat) (l : List UInt8) (hl : l.length ≤ 1099511627776) (w : World) (hA : Rd w A (bvs l)) :
    Calls Tryd.prog 87 #[.slice A l.length c] w fun e w' => ∃ v, e = .returned v ∧ w'.ownsRow w.heap.size 5 1 v l.length (bvs l) ∧ Below w.heap.size w w' := by
  rcases A with _ | ad
  · obtain rfl : l = [] := hA.none_bytes
    have en := Lib.run_eql_slice_nil (P := Tryd.prog) w 23 5 none 0 c 0 0 Tryd.underlying23
    go_enter Tryd.func87, Tryd.ntmps87
    go_wp2
    go_returns
    exact ⟨_, rfl, World.ownsRow_nil _ _ _ _, Below.refl _ _⟩
  · have en := Lib.run_eql_slice_nil (P := Tryd.prog) w 23 5 (some ad) l.length c 0 0 Tryd.underlying23
    have hown0 := World.ownsRow_lit (base := w.heap.size) (e := 5) (size := 1) w #[] 0 (Nat.le_refl _) (by simp [maxLen]) rfl
    go_enter Tryd.func87, Tryd.ntmps87
    go_wp2_with (at_builtin; refine list_append_rd (news := bvs l) rfl (.tmp 5) (.tmp 6) rfl celemB rfl hown0 rfl (by rw [bvs_length]; omega) (hA.below ((Below.refl _ _).alloc (Nat.le_refl _) _)) (bvs_one l) (by unfold maxLen; omega) (by omega) (by simp) ?_; intro v' w1 hown hg _)
    go_returns
    refine ⟨v', rfl, by simpa using hown, bGrow ((Below.refl _ _).alloc (Nat.le_refl _) _) hg (by simp) hown0⟩

theorem fourN_cells (s : Nat) (h : s < 4294967296) : bvs (fourN s) = [.int .u8 ((s % 256 : Nat) : Int), .int .u8 ((s / 256 % 256 : Nat) : Int), .int .u8 ((s / 65536 % 256 : Nat) : Int), .int .u8 ((s / 16777216 : Nat) : Int)] := by
  simp only [bvs, fourN, List.map_cons, List.map_nil, bv]
  have e (n : Nat) : (UInt8.ofNat n).toNat = n % 256 := by simp
  rw [e, e, e, e, Nat.mod_eq_of_lt (show s / 16777216 < 256 by omega)]
theorem IsRows.one {w : World} {A : Option Addr} {l : List UInt8} (b : Nat) (c : Nat) (hl : l.length ≤ 1099511627776 ∧ l.length ≤ c ∧ c ≤ maxLen) (hb : b < w.heap.size) (hc : w.cell? ⟨b, 0, none⟩ = some (.slice A l.length c)) (hA : Rd w A (bvs l)) : IsRows w (some ⟨b, 0, none⟩) [l] := by
  refine ⟨[.slice A l.length c], rfl, fun j u hj => ?_, fun i v l' h1 h2 => ?_⟩
  · cases j with
    | zero => simp at hj; subst hj; exact ⟨b, 0, rfl, hb, hc⟩
    | succ j => simp at hj
  · cases i with
    | zero => simp at h1 h2; subst h1; subst h2; exact ⟨A, c, rfl, hl, hA⟩
    | succ i => simp at h1

theorem sum_one (A : Option Addr) (c : Nat) (l : List UInt8) (w : World) (hA : IsRows w A [l]) (hr : RowsOK w) :
    Calls Tryd.prog 86 #[.slice A 1 c] w fun e w' => e = .returned (.int .u32 (nextN 0 l : Nat)) ∧ Below w.heap.size w w' := sum_any A c [l] (by simp) w hA hr
theorem sumR_one (A : Option Addr) (c : Nat) (l : List UInt8) (w : World) (hA : IsRows w A [l]) :
    Calls Tryd.prog 98 #[.slice A 1 c] w fun e w' => e = .returned (.int .u32 (nextN 0 l : Nat)) ∧ Below w.heap.size w w' := sumR_any A c [l] (by simp) w hA

set_option maxHeartbeats 1000000 in
theorem put_any (A : Option Addr) (c : Nat) (l : List UInt8) (hl : l.length ≤ 1099511627770) (hlc : l.length ≤ c) (hcm : c ≤ maxLen) (w : World) (hA : Rd w A (bvs l)) (hr : RowsOK w) :
    Calls Tryd.prog 52 #[.slice A l.length c] w fun e w' => ∃ v, e = .returned v ∧ w'.ownsRow w.heap.size 5 1 v (l.length + 4) (bvs (putN l)) ∧ Below w.heap.size w w' := by
  have hb1 : Below w.heap.size w (w.alloc (.cells #[.slice A l.length c] 23)) := (Below.refl _ _).alloc (Nat.le_refl _) _
  have hrows : IsRows (w.alloc (.cells #[.slice A l.length c] 23)) (some ⟨w.heap.size, 0, none⟩) [l] := IsRows.one _ c ⟨by omega, hlc, hcm⟩ (by simp) (by simp) (hA.below hb1)
  have hr1 := hr.below hb1
  have hlt := nextN_lt 0 l
  have Hf := Lib.hid (fourN_cells _ hlt)
  have Hp := Lib.hid (show putN l = l ++ fourN (nextN 0 l) from rfl)
  go_enter Tryd.func52, Tryd.ntmps52
  go_wp2_with (first | (go_at_call 86; refine (sum_one _ _ l _ hrows hr1).mono ?_; rintro e w1 ⟨rfl, hB1⟩) | (go_at_call 85; refine (four_any _ hlt _).mono ?_; rintro e w2 ⟨rfl, hB2⟩; simp only [fourV]))
  have hB := bTr hb1 (bTr hB1 hB2)
  obtain ⟨w3, hw3⟩ : ∃ w3, w3 = w2.alloc (.cells #[.int .u8 ((nextN 0 l : Nat) % 256 : Int), .int .u8 ((nextN 0 l : Nat) / 256 % 256 : Int), .int .u8 ((nextN 0 l : Nat) / 65536 % 256 : Int), .int .u8 ((nextN 0 l : Nat) / 16777216 : Int)] 113) := ⟨_, rfl⟩
  rw [← hw3]
  have hB3 : Below w.heap.size w w3 := by rw [hw3]; exact hB.alloc hB.size _
  have hrd3 : Rd w3 (some ⟨w2.heap.size, 0, none⟩) (bvs (fourN (nextN 0 l))) := by
    rw [Hf.out, hw3]; exact Rd.new w2 _ _
  have hA3 := hA.below hB3
  clear hw3
  go_region_held3 (fun W => Below w3.heap.size w3 W) (first | exact (Below.refl _ _).drew | exact hS4 | exact hS5)
    (first
      | (go_simp; go_at_call 87; refine (cclone_any A c l (by omega) w3.drew hA3).mono ?_; rintro e w4 ⟨v4, rfl, hown4, hB4⟩; have hS4 : Below w3.heap.size w3 w4 := (Below.refl _ _).drew.trans hB4)
      | (refine step_append_rd (v := v4) (w := w4) (news := bvs (fourN (nextN 0 l))) rfl (.tmp 9) (.tmp 10) rfl celemB rfl hown4 rfl rfl (hrd3.below hS4) (bvs_one _) ?_ ?_ ?_ ?_; (unfold maxLen; omega); omega; exact hS4.size; intro v5 w5 hown5 hg5 _; have hS5 : Below w3.heap.size w3 w5 := bGrow hS4 hg5 hS4.size hown4))
  go_wp2
  go_returns
  refine ⟨v5, rfl, ?_, bStep hB3 hB3.size hS5⟩
  rw [Hp.out, bvs_append]
  exact own_base hown5 hB3.size

set_option maxHeartbeats 1000000 in
theorem putR_any (A : Option Addr) (c : Nat) (l : List UInt8) (hl : l.length ≤ 1099511627770) (hlc : l.length ≤ c) (hcm : c ≤ maxLen) (w : World) (hA : Rd w A (bvs l)) :
    Calls Tryd.prog 75 #[.slice A l.length c] w fun e w' => ∃ v, e = .returned v ∧ w'.ownsRow w.heap.size 5 1 v (l.length + 4) (bvs (putN l)) ∧ Below w.heap.size w w' := by
  have hb1 : Below w.heap.size w (w.alloc (.cells #[.slice A l.length c] 23)) := (Below.refl _ _).alloc (Nat.le_refl _) _
  have hrows : IsRows (w.alloc (.cells #[.slice A l.length c] 23)) (some ⟨w.heap.size, 0, none⟩) [l] := IsRows.one _ c ⟨by omega, hlc, hcm⟩ (by simp) (by simp) (hA.below hb1)
  have hlt := nextN_lt 0 l
  have Hf := Lib.hid (fourN_cells _ hlt)
  have Hp := Lib.hid (show putN l = l ++ fourN (nextN 0 l) from rfl)
  go_enter Tryd.func75, Tryd.ntmps75
  go_wp2_with (first | (go_at_call 98; refine (sumR_one _ _ l _ hrows).mono ?_; rintro e w1 ⟨rfl, hB1⟩) | (go_at_call 97; refine (fourR_any _ hlt _).mono ?_; rintro e w2 ⟨rfl, hB2⟩; simp only [fourV]))
  have hB := bTr hb1 (bTr hB1 hB2)
  obtain ⟨w3, hw3⟩ : ∃ w3, w3 = w2.alloc (.cells #[.int .u8 ((nextN 0 l : Nat) % 256 : Int), .int .u8 ((nextN 0 l : Nat) / 256 % 256 : Int), .int .u8 ((nextN 0 l : Nat) / 65536 % 256 : Int), .int .u8 ((nextN 0 l : Nat) / 16777216 : Int)] 113) := ⟨_, rfl⟩
  rw [← hw3]
  have hB3 : Below w.heap.size w w3 := by rw [hw3]; exact hB.alloc hB.size _
  have hrd3 : Rd w3 (some ⟨w2.heap.size, 0, none⟩) (bvs (fourN (nextN 0 l))) := by
    rw [Hf.out, hw3]; exact Rd.new w2 _ _
  have hA3 := hA.below hB3
  clear hw3
  have hown0 := World.ownsRow_lit (base := w3.heap.size) (e := 5) (size := 1) w3.drew #[] 0 (Nat.le_refl _) (by simp [maxLen]) rfl
  have hS1 : Below w3.heap.size w3 (w3.drew.alloc (.cells #[] 5)) := (Below.refl _ _).drew.alloc (Nat.le_refl _) _
  go_region_held3 (fun W => Below w3.heap.size w3 W) (first | exact (Below.refl _ _).drew | exact hS1 | exact hS4 | exact hS5)
    (first
      | (refine step_append_rd (w := w3.drew.alloc (.cells #[] 5)) (news := bvs l) rfl (.tmp 8) (.tmp 9) rfl celemB rfl hown0 rfl ?_ (hA3.below hS1) (bvs_one _) ?_ ?_ ?_ ?_; (rw [bvs_length]; omega); (unfold maxLen; omega); omega; exact hS1.size; intro v4 w4 hown4 hg4 _; have hS4 : Below w3.heap.size w3 w4 := bGrow hS1 hg4 hS1.size hown0)
      | (refine step_append_rd (v := v4) (w := w4) (news := bvs (fourN (nextN 0 l))) rfl (.tmp 10) (.tmp 11) rfl celemB rfl hown4 rfl rfl (hrd3.below hS4) (bvs_one _) ?_ ?_ ?_ ?_; (unfold maxLen; omega); omega; exact hS4.size; intro v5 w5 hown5 hg5 _; have hS5 : Below w3.heap.size w3 w5 := bGrow hS4 hg5 hS4.size hown4))
  go_wp2
  go_returns
  refine ⟨v5, rfl, ?_, bStep hB3 hB3.size hS5⟩
  rw [Hp.out, bvs_append]
  simpa using own_base hown5 hB3.size
end Go.Proofs.YtofheinbbefbcaaDoor
/- The walks of the sum of bytes: sums taken. -/
namespace Go.Proofs.YtofheinbbefbcaaDoor
open Go Go.RowKit
set_option maxRecDepth 100000

theorem equal_n (A B : Option Addr) (n k c d : Nat) (l m : List UInt8) (hn : l.length = n) (hk : m.length = k) (w : World) (hA : Rd w A (bvs l)) (hB : Rd w B (bvs m)) :
    Calls Tryd.prog 69 #[.slice A n c, .slice B k d] w fun e w' => e = .returned (.bool (decide (l = m))) ∧ w' = w := by
  subst hn; subst hk
  exact equal_any A B c d l m w hA hB

set_option maxHeartbeats 1000000 in
theorem ctake_any (A : Option Addr) (c : Nat) (l : List UInt8) (hl : l.length ≤ 1099511627770) (hlc : l.length ≤ c) (hcm : c ≤ maxLen) (w : World) (hA : Rd w A (bvs l)) (hr : RowsOK w) :
    Calls Tryd.prog 66 #[.slice A l.length c] w fun e w' => ∃ v, e = .returned (.tuple #[v, .bool (takeN l).isSome]) ∧ w'.ownsRow w.heap.size 5 1 v ((takeN l).getD []).length (bvs ((takeN l).getD [])) ∧ Below w.heap.size w w' := by
  unfold maxLen at hcm
  by_cases h4 : l.length < 4
  · have Ht := Lib.hid (show takeN l = none from by unfold takeN; rw [if_pos h4])
    go_enter Tryd.func66, Tryd.ntmps66
    go_wp2
    go_returns
    rw [Ht.out]
    exact ⟨_, rfl, World.ownsRow_nil _ _ _ _, Below.refl _ _⟩
  · obtain ⟨m, hm⟩ : ∃ m, l.length = m + 4 := ⟨l.length - 4, by omega⟩
    have hp : (l.take m).length = m := by rw [List.length_take]; omega
    have hq : (l.drop m).length = 4 := by rw [List.length_drop]; omega
    have hAp : Rd w A (bvs (l.take m)) := by rw [bvs_take]; exact hA.take m
    have hAq : Rd w (A.map (·.add m)) (bvs (l.drop m)) := by rw [bvs_drop]; exact hA.drop m
    have Ht := Lib.hid (show takeN l = if fourN (nextN 0 (l.take m)) = l.drop m then some (l.take m) else none from by unfold takeN; rw [if_neg h4, hm]; rfl)
    rw [hm] at hl hlc ⊢
    clear hm h4 hA
    generalize l.take m = p at *
    generalize l.drop m = q at *
    have hb1 : Below w.heap.size w (w.alloc (.cells #[.slice A m c] 23)) := (Below.refl _ _).alloc (Nat.le_refl _) _
    have hrows : IsRows (w.alloc (.cells #[.slice A m c] 23)) (some ⟨w.heap.size, 0, none⟩) [p] := IsRows.one _ c ⟨by omega, by omega, hcm⟩ (by simp) (by rw [hp]; simp) (hAp.below hb1)
    have hr1 := hr.below hb1
    have hlt := nextN_lt 0 p
    have Hf := Lib.hid (fourN_cells _ hlt)
    have HP := Lib.hid hp
    have HQ := Lib.hid hq
    clear hp hq
    go_enter Tryd.func66, Tryd.ntmps66
    go_wp2_with (first | (go_at_call 86; refine (sum_one _ _ p _ hrows hr1).mono ?_; rintro e w1 ⟨rfl, hB1⟩) | (go_at_call 85; refine (four_any _ hlt _).mono ?_; rintro e w2 ⟨rfl, hB2⟩; simp only [fourV]))
    have hB := bTr hb1 (bTr hB1 hB2)
    obtain ⟨w3, hw3⟩ : ∃ w3, w3 = w2.alloc (.cells #[.int .u8 ((nextN 0 p : Nat) % 256 : Int), .int .u8 ((nextN 0 p : Nat) / 256 % 256 : Int), .int .u8 ((nextN 0 p : Nat) / 65536 % 256 : Int), .int .u8 ((nextN 0 p : Nat) / 16777216 : Int)] 113) := ⟨_, rfl⟩
    rw [← hw3]
    have hB3 : Below w.heap.size w w3 := by rw [hw3]; exact hB.alloc hB.size _
    have hrd3 : Rd w3 (some ⟨w2.heap.size, 0, none⟩) (bvs (fourN (nextN 0 p))) := by
      rw [Hf.out, hw3]; exact Rd.new w2 _ _
    have hAp3 := hAp.below hB3
    have hAq3 := hAq.below hB3
    clear hw3
    by_cases heq : fourN (nextN 0 p) = q
    · have hd : decide (fourN (nextN 0 p) = q) = true := by simp [heq]
      have Ht2 := Lib.hid (show takeN l = some p from by rw [Ht.out, if_pos heq])
      have Hpm := HP.out
      subst Hpm
      clear heq
      go_quiet ((go_at_call 69; exact Calls.quiet_of_same (equal_n _ _ _ _ _ _ (fourN (nextN 0 p)) q rfl HQ.out _ (hrd3.drewN _) (hAq3.drewN _))))
      go_wp2_with (go_at_call 87; refine (cclone_any A c p (by omega) _ (hAp3.drewN _)).mono ?_; rintro e w4 ⟨v4, rfl, hown4, hB4⟩)
      go_returns
      rw [Ht2.out]
      exact ⟨v4, rfl, own_base hown4 hB3.size, bStep (bDrewN hB3 _) hB3.size hB4⟩
    · have hd : decide (fourN (nextN 0 p) = q) = false := by simp [heq]
      have Ht2 := Lib.hid (show takeN l = none from by rw [Ht.out, if_neg heq])
      clear heq
      go_quiet ((go_at_call 69; exact Calls.quiet_of_same (equal_n _ _ _ _ _ _ (fourN (nextN 0 p)) q rfl HQ.out _ (hrd3.drewN _) (hAq3.drewN _))))
      go_wp2
      go_returns
      rw [Ht2.out]
      exact ⟨_, rfl, World.ownsRow_nil _ _ _ _, bDrewN hB3 _⟩

/-- Bytes as a string, by the program's own types. -/
theorem strB {w : World} {A : Option Addr} {l : List UInt8} (hA : Rd w A (bvs l)) (c : Nat) : ∀ dst, Tryd.prog.underlying dst = some .string → (convert 23 dst (.slice A l.length c)).run Tryd.prog w = .ok (.string (bstr l)) w :=
  run_str hA c 23 5 Tryd.underlying23 Tryd.underlying5
theorem strBn {w : World} {A : Option Addr} {l : List UInt8} {n : Nat} (hn : l.length = n) (hA : Rd w A (bvs l)) (c : Nat) : ∀ dst, Tryd.prog.underlying dst = some .string → (convert 23 dst (.slice A n c)).run Tryd.prog w = .ok (.string (bstr l)) w := by
  subst hn; exact strB hA c
theorem takeN_put (l : List UInt8) (h : ¬ l.length < 4) : takeN l = if putN (l.take (l.length - 4)) = l then some (l.take (l.length - 4)) else none := by
  unfold takeN
  rw [if_neg h]
  have e : (fourN (nextN 0 (l.take (l.length - 4))) = l.drop (l.length - 4)) ↔ (putN (l.take (l.length - 4)) = l) := by
    unfold putN
    constructor
    · intro h'; rw [h', List.take_append_drop]
    · intro h'
      have : l.take (l.length - 4) ++ fourN (nextN 0 (l.take (l.length - 4))) = l.take (l.length - 4) ++ l.drop (l.length - 4) := by rw [h', List.take_append_drop]
      exact List.append_cancel_left this
  by_cases h1 : putN (l.take (l.length - 4)) = l
  · rw [if_pos h1, if_pos (e.2 h1)]
  · rw [if_neg h1, if_neg (fun h' => h1 (e.1 h'))]
theorem own_sl {w : World} {B : Nat} {e : TypeId} {size n : Nat} {v : Value} {xs : List Value} (h : w.ownsRow B e size v n xs) : ∃ A c, v = .slice A n c ∧ n ≤ c ∧ c ≤ maxLen := by
  rcases h.2 with ⟨rfl, rfl⟩ | ⟨g, cap, cur, rfl, _, _, h1, h2, _⟩
  · exact ⟨none, 0, rfl, Nat.le_refl _, by simp⟩
  · exact ⟨_, cap, rfl, h1, h2⟩
theorem putN_length (l : List UInt8) : (putN l).length = l.length + 4 := by simp [putN, fourN]

set_option maxHeartbeats 1000000 in
theorem ctakeR_any (A : Option Addr) (c : Nat) (l : List UInt8) (hl : l.length ≤ 1099511627770) (hlc : l.length ≤ c) (hcm : c ≤ maxLen) (w : World) (hA : Rd w A (bvs l)) :
    Calls Tryd.prog 76 #[.slice A l.length c] w fun e w' => ∃ v, e = .returned (.tuple #[v, .bool (takeN l).isSome]) ∧ w'.ownsRow w.heap.size 5 1 v ((takeN l).getD []).length (bvs ((takeN l).getD [])) ∧ Below w.heap.size w w' := by
  unfold maxLen at hcm
  by_cases h4 : l.length < 4
  · have Ht := Lib.hid (show takeN l = none from by unfold takeN; rw [if_pos h4])
    have hd : decide ((l.length : Int) - 4 < 0) = true := by simp; omega
    go_enter Tryd.func76, Tryd.ntmps76
    go_wp2
    go_quiet (fail)
    go_wp2
    go_returns
    rw [Ht.out]
    exact ⟨_, rfl, World.ownsRow_nil _ _ _ _, bDrewN (Below.refl _ _) _⟩
  · have Ht := takeN_put l h4
    obtain ⟨m, hm⟩ : ∃ m, l.length = m + 4 := ⟨l.length - 4, by omega⟩
    rw [show l.length - 4 = m from by omega] at Ht
    have hp : (l.take m).length = m := by rw [List.length_take]; omega
    have hAp : Rd w A (bvs (l.take m)) := by rw [bvs_take]; exact hA.take m
    rw [hm] at hl hlc ⊢
    generalize l.take m = p at *
    have HT := Lib.hid Ht
    clear h4 Ht
    have HM := Lib.hid hm
    clear hm
    have hd : decide ((m : Int) < 0) = false := by simp
    have eA := fun (W : World) (hB : Below w.heap.size w W) => strBn HM.out (hA.below hB) c
    have EA := Lib.hid eA
    clear eA
    subst hp
    go_enter Tryd.func76, Tryd.ntmps76
    go_wp2
    have e0 := EA.out w.drew (Below.refl _ _).drew
    have hpc : (p.length : Int) ≤ (c : Int) := by omega
    go_region_with (first | (go_at_call 75; refine (putR_any A c p (by omega) (by omega) (by unfold maxLen; omega) _ hAp.drew).mono ?_; rintro e w4 ⟨v4, rfl, hown4, hB4⟩; have hS4 : Below w.heap.size w w4 := (Below.refl _ _).drew.trans hB4; obtain ⟨A4, c4, rfl, hc4, hm4⟩ := own_sl hown4; have e4 := strBn (putN_length p) (Rd.of_own hown4) c4; have e5 := EA.out w4 hS4))
    all_goals
      have hb := bstr_beq (putN p) l
      have hApS := hAp.below hS4
      clear e0 e4 e5 hA
      by_cases heq : putN p = l
      · have Ht2 := Lib.hid (show takeN l = some p from by rw [HT.out, if_pos heq])
        have hbt : ((bstr (putN p)).toList == (bstr l).toList) = true := by rw [hb]; simp [heq]
        have hown0 := World.ownsRow_lit (base := w.heap.size) (e := 5) (size := 1) w4 #[] 0 hS4.size (by simp [maxLen]) rfl
        have hS5 : Below w.heap.size w (w4.alloc (.cells #[] 5)) := hS4.alloc hS4.size _
        clear heq hb
        simp only [hbt, Bool.not_true]
        clear hbt
        go_wp2_with (at_builtin; refine list_append_rd (news := bvs p) rfl (.tmp 20) (.tmp 23) rfl celemB rfl hown0 rfl (by rw [bvs_length]; omega) (hAp.below hS5) (bvs_one p) (by unfold maxLen; omega) (by omega) hS5.size ?_; intro v6 w6 hown6 hg6 _)
        go_returns
        rw [Ht2.out]
        exact ⟨v6, rfl, by simpa using hown6, bGrow hS5 hg6 hS5.size hown0⟩
      · have Ht2 := Lib.hid (show takeN l = none from by rw [HT.out, if_neg heq])
        have hbt : ((bstr (putN p)).toList == (bstr l).toList) = false := by rw [hb]; simp [heq]
        clear heq hb
        simp only [hbt, Bool.not_false]
        clear hbt
        go_wp2
        go_returns
        rw [Ht2.out]
        exact ⟨_, rfl, World.ownsRow_nil _ _ _ _, hS4⟩
end Go.Proofs.YtofheinbbefbcaaDoor
/- What the functions of numbers and of sums compute that are walked by hand, in the form of the printed contracts. -/
namespace Go.Proofs.YtofheinbbefbcaaDoor
open Go Go.RowKit
set_option maxRecDepth 100000
theorem ivs_encsN (l : List Int) : ivs l = encs enI l := by
  induction l with
  | nil => rfl
  | cons x l ih => rw [encs_cons, ← ih]; rfl
theorem bvs_encs (l : List UInt8) : bvs l = encs enY l := by
  induction l with
  | nil => rfl
  | cons x l ih => rw [encs_cons, ← ih]; rfl
/-- A row of one's own that a call gives back. -/
theorem own_st0 {w w' : World} {e k n : Nat} {v : Value} {xs : List Value} (h : w'.ownsRow w.heap.size e k v n xs) (hB : Below w.heap.size w w') : ∃ A c, v = .slice A n c ∧ (n ≤ c ∧ c ≤ maxLen) ∧ St0 All w w' [.row (.slice A n c) e k n xs] := by
  have h0 : w'.ownsRow 0 e k v n xs := ⟨h.1, h.2.imp id fun ⟨g, cap, cur, h1, h2, h3⟩ => ⟨g, cap, cur, h1, Nat.zero_le _, h3⟩⟩
  rcases h.2 with ⟨rfl, rfl⟩ | ⟨g, cap, cur, rfl, h1, h2, h3, h4, h5, h6⟩
  · exact ⟨none, 0, rfl, ⟨Nat.le_refl _, Nat.zero_le _⟩, (St0.start All w).add hB h0 (fun k hk => by cases hk)⟩
  · exact ⟨_, cap, rfl, ⟨h3, h4⟩, (St0.start All w).add hB h0 (fun k hk => by injection hk with hk; subst hk; exact ⟨h1, (Array.getElem?_eq_some_iff.1 h2).1⟩)⟩
/-- Two rows of unlike elements. -/
theorem own_st02 {w w' : World} {e e' k k' n n' : Nat} {v v' : Value} {xs xs' : List Value} (h : w'.ownsRow w.heap.size e k v n xs) (h' : w'.ownsRow w.heap.size e' k' v' n' xs') (hne : e ≠ e') (hB : Below w.heap.size w w') :
    ∃ A c A' c', v = .slice A n c ∧ v' = .slice A' n' c' ∧ (n ≤ c ∧ c ≤ maxLen) ∧ (n' ≤ c' ∧ c' ≤ maxLen) ∧ St0 All w w' [.row (.slice A n c) e k n xs, .row (.slice A' n' c') e' k' n' xs'] := by
  obtain ⟨A, c, rfl, hk, hS⟩ := own_st0 h hB
  obtain ⟨A', c', rfl, hk', hS'⟩ := own_st0 h' hB
  refine ⟨A, c, A', c', rfl, rfl, hk, hk', ⟨hS.base, ?_, ?_, ?_⟩⟩
  · intro x hx
    rcases List.mem_cons.1 hx with rfl | hx
    · exact hS.ok _ (List.mem_cons_self ..)
    · exact hS'.ok x hx
  · intro x hx
    rcases List.mem_cons.1 hx with rfl | hx
    · exact hS.rng _ (List.mem_cons_self ..)
    · exact hS'.rng x hx
  · refine List.pairwise_cons.2 ⟨fun x hx b h1 h2 => ?_, List.pairwise_singleton _ _⟩
    rw [List.mem_singleton.1 hx] at h2
    rcases h.2 with ⟨h3, _⟩ | ⟨g, cap, cur, h3, _, h4, _⟩
    · cases h3; cases h1
    rcases h'.2 with ⟨h5, _⟩ | ⟨g', cap', cur', h5, _, h6, _⟩
    · cases h5; cases h2
    cases h3; cases h5
    injection h1 with h1; injection h2 with h2
    subst h1; subst h2
    rw [h4] at h6
    injection h6 with h6; injection h6 with _ h7
    exact hne h7
/-! ### Numbers -/
def m_num_Short (l : List Int) : Option (List UInt8 × Int) := cond (decide (l.length ≤ 100000)) (some (shortR l, errN l)) none
theorem c_num_Short (x0 : List Int) (A0 : Option Addr) (c0 : Nat) (w0 : World) (s0 : SlI w0 enI A0 c0 x0) {r : List UInt8 × Int} (H : m_num_Short x0 = some r) : Calls Tryd.prog 60 #[.slice A0 x0.length c0] w0 fun e w' => ∃ (A0 : Option Addr) (c0 : Nat), e = .returned (.tuple #[.slice A0 r.1.length c0, .int .i64 r.2]) ∧ (r.1.length ≤ c0 ∧ c0 ≤ maxLen) ∧ St0 All w0 w' [.row (.slice A0 r.1.length c0) 5 1 r.1.length (encs enY r.1)] := by
  unfold m_num_Short at H
  by_cases h : x0.length ≤ 100000
  · rw [decide_eq_true h] at H
    obtain rfl := Option.some.inj H
    refine (short_any A0 x0.length c0 x0 rfl (by omega) w0 (by rw [ivs_encsN]; exact s0.rd)).mono ?_
    rintro e w' ⟨v, rfl, ho, hB⟩
    obtain ⟨A, c, rfl, hk, hS⟩ := own_st0 ho hB
    exact ⟨A, c, rfl, hk, by rw [← bvs_encs]; exact hS⟩
  · rw [decide_eq_false h] at H; cases H
def m_ref01_Short (l : List Int) : Option (List UInt8 × Int) := cond (decide (l.length ≤ 100000)) (some (shortR l, errN l)) none
theorem c_ref01_Short (x0 : List Int) (A0 : Option Addr) (c0 : Nat) (w0 : World) (s0 : SlI w0 enI A0 c0 x0) {r : List UInt8 × Int} (H : m_ref01_Short x0 = some r) : Calls Tryd.prog 74 #[.slice A0 x0.length c0] w0 fun e w' => ∃ (A0 : Option Addr) (c0 : Nat), e = .returned (.tuple #[.slice A0 r.1.length c0, .int .i64 r.2]) ∧ (r.1.length ≤ c0 ∧ c0 ≤ maxLen) ∧ St0 All w0 w' [.row (.slice A0 r.1.length c0) 5 1 r.1.length (encs enY r.1)] := by
  unfold m_ref01_Short at H
  by_cases h : x0.length ≤ 100000
  · rw [decide_eq_true h] at H
    obtain rfl := Option.some.inj H
    refine (shortR2_any A0 x0.length c0 x0 rfl h w0 (by rw [ivs_encsN]; exact s0.rd)).mono ?_
    rintro e w' ⟨v, rfl, ho, hB⟩
    obtain ⟨A, c, rfl, hk, hS⟩ := own_st0 ho hB
    exact ⟨A, c, rfl, hk, by rw [← bvs_encs]; exact hS⟩
  · rw [decide_eq_false h] at H; cases H
def m_num_Takes (l : List UInt8) (m : Int) : Option (List Int × List UInt8 × Int) := cond (decide (l.length ≤ 100000 ∧ m ≤ 1000000)) (some (tksN l m.toNat)) none
theorem c_num_Takes (x0 : List UInt8) (x1 : Int) (A0 : Option Addr) (c0 : Nat) (w0 : World) (s0 : SlI w0 enY A0 c0 x0) {r : List Int × List UInt8 × Int} (H : m_num_Takes x0 x1 = some r) : Calls Tryd.prog 67 #[.slice A0 x0.length c0, .int .i64 x1] w0 fun e w' => ∃ (A0 : Option Addr) (c0 : Nat) (A1 : Option Addr) (c1 : Nat), e = .returned (.tuple #[.slice A0 r.1.length c0, .slice A1 r.2.1.length c1, .int .i64 r.2.2]) ∧ (r.1.length ≤ c0 ∧ c0 ≤ maxLen) ∧ (r.2.1.length ≤ c1 ∧ c1 ≤ maxLen) ∧ St0 All w0 w' [.row (.slice A0 r.1.length c0) 3 1 r.1.length (encs enI r.1), .row (.slice A1 r.2.1.length c1) 5 1 r.2.1.length (encs enY r.2.1)] := by
  unfold m_num_Takes at H
  by_cases h : x0.length ≤ 100000 ∧ x1 ≤ 1000000
  · rw [decide_eq_true h] at H
    obtain rfl := Option.some.inj H
    refine (takes_n A0 x0.length c0 x0 rfl x1 h.2 (by omega) w0 (by rw [bvs_encs]; exact s0.rd) s0.le s0.cap).mono ?_
    rintro e w' ⟨v, u, rfl, ho, ho', hB⟩
    obtain ⟨A, c, A', c', rfl, rfl, hk, hk', hS⟩ := own_st02 ho ho' (by decide) hB
    exact ⟨A, c, A', c', rfl, hk, hk', by rw [← bvs_encs, ← ivs_encsN]; exact hS⟩
  · rw [decide_eq_false h] at H; cases H
def m_ref01_Takes (l : List UInt8) (m : Int) : Option (List Int × List UInt8 × Int) := cond (decide (l.length ≤ 100000 ∧ m ≤ 1000000)) (some (tksN l m.toNat)) none
theorem c_ref01_Takes (x0 : List UInt8) (x1 : Int) (A0 : Option Addr) (c0 : Nat) (w0 : World) (s0 : SlI w0 enY A0 c0 x0) {r : List Int × List UInt8 × Int} (H : m_ref01_Takes x0 x1 = some r) : Calls Tryd.prog 77 #[.slice A0 x0.length c0, .int .i64 x1] w0 fun e w' => ∃ (A0 : Option Addr) (c0 : Nat) (A1 : Option Addr) (c1 : Nat), e = .returned (.tuple #[.slice A0 r.1.length c0, .slice A1 r.2.1.length c1, .int .i64 r.2.2]) ∧ (r.1.length ≤ c0 ∧ c0 ≤ maxLen) ∧ (r.2.1.length ≤ c1 ∧ c1 ≤ maxLen) ∧ St0 All w0 w' [.row (.slice A0 r.1.length c0) 3 1 r.1.length (encs enI r.1), .row (.slice A1 r.2.1.length c1) 5 1 r.2.1.length (encs enY r.2.1)] := by
  unfold m_ref01_Takes at H
  by_cases h : x0.length ≤ 100000 ∧ x1 ≤ 1000000
  · rw [decide_eq_true h] at H
    obtain rfl := Option.some.inj H
    refine (takesR_any A0 c0 x0 x1 h.2 (by omega) w0 (by rw [bvs_encs]; exact s0.rd) s0.le s0.cap).mono ?_
    rintro e w' ⟨v, u, rfl, ho, ho', hB⟩
    obtain ⟨A, c, A', c', rfl, rfl, hk, hk', hS⟩ := own_st02 ho ho' (by decide) hB
    exact ⟨A, c, A', c', rfl, hk, hk', by rw [← bvs_encs, ← ivs_encsN]; exact hS⟩
  · rw [decide_eq_false h] at H; cases H
/-! ### Sums -/
def enU (n : Nat) : List Value := [.int .u32 (n : Int)]
def tabU : List Nat := (List.range 16).map tab
theorem rows_of {w : World} (h : SlI w enU (some ⟨0, 0, none⟩) 16 tabU) : RowsOK w := fun i hi => by
  have he : (encs enU tabU)[i]? = some (.int .u32 (tab i : Nat)) := by
    have : ∀ i, i < 16 → (encs enU tabU)[i]? = some (.int .u32 (tab i : Nat)) := by
      intro i hi
      have e : encs enU tabU = ((List.range 16).map fun i => (.int .u32 (tab i : Nat) : Value)) := by
        unfold encs tabU enU
        rw [List.flatMap_map]
        rfl
      rw [e, List.getElem?_map, List.getElem?_range hi]; rfl
    exact this i hi
  obtain ⟨b, o, hA, _, hc⟩ := h.rd i _ he
  cases hA
  rw [Nat.zero_add] at hc
  exact hc
theorem sl_of_rows {w : World} (h : RowsOK w) (hs : 0 < w.heap.size) : SlI w enU (some ⟨0, 0, none⟩) 16 tabU := by
  have e : encs enU tabU = ((List.range 16).map fun i => (.int .u32 (tab i : Nat) : Value)) := by
    unfold encs tabU enU
    rw [List.flatMap_map]
    rfl
  refine ⟨by simp [tabU], by unfold maxLen; decide, fun j u hj => ?_, fun a ha => by cases ha; exact hs⟩
  rw [e, List.getElem?_map] at hj
  have hj16 : j < 16 := by
    rcases Nat.lt_or_ge j 16 with h | h
    · exact h
    · rw [List.getElem?_eq_none (by simpa using h)] at hj; cases hj
  rw [List.getElem?_range hj16] at hj
  cases hj
  exact ⟨0, 0, rfl, hs, by rw [Nat.zero_add]; exact h j hj16⟩
def m_crc_Put (l : List UInt8) : Option (List UInt8) := cond (decide (l.length ≤ 100000)) (some (putN l)) none
theorem putN_len (l : List UInt8) : (putN l).length = l.length + 4 := by unfold putN; rw [List.length_append]; rfl
theorem c_crc_Put (x0 : List UInt8) (A0 : Option Addr) (c0 : Nat) (w0 : World) (s0 : SlI w0 enY A0 c0 x0) (hT : SlI w0 enU (some ⟨0, 0, none⟩) 16 tabU) {r : List UInt8} (H : m_crc_Put x0 = some r) : Calls Tryd.prog 52 #[.slice A0 x0.length c0] w0 fun e w' => ∃ (A0 : Option Addr) (c0 : Nat), e = .returned (.slice A0 r.length c0) ∧ (r.length ≤ c0 ∧ c0 ≤ maxLen) ∧ St0 All w0 w' [.row (.slice A0 r.length c0) 5 1 r.length (encs enY r)] := by
  unfold m_crc_Put at H
  by_cases h : x0.length ≤ 100000
  · rw [decide_eq_true h] at H
    obtain rfl := Option.some.inj H
    refine (put_any A0 c0 x0 (by omega) s0.le s0.cap w0 (by rw [bvs_encs]; exact s0.rd) (rows_of hT)).mono ?_
    rintro e w' ⟨v, rfl, ho, hB⟩
    rw [← putN_len] at ho
    obtain ⟨A, c, rfl, hk, hS⟩ := own_st0 ho hB
    exact ⟨A, c, rfl, hk, by rw [← bvs_encs]; exact hS⟩
  · rw [decide_eq_false h] at H; cases H
def m_ref03_Put (l : List UInt8) : Option (List UInt8) := cond (decide (l.length ≤ 100000)) (some (putN l)) none
theorem c_ref03_Put (x0 : List UInt8) (A0 : Option Addr) (c0 : Nat) (w0 : World) (s0 : SlI w0 enY A0 c0 x0) {r : List UInt8} (H : m_ref03_Put x0 = some r) : Calls Tryd.prog 75 #[.slice A0 x0.length c0] w0 fun e w' => ∃ (A0 : Option Addr) (c0 : Nat), e = .returned (.slice A0 r.length c0) ∧ (r.length ≤ c0 ∧ c0 ≤ maxLen) ∧ St0 All w0 w' [.row (.slice A0 r.length c0) 5 1 r.length (encs enY r)] := by
  unfold m_ref03_Put at H
  by_cases h : x0.length ≤ 100000
  · rw [decide_eq_true h] at H
    obtain rfl := Option.some.inj H
    refine (putR_any A0 c0 x0 (by omega) s0.le s0.cap w0 (by rw [bvs_encs]; exact s0.rd)).mono ?_
    rintro e w' ⟨v, rfl, ho, hB⟩
    rw [← putN_len] at ho
    obtain ⟨A, c, rfl, hk, hS⟩ := own_st0 ho hB
    exact ⟨A, c, rfl, hk, by rw [← bvs_encs]; exact hS⟩
  · rw [decide_eq_false h] at H; cases H
def m_crc_Take (l : List UInt8) : Option (List UInt8 × Bool) := cond (decide (l.length ≤ 100000)) (some ((takeN l).getD [], (takeN l).isSome)) none
theorem c_crc_Take (x0 : List UInt8) (A0 : Option Addr) (c0 : Nat) (w0 : World) (s0 : SlI w0 enY A0 c0 x0) (hT : SlI w0 enU (some ⟨0, 0, none⟩) 16 tabU) {r : List UInt8 × Bool} (H : m_crc_Take x0 = some r) : Calls Tryd.prog 66 #[.slice A0 x0.length c0] w0 fun e w' => ∃ (A0 : Option Addr) (c0 : Nat), e = .returned (.tuple #[.slice A0 r.1.length c0, .bool r.2]) ∧ (r.1.length ≤ c0 ∧ c0 ≤ maxLen) ∧ St0 All w0 w' [.row (.slice A0 r.1.length c0) 5 1 r.1.length (encs enY r.1)] := by
  unfold m_crc_Take at H
  by_cases h : x0.length ≤ 100000
  · rw [decide_eq_true h] at H
    obtain rfl := Option.some.inj H
    refine (ctake_any A0 c0 x0 (by omega) s0.le s0.cap w0 (by rw [bvs_encs]; exact s0.rd) (rows_of hT)).mono ?_
    rintro e w' ⟨v, rfl, ho, hB⟩
    obtain ⟨A, c, rfl, hk, hS⟩ := own_st0 ho hB
    exact ⟨A, c, rfl, hk, by rw [← bvs_encs]; exact hS⟩
  · rw [decide_eq_false h] at H; cases H
def m_ref03_Take (l : List UInt8) : Option (List UInt8 × Bool) := cond (decide (l.length ≤ 100000)) (some ((takeN l).getD [], (takeN l).isSome)) none
theorem c_ref03_Take (x0 : List UInt8) (A0 : Option Addr) (c0 : Nat) (w0 : World) (s0 : SlI w0 enY A0 c0 x0) {r : List UInt8 × Bool} (H : m_ref03_Take x0 = some r) : Calls Tryd.prog 76 #[.slice A0 x0.length c0] w0 fun e w' => ∃ (A0 : Option Addr) (c0 : Nat), e = .returned (.tuple #[.slice A0 r.1.length c0, .bool r.2]) ∧ (r.1.length ≤ c0 ∧ c0 ≤ maxLen) ∧ St0 All w0 w' [.row (.slice A0 r.1.length c0) 5 1 r.1.length (encs enY r.1)] := by
  unfold m_ref03_Take at H
  by_cases h : x0.length ≤ 100000
  · rw [decide_eq_true h] at H
    obtain rfl := Option.some.inj H
    refine (ctakeR_any A0 c0 x0 (by omega) s0.le s0.cap w0 (by rw [bvs_encs]; exact s0.rd)).mono ?_
    rintro e w' ⟨v, rfl, ho, hB⟩
    obtain ⟨A, c, rfl, hk, hS⟩ := own_st0 ho hB
    exact ⟨A, c, rfl, hk, by rw [← bvs_encs]; exact hS⟩
  · rw [decide_eq_false h] at H; cases H
/-! ### The same bytes -/
theorem same11_any (A B : Option Addr) (c d : Nat) (l m : List UInt8) (w : World) (hA : Rd w A (bvs l)) (hB : Rd w B (bvs m)) :
    Calls Tryd.prog 35 #[.slice A l.length c, .slice B m.length d] w fun e w' => e = .returned (.bool (decide (l = m))) ∧ w' = w := by
  have e1 := run_str hA c 23 5 Tryd.underlying23 Tryd.underlying5
  have e2 := run_str hB d 23 5 Tryd.underlying23 Tryd.underlying5
  go_enter Tryd.func35, Tryd.ntmps35
  go_wp2
  go_returns
  exact ⟨ret_bool (bstr_beq l m), rfl⟩
def m_law11_same (l m : List UInt8) : Option Bool := some (decide (l = m))
theorem c_law11_same (x0 x1 : List UInt8) (A0 : Option Addr) (c0 : Nat) (A1 : Option Addr) (c1 : Nat) (w0 : World) (s0 : SlI w0 enY A0 c0 x0) (s1 : SlI w0 enY A1 c1 x1) {r : Bool} (H : m_law11_same x0 x1 = some r) : Calls Tryd.prog 35 #[.slice A0 x0.length c0, .slice A1 x1.length c1] w0 fun e w' => e = .returned (.bool r) ∧ St0 All w0 w' [] := by
  obtain rfl := Option.some.inj H
  refine (same11_any A0 A1 c0 c1 x0 x1 w0 (by rw [bvs_encs]; exact s0.rd) (by rw [bvs_encs]; exact s1.rd)).mono ?_
  rintro e w' ⟨rfl, rfl⟩
  exact ⟨rfl, St0.start All _⟩
def m_bytes_Equal (l m : List UInt8) : Option Bool := some (decide (l = m))
theorem c_bytes_Equal (x0 x1 : List UInt8) (A0 : Option Addr) (c0 : Nat) (A1 : Option Addr) (c1 : Nat) (w0 : World) (s0 : SlI w0 enY A0 c0 x0) (s1 : SlI w0 enY A1 c1 x1) {r : Bool} (H : m_bytes_Equal x0 x1 = some r) : Calls Tryd.prog 69 #[.slice A0 x0.length c0, .slice A1 x1.length c1] w0 fun e w' => e = .returned (.bool r) ∧ St0 All w0 w' [] := by
  obtain rfl := Option.some.inj H
  refine (equal_any A0 A1 c0 c1 x0 x1 w0 (by rw [bvs_encs]; exact s0.rd) (by rw [bvs_encs]; exact s1.rd)).mono ?_
  rintro e w' ⟨rfl, rfl⟩
  exact ⟨rfl, St0.start All _⟩
end Go.Proofs.YtofheinbbefbcaaDoor
/- The door of the laws of layers 7 and 11: the table as it is laid. -/
namespace Go.Proofs.YtofheinbbefbcaaDoor
open Go Go.ChangeShapes Go.WideShapes Go.ChangeAt Go.RowKit
set_option maxRecDepth 100000
def tabZ : List Int := tabL.map fun (n : Nat) => (n : Int)
theorem rows_of_laid {W : World} (h : laidMetH Tryd.prog [("moult/crc.rows", Rows.laid_moult_crc_rows)] W) : RowsOK W := by
  have h' : laidMet Tryd.prog [("moult/crc.rows", Lib.tabData .u32 tabZ)] W := h
  have hg : Tryd.prog.globalNamed "moult/crc.rows" = some 0 := by kernel_rfl
  have ht := Lib.tabIs_of_head hg (t := 131) (e := 115) (n := 16) (by kernel_rfl) Tryd.underlying131 Tryd.underlying115 (by kernel_rfl) (by kernel_rfl) h'
  intro i hi
  have := ht.cell hg i hi
  rw [this]
  have e : ∀ j, j < 16 → tabZ.getD j 0 = (tab j : Nat) := by decide
  rw [← e i hi]
theorem pos_of_rows {W : World} (h : RowsOK W) : 0 < W.heap.size := by
  have := h 0 (by decide)
  rcases Nat.eq_zero_or_pos W.heap.size with h0 | h0
  · exfalso
    have hn : W.heap[0]? = none := Array.getElem?_eq_none (by omega)
    simp [World.cell?, hn] at this
  · exact h0
theorem table_of_laid {W : World} (h : laidMetH Tryd.prog [("moult/crc.rows", Rows.laid_moult_crc_rows)] W) : SlI W enU (some ⟨0, 0, none⟩) 16 tabU := sl_of_rows (rows_of_laid h) (pos_of_rows (rows_of_laid h))
theorem door_met (os : Os) (args : Array Value) : laidMetH Tryd.prog [("moult/crc.rows", Rows.laid_moult_crc_rows)] ((World.doorLaid Tryd.prog 17 os).forCall (fun _ _ => 0) ⟨#[], args, []⟩).memory :=
  laidMetH_of_parts3 (fuel := 8) (laidMet_of_run' 8 (by kernel_rfl) (by kernel_rfl)) (by kernel_rfl) (by kernel_rfl)
end Go.Proofs.YtofheinbbefbcaaDoor
/- Laws for walks that a program of mine prints, fourth part: runs of steps that need no world, at once. -/
namespace Go.Proofs.YtofheinbbefbcaaDoor
open Go Go.RowKit
set_option maxRecDepth 100000
/-- Steps that are skipped, or only move what is there: so many, from these slots. -/
def quick (ops : Array Oper) (M : Nat) : Nat → List Oper → List (Nat × Value) → Option (List Oper × List (Nat × Value))
  | 0, l, L => some (l, L)
  | n + 1, o :: l, L =>
    match wantB ops L o.guard with
    | some false => match o.dst with
      | some d => bif Nat.ble (d + 1) M then quick ops M n l ((d, undef) :: L) else none
      | none => quick ops M n l L
    | some true => match o.dst with
      | some d => bif Nat.ble (d + 1) M then
          match o.op with
          | .move x => match ev L x with
            | some v => quick ops M n l ((d, v) :: L)
            | none => none
          | .assign x => match ev L x with
            | some v => quick ops M n l ((d, v) :: L)
            | none => none
          | .pick c x y => match ev L c with
            | some (.bool true) => match ev L x with
              | some v => quick ops M n l ((d, v) :: L)
              | none => none
            | some (.bool false) => match ev L y with
              | some v => quick ops M n l ((d, v) :: L)
              | none => none
            | _ => none
          | _ => none
        else none
      | none => none
    | none => none
  | _ + 1, [], _ => none
section
variable {P : Program} {ops : Array Oper} {Q : Exit → Act → World → Prop} {N : FS} {w : World}
theorem wpS_quick : ∀ (n : Nat) {l l' : List Oper} {L L' : List (Nat × Value)}, quick ops N.n n l L = some (l', L') → wpS P ops Q l' N L' w → wpS P ops Q l N L w
  | 0, l, l', L, L', h, k => by
    simp only [quick, Option.some.injEq, Prod.mk.injEq] at h
    obtain ⟨rfl, rfl⟩ := h
    exact k
  | n + 1, [], l', L, L', h, k => by cases h
  | n + 1, ⟨dst, op, ty, pos, af, g⟩ :: l, l', L, L', h, k => by
    unfold quick at h
    split at h
    · rename_i hg
      split at h
      · rename_i d hd
        cases hb : Nat.ble (d + 1) N.n with
        | false => rw [hb] at h; cases h
        | true =>
          rw [hb] at h
          exact wpS_skip hg hd hb (wpS_quick n h k)
      · rename_i hd
        exact wpS_skip0 hg hd (wpS_quick n h k)
    · rename_i hg
      split at h
      · rename_i d hd
        cases hb : Nat.ble (d + 1) N.n with
        | false => rw [hb] at h; cases h
        | true =>
          rw [hb] at h
          dsimp only [cond_true] at h
          split at h
          · rename_i x
            split at h
            · rename_i v hv
              exact wpS_put hg hd hb (yv_move hv) (wpS_quick n h k)
            · cases h
          · rename_i x
            split at h
            · rename_i v hv
              exact wpS_put hg hd hb (yv_assign hv) (wpS_quick n h k)
            · cases h
          · rename_i c x y
            split at h
            · rename_i hc
              split at h
              · rename_i v hv
                exact wpS_put hg hd hb (yv_pick_t hc rfl hv) (wpS_quick n h k)
              · cases h
            · rename_i hc
              split at h
              · rename_i v hv
                exact wpS_put hg hd hb (yv_pick_f hc rfl hv) (wpS_quick n h k)
              · cases h
            · cases h
          · cases h
      · cases h
    · cases h
end
end Go.Proofs.YtofheinbbefbcaaDoor
/- Laws for walks that a program of mine prints, fifth part: new variables that may come up at any time beside a region's calls. -/
namespace Go.Proofs.YtofheinbbefbcaaDoor
open Go Go.RowKit
set_option maxRecDepth 100000
/-- A new variable: its operation's number, its slot, its type, the cells. -/
structure FlI where
  i : Nat
  d : Nat
  T : Nat
  zs : List Value
def subs {α : Type} : List α → List (List α)
  | [] => [[]]
  | x :: l => subs l ++ (subs l).map (x :: ·)
theorem mem_subs {α : Type} {a l : List α} (h : List.Sublist a l) : a ∈ subs l := by
  induction h with
  | slnil => simp [subs]
  | cons x h ih => simp only [subs, List.mem_append]; exact .inl ih
  | cons_cons x h ih => simp only [subs, List.mem_append, List.mem_map]; exact .inr ⟨_, ih, rfl⟩
def tkH (tk : List (FlI × Nat)) : List Ent := tk.map fun p => .box p.2 p.1.zs p.1.T
def tkL (tk : List (FlI × Nat)) : List (Nat × Value) := tk.map fun p => (p.1.d, .pointer (some ⟨p.2, 0, none⟩))
def tkI (tk : List (FlI × Nat)) : List Nat := tk.map (·.1.i)
/-- Which of the new variables are there already. -/
structure Tk (fl : List FlI) (tk : List (FlI × Nat)) (X : List Ent) (Y : List (Nat × Value)) : Prop where
  sub : List.Sublist (tk.map (·.1)) fl
  hX : X = tkH tk
  hY : Y = tkL tk
theorem insert_tk {fl : List FlI} : ∀ {tk : List (FlI × Nat)}, List.Sublist (tk.map (·.1)) fl → ∀ {f : FlI} (b : Nat), f ∈ fl → (∀ p ∈ tk, p.1 ≠ f) → ∃ tk2 : List (FlI × Nat), List.Sublist (tk2.map (·.1)) fl ∧ tk2.Perm ((f, b) :: tk) := by
  induction fl with
  | nil => intro tk _ f b hf _; cases hf
  | cons g fl ih =>
    intro tk hs f b hf hn
    by_cases hgf : g = f
    · subst hgf
      have hs' : List.Sublist (tk.map (·.1)) fl := by
        generalize hm : tk.map (·.1) = m at hs
        cases hs with
        | cons _ h => exact h
        | cons_cons _ h =>
          exfalso
          cases tk with
          | nil => cases hm
          | cons p tk => simp only [List.map_cons, List.cons.injEq] at hm; exact hn p (by simp) hm.1
      exact ⟨(g, b) :: tk, List.Sublist.cons_cons _ hs', List.Perm.refl _⟩
    · have hf' : f ∈ fl := by rcases List.mem_cons.1 hf with h | h
                              · exact (hgf h.symm).elim
                              · exact h
      generalize hm : tk.map (·.1) = m at hs
      cases hs with
      | cons _ h =>
        rw [← hm] at h
        obtain ⟨tk2, h1, h2⟩ := ih h b hf' hn
        exact ⟨tk2, List.Sublist.cons _ h1, h2⟩
      | @cons_cons l1 _ _ h =>
        cases tk with
        | nil => cases hm
        | cons p tk =>
          simp only [List.map_cons, List.cons.injEq] at hm
          obtain ⟨hp, ht⟩ := hm
          rw [← ht] at h
          obtain ⟨tk2, h1, h2⟩ := ih h b hf' (fun q hq => hn q (by simp [hq]))
          refine ⟨p :: tk2, ?_, (h2.cons p).trans (.swap _ _ _)⟩
          rw [List.map_cons, hp]
          exact List.Sublist.cons_cons _ h1
theorem listAll_perm {a b : List Nat} (h : a.Perm b) : ∀ (l : Array Bool), listAll l a = listAll l b := by
  induction h with
  | nil => intro l; rfl
  | cons x h ih => intro l; simp only [listAll]; exact ih _
  | swap x y l0 =>
    intro l
    simp only [listAll]
    congr 1
    by_cases hxy : x = y
    · subst hxy; rfl
    · apply Array.ext_getElem?
      intro i
      simp only [Array.getElem?_setIfInBounds, Array.size_setIfInBounds]
      by_cases h1 : x = i <;> by_cases h2 : y = i <;> simp_all
  | trans h1 h2 ih1 ih2 => intro l; rw [ih1, ih2]
theorem listAll_append : ∀ (a b : List Nat) (l : Array Bool), listAll l (a ++ b) = listAll (listAll l a) b
  | [], _, _ => rfl
  | x :: a, b, l => by simp only [List.cons_append, listAll]; exact listAll_append a b _
section
variable {P : Program} {md : Region.Mode} {ops : Array Oper} {G : Nat → Nat → Prop} {sl : List Nat} {Q : Exit → Act → World → Prop} {N : FS} {w w0 : World} {S : Nat → Prop} {H : List Ent} {L : List (Nat × Value)} {fl : List FlI}
/-- The new variables are as the operations have them. -/
structure FlOk (P : Program) (ops : Array Oper) (N : FS) (sl : List Nat) (fl : List FlI) : Prop where
  op : ∀ f ∈ fl, ∃ ty pos af, ops[f.i]? = some ⟨some f.d, .alloc f.T, ty, pos, af, none⟩
  zc : ∀ f ∈ fl, ZcC P f.T f.zs
  le : ∀ f ∈ fl, Nat.ble (f.d + 1) N.n = true
  off : ∀ f ∈ fl, f.i ∉ sl
  inj : fl.Pairwise (fun f g => f.i ≠ g.i ∧ f.d ≠ g.d)
/-- A region under way, whichever of the new variables are there already. -/
structure wpRF (P : Program) (md : Region.Mode) (ops : Array Oper) (G : Nat → Nat → Prop) (sl : List Nat) (fl : List FlI) (Q : Exit → Act → World → Prop) (f : Nat) (listed : Array Bool) (N : FS) (S : Nat → Prop) (w0 : World) (Lf : List (Nat × Value) → List (Nat × Value)) (Hf : List Ent → List Ent) : Prop where
  go : ∀ X Y tk, Tk fl tk X Y → ∀ w, St0 S w0 w (Hf X) → wpR P md ops G sl Q (f - tk.length) (listAll listed (tkI tk)) N (Lf Y) w
theorem FlOk.nil : FlOk P ops N sl [] := ⟨fun _ h => (by cases h), fun _ h => (by cases h), fun _ h => (by cases h), fun _ h => (by cases h), List.Pairwise.nil⟩
theorem FlOk.cons {i d T : Nat} {zs : List Value} {ty : TypeId} {pos : String} {af : Array Edge} (hop : ops[i]? = some ⟨some d, .alloc T, ty, pos, af, none⟩) (hz : ZcC P T zs) (hle : Nat.ble (d + 1) N.n = true) (hoff : sl.contains i = false) (hinj : (fl.all fun g => !(Nat.beq g.i i) && !(Nat.beq g.d d)) = true) (h : FlOk P ops N sl fl) : FlOk P ops N sl (⟨i, d, T, zs⟩ :: fl) := by
  refine ⟨fun f hf => ?_, fun f hf => ?_, fun f hf => ?_, fun f hf => ?_, List.pairwise_cons.2 ⟨fun g hg => ?_, h.inj⟩⟩
  · rcases List.mem_cons.1 hf with rfl | hf
    · exact ⟨_, _, _, hop⟩
    · exact h.op f hf
  · rcases List.mem_cons.1 hf with rfl | hf
    · exact hz
    · exact h.zc f hf
  · rcases List.mem_cons.1 hf with rfl | hf
    · exact hle
    · exact h.le f hf
  · rcases List.mem_cons.1 hf with rfl | hf
    · simpa using hoff
    · exact h.off f hf
  · have := List.all_eq_true.1 hinj g hg
    simp only [Bool.and_eq_true, Bool.not_eq_true'] at this
    refine ⟨fun h0 => ?_, fun h0 => ?_⟩
    · have h1 := this.1; rw [← h0] at h1; simp at h1
    · have h1 := this.2; rw [← h0] at h1; simp at h1
theorem wpRF_start (fl : List FlI) {f : Nat} {listed : Array Bool} (hok : FlOk P ops N sl fl) (hS : St0 S w0 w H) (k : FlOk P ops N sl fl → wpRF P md ops G sl fl Q f listed N S w0 (fun Y => L ++ Y) (fun X => H ++ X)) : wpR P md ops G sl Q f listed N L w := by
  have := (k hok).go [] [] [] ⟨List.nil_sublist _, rfl, rfl⟩ w (by simpa using hS)
  simpa [tkI, listAll] using this
/-- Where nothing but j may come up beside the new variables. -/
def onlyB (md : Region.Mode) (ops : Array Oper) (fl : List FlI) (listed : Array Bool) (js : List Nat) : Bool :=
  (subs fl).all fun t => (Region.ready md ops (listAll listed (t.map (·.i)))).all fun r => js.contains r || (fl.any fun f => Nat.beq f.i r && !((t.map (·.i)).contains r))
theorem only_spec {listed : Array Bool} {js : List Nat} (h : onlyB md ops fl listed js = true) {tk : List (FlI × Nat)} (hs : List.Sublist (tk.map (·.1)) fl) : ∀ r ∈ Region.ready md ops (listAll listed (tkI tk)), r ∈ js ∨ ∃ f ∈ fl, f.i = r ∧ ∀ p ∈ tk, p.1 ≠ f := by
  intro r hr
  have h1 := List.all_eq_true.1 h _ (mem_subs hs)
  have e : ((tk.map (·.1)).map (·.i)) = tkI tk := by simp [tkI]
  rw [e] at h1
  have h2 := List.all_eq_true.1 h1 r hr
  simp only [Bool.or_eq_true, List.contains_eq_mem, decide_eq_true_eq, List.any_eq_true, Bool.and_eq_true, Bool.not_eq_true', decide_eq_false_iff_not] at h2
  rcases h2 with h2 | ⟨f, hf, hi, hn⟩
  · exact .inl h2
  · have hi' := Nat.eq_of_beq_eq_true hi
    refine .inr ⟨f, hf, hi', fun p hp hpf => hn ?_⟩
    rw [← hi', ← hpf]
    exact List.mem_map.2 ⟨p, hp, rfl⟩
/-- One of the new variables comes. -/
theorem float_step {f : Nat} {listed : Array Bool} {Lf : List (Nat × Value) → List (Nat × Value)} {Hf : List Ent → List Ent} (hok : FlOk P ops N sl fl) (hL : ∀ Y, Lf Y = Lf [] ++ Y) (hH : ∀ X, Hf X = Hf [] ++ X) (hk : ((Lf []).all fun p => fl.all fun f => !(Nat.beq p.1 f.d)) = true)
    {tk : List (FlI × Nat)} (hs : List.Sublist (tk.map (·.1)) fl) (hS : St0 S w0 w (Hf (tkH tk))) {g : FlI} (hg : g ∈ fl) (hn : ∀ p ∈ tk, p.1 ≠ g)
    (next : ∀ tk2, tk2.length = tk.length + 1 → List.Sublist (tk2.map (·.1)) fl → ∀ w2, St0 S w0 w2 (Hf (tkH tk2)) → wpR P md ops G sl Q f (listAll listed (tkI tk2)) N (Lf (tkL tk2)) w2) {a : Act} (hF : Fr N (Lf (tkL tk)) a) :
    wpOp P ops Q g.i (fun a' w' => ((g.i ∈ sl → KeepB (G g.i) w w') ∧ (g.i ∉ sl → Below w.heap.size w w')) ∧ wpF P md ops G sl Q f ((listAll listed (tkI tk)).setIfInBounds g.i true) a' w') a w := by
  obtain ⟨ty, pos, af, hop⟩ := hok.op g hg
  have hoff := hok.off g hg
  refine op_of_list hop ?_
  have h1 : wpS P ops (Exit.then (fun a' w' => ((g.i ∈ sl → KeepB (G g.i) w w') ∧ (g.i ∉ sl → Below w.heap.size w w')) ∧ wpF P md ops G sl Q f ((listAll listed (tkI tk)).setIfInBounds g.i true) a' w') Q) [⟨some g.d, .alloc g.T, ty, pos, af, none⟩] N (Lf (tkL tk)) w := by
    refine wpS_alloc rfl (hok.le g hg) (hok.zc g hg) hS (fun b w2 hS2 hB => wpS_nil ⟨fun a2 hF2 => ?_⟩)
    obtain ⟨tk2, h2, hp⟩ := insert_tk hs b hg hn
    refine ⟨⟨fun h => (hoff h).elim, fun _ => hB⟩, ?_⟩
    have hHp : (Ent.box b g.zs g.T :: Hf (tkH tk)).Perm (Hf (tkH tk2)) := by
      rw [hH, hH (tkH tk2)]
      have e1 : (tkH tk2).Perm (.box b g.zs g.T :: tkH tk) := by unfold tkH; exact hp.map _
      exact (List.perm_middle.symm).trans ((List.Perm.refl _).append e1.symm)
    have hI : listAll listed (tkI tk2) = (listAll listed (tkI tk)).setIfInBounds g.i true := by
      have e1 : (tkI tk2).Perm (tkI tk ++ [g.i]) := by
        unfold tkI
        exact (hp.map _).trans (by rw [List.map_cons]; exact (List.perm_append_comm (l₁ := [g.i])))
      rw [listAll_perm e1, listAll_append]; rfl
    have hR := next tk2 (by rw [hp.length_eq]; rfl) h2 w2 (hS2.reord hHp)
    rw [hI] at hR
    refine hR.go a2 ⟨hF2.size, hF2.defers, fun k v hkv => hF2.at_ k v ?_⟩
    have hlk : ∀ (A B : List (Nat × Value)), lk (A ++ B) k = (match lk A k with | some v => some v | none => lk B k) := by
      intro A B
      induction A with
      | nil => rfl
      | cons p A ih =>
        obtain ⟨q, u⟩ := p
        simp only [List.cons_append, lk]
        cases hq : Nat.beq q k with
        | true => rfl
        | false => simpa using ih
    have hslot : ∀ (tkx : List (FlI × Nat)), (tkx.map (·.1.d)).Nodup → ∀ p ∈ tkx, lk (tkL tkx) p.1.d = some (.pointer (some ⟨p.2, 0, none⟩)) := by
      intro tkx
      induction tkx with
      | nil => intro _ p hp; cases hp
      | cons q tkx ih =>
        intro hnd p hp
        simp only [List.map_cons, List.nodup_cons] at hnd
        rcases List.mem_cons.1 hp with rfl | hp
        · simp [tkL, lk]
        · have hne : q.1.d ≠ p.1.d := fun h => hnd.1 (by rw [h]; exact List.mem_map.2 ⟨p, hp, rfl⟩)
          have : Nat.beq q.1.d p.1.d = false := by
            cases hb : Nat.beq q.1.d p.1.d with
            | false => rfl
            | true => exact (hne (Nat.eq_of_beq_eq_true hb)).elim
          show lk ((q.1.d, _) :: tkL tkx) p.1.d = _
          simp only [lk, this]
          exact ih hnd.2 p hp
    have hmem : ∀ (tkx : List (FlI × Nat)) k v, lk (tkL tkx) k = some v → ∃ p ∈ tkx, p.1.d = k ∧ v = .pointer (some ⟨p.2, 0, none⟩) := by
      intro tkx k v h
      have := lk_mem h
      obtain ⟨p, hp, he⟩ := List.mem_map.1 this
      injection he with h1 h2
      exact ⟨p, hp, h1, h2.symm⟩
    have hnd : ∀ (tkx : List (FlI × Nat)), List.Sublist (tkx.map (·.1)) fl → (tkx.map (·.1.d)).Nodup := by
      intro tkx hsx
      have := (hok.inj.sublist hsx).imp (fun h => h.2)
      have h3 : (tkx.map (·.1)).map (·.d) = tkx.map (·.1.d) := by simp
      rw [← h3]
      exact List.pairwise_map.2 this
    simp only [lk]
    have hno : ∀ q ∈ fl, lk (Lf []) q.d = none := by
      intro q hq
      cases hl : lk (Lf []) q.d with
      | none => rfl
      | some u =>
        have := List.all_eq_true.1 hk _ (lk_mem hl)
        have := List.all_eq_true.1 this q hq
        simp at this
    rw [hL, hlk] at hkv
    rw [hL, hlk]
    cases hl : lk (Lf []) k with
    | some u =>
      rw [hl] at hkv
      have : Nat.beq g.d k = false := by
        cases hb : Nat.beq g.d k with
        | false => rfl
        | true =>
          have := Nat.eq_of_beq_eq_true hb
          rw [← this, hno g hg] at hl
          cases hl
      rw [this]
      exact hkv
    | none =>
      rw [hl] at hkv
      obtain ⟨p, hpm, hpk, hpv⟩ := hmem tk2 k v hkv
      have hp' := hp.mem_iff.1 hpm
      rcases List.mem_cons.1 hp' with rfl | hp'
      · dsimp only at hpk hpv
        subst hpk
        simp [hpv]
      · have hne : g.d ≠ k := by
          intro h0
          have h1 := hnd tk2 h2
          have h4 : ((g, b) :: tk).map (·.1.d) |>.Nodup := (hp.map (·.1.d)).nodup_iff.1 h1
          simp only [List.map_cons, List.nodup_cons] at h4
          exact h4.1 (by rw [h0, ← hpk]; exact List.mem_map.2 ⟨p, hp', rfl⟩)
        have : Nat.beq g.d k = false := by
          cases hb : Nat.beq g.d k with
          | false => rfl
          | true => exact (hne (Nat.eq_of_beq_eq_true hb)).elim
        rw [this]
        show lk (tkL tk) k = some v
        rw [← hpk, hslot tk (hnd tk hs) p hp', hpv]
  exact h1.go a hF
theorem hend_of {listed : Array Bool} (h : (subs fl).all (fun t => !(Region.ready md ops (listAll listed (t.map (·.i)))).isEmpty) = true) : ∀ tk : List (FlI × Nat), List.Sublist (tk.map (·.1)) fl → Region.ready md ops (listAll listed (tkI tk)) ≠ [] := fun tk hs h0 => by
  have e : ((tk.map (·.1)).map (·.i)) = tkI tk := by simp [tkI]
  have h1 := List.all_eq_true.1 h _ (mem_subs hs)
  rw [e, h0] at h1
  simp at h1
theorem tk_nil {tk : List (FlI × Nat)} (h : tk.map (·.1) = []) : tk = [] := by simpa using h
theorem tk_cons {f : FlI} {fl : List FlI} {tk : List (FlI × Nat)} (h : tk.map (·.1) = f :: fl) : ∃ b tk', tk = (f, b) :: tk' ∧ tk'.map (·.1) = fl := by
  cases tk with
  | nil => cases h
  | cons p tk =>
    simp only [List.map_cons, List.cons.injEq] at h
    obtain ⟨h1, h2⟩ := h
    exact ⟨p.2, tk, by rw [← h1], h2⟩
/-- What is asked behind the operation j. -/
structure StepF (P : Program) (md : Region.Mode) (ops : Array Oper) (G : Nat → Nat → Prop) (sl : List Nat) (fl : List FlI) (Q : Exit → Act → World → Prop) (f : Nat) (listed : Array Bool) (N : FS) (S : Nat → Prop) (w0 : World) (X : List Ent) (Y : List (Nat × Value)) (tk : List (FlI × Nat)) (w : World) (a' : Act) (w' : World) : Prop where
  below : Below w.heap.size w w'
  go : wpF P md ops G sl Q (f - tk.length) (listAll listed (tkI tk)) a' w'
theorem QH_stepF {f : Nat} {listed : Array Bool} {Lf : List (Nat × Value) → List (Nat × Value)} {Hf : List Ent → List Ent} {X : List Ent} {Y : List (Nat × Value)} {tk : List (FlI × Nat)} {w' : World} {Q' : Exit → Act → World → Prop} (ht : Tk fl tk X Y) (hS : St0 S w0 w' (Hf X)) (hb : Below w.heap.size w w')
    (k : wpRF P md ops G sl fl Q f listed N S w0 Lf Hf) : QH (Exit.then (StepF P md ops G sl fl Q f listed N S w0 X Y tk w) Q') .normal N (Lf Y) w' := ⟨fun a hF => ⟨hb, (k.go X Y tk ht w' hS).go a hF⟩⟩
/-- A list put ahead of another one. -/
inductive App {α : Type} : List α → List α → List α → Prop
  | nil {X : List α} : App [] X X
  | cons {a : α} {l X r : List α} : App l X r → App (a :: l) X (a :: r)
theorem App.eq {α : Type} {l X r : List α} (h : App l X r) : r = l ++ X := by
  induction h with
  | nil => rfl
  | cons h ih => rw [ih]; rfl
theorem QH_stepF' {f : Nat} {listed : Array Bool} {H0 HX : List Ent} {L0 LY : List (Nat × Value)} {X : List Ent} {Y : List (Nat × Value)} {tk : List (FlI × Nat)} {w' : World} {Q' : Exit → Act → World → Prop} (ht : Tk fl tk X Y) (hS : St0 S w0 w' HX) (hb : Below w.heap.size w w') (hA : App H0 X HX) (hB : App L0 Y LY)
    (k : wpRF P md ops G sl fl Q f listed N S w0 (fun Y => L0 ++ Y) (fun X => H0 ++ X)) : QH (Exit.then (StepF P md ops G sl fl Q f listed N S w0 X Y tk w) Q') .normal N LY w' := by
  rw [hB.eq]; rw [hA.eq] at hS
  exact QH_stepF (Lf := fun Y => L0 ++ Y) (Hf := fun X => H0 ++ X) ht hS hb k
theorem tk_len {tk : List (FlI × Nat)} (hs : List.Sublist (tk.map (·.1)) fl) : tk.length ≤ fl.length := by have := hs.length_le; simpa using this
theorem wpRF_call (m : List Bool) (j : Nat) {o : Oper} {l : List Oper} {f : Nat} {listed : Array Bool} {Lf : List (Nat × Value) → List (Nat × Value)} {Hf : List Ent → List Ent} (hok : FlOk P l.toArray N sl fl)
    (hr : (Nat.ble (fl.length + 1) f = true ∧ onlyB md l.toArray fl listed [j] = true ∧ sl.contains j = false ∧ (fl.all fun g => !(Nat.beq g.i j)) = true)) (ho : pickL m l = [o]) (hi : l.toArray[j]? = some o)
    (hL : ∀ Y, Lf Y = Lf [] ++ Y) (hH : ∀ X, Hf X = Hf [] ++ X) (hk : ((Lf []).all fun p => fl.all fun f => !(Nat.beq p.1 f.d)) = true) (hend : ∀ tk : List (FlI × Nat), List.Sublist (tk.map (·.1)) fl → Region.ready md l.toArray (listAll listed (tkI tk)) ≠ [])
    (k : ∀ X Y tk, Tk fl tk X Y → ∀ w, St0 S w0 w (Hf X) → wpS P l.toArray (Exit.then (StepF P md l.toArray G sl fl Q (f - 1) (listed.setIfInBounds j true) N S w0 X Y tk w) Q) (pickL m l) N (Lf Y) w) : wpRF P md l.toArray G sl fl Q f listed N S w0 Lf Hf := ⟨fun X Y tk ht => by
  obtain ⟨hf, hon, hsj, hfj⟩ := hr
  have hf := Nat.le_of_ble_eq_true hf
  have hsj' : j ∉ sl := by simpa using hsj
  obtain ⟨hsub, rfl, rfl⟩ := ht
  have key : ∀ (n : Nat) (tk : List (FlI × Nat)), fl.length - tk.length = n → List.Sublist (tk.map (·.1)) fl → ∀ w, St0 S w0 w (Hf (tkH tk)) → wpR P md l.toArray G sl Q (f - tk.length) (listAll listed (tkI tk)) N (Lf (tkL tk)) w := by
    intro n
    induction n with
    | zero =>
      intro tk hn hsub w hS
      have hlen := tk_len hsub
      obtain ⟨f', hf'⟩ : ∃ f', f - tk.length = f' + 1 := ⟨f - tk.length - 1, by omega⟩
      rw [hf']
      refine ⟨fun a hF => ⟨fun h0 => (hend tk hsub h0).elim, fun r hr => ?_⟩⟩
      rcases only_spec hon hsub r hr with h1 | ⟨g, hg, rfl, hng⟩
      · obtain rfl : r = j := by simpa using h1
        have h2 := (k _ _ tk ⟨hsub, rfl, rfl⟩ w hS).go a hF
        rw [ho] at h2
        refine wpOp_mono (fun a' w' h => ⟨⟨fun hh => (hsj' hh).elim, fun _ => h.below⟩, ?_⟩) (op_of_list hi h2)
        have e1 : f - 1 - tk.length = f' := by omega
        have e2 : listAll (listed.setIfInBounds r true) (tkI tk) = (listAll listed (tkI tk)).setIfInBounds r true := by
          have := listAll_perm (List.perm_append_comm (l₁ := [r]) (l₂ := tkI tk)) listed
          rw [listAll_append, listAll_append] at this
          exact this
        rw [← e2, ← e1]; exact h.go
      · exfalso
        have h3 : (tk.map (·.1)) = fl := hsub.eq_of_length (by simp; omega)
        rw [← h3] at hg
        obtain ⟨p, hp, he⟩ := List.mem_map.1 hg
        exact hng p hp he
    | succ n ih =>
      intro tk hn hsub w hS
      have hlen := tk_len hsub
      obtain ⟨f', hf'⟩ : ∃ f', f - tk.length = f' + 1 := ⟨f - tk.length - 1, by omega⟩
      rw [hf']
      refine ⟨fun a hF => ⟨fun h0 => (hend tk hsub h0).elim, fun r hr => ?_⟩⟩
      rcases only_spec hon hsub r hr with h1 | ⟨g, hg, rfl, hng⟩
      · obtain rfl : r = j := by simpa using h1
        have h2 := (k _ _ tk ⟨hsub, rfl, rfl⟩ w hS).go a hF
        rw [ho] at h2
        refine wpOp_mono (fun a' w' h => ⟨⟨fun hh => (hsj' hh).elim, fun _ => h.below⟩, ?_⟩) (op_of_list hi h2)
        have e1 : f - 1 - tk.length = f' := by omega
        have e2 : listAll (listed.setIfInBounds r true) (tkI tk) = (listAll listed (tkI tk)).setIfInBounds r true := by
          have := listAll_perm (List.perm_append_comm (l₁ := [r]) (l₂ := tkI tk)) listed
          rw [listAll_append, listAll_append] at this
          exact this
        rw [← e2, ← e1]; exact h.go
      · refine float_step hok hL hH hk hsub hS hg hng (fun tk2 hl2 hs2 w2 hS2 => ?_) hF
        have := ih tk2 (by omega) hs2 w2 hS2
        have e1 : f - tk2.length = f' := by omega
        rw [e1] at this
        exact this
  exact key _ tk rfl hsub⟩
/-- All the new variables are to come: then the region goes on as ever. -/
theorem wpRF_done {l : List Oper} {f : Nat} {listed : Array Bool} {Lf : List (Nat × Value) → List (Nat × Value)} {Hf : List Ent → List Ent} (hok : FlOk P l.toArray N sl fl)
    (hon : Nat.ble fl.length f = true) (hready : (subs fl).all (fun t => Nat.beq t.length fl.length || ((Region.ready md l.toArray (listAll listed (t.map (·.i)))).all (fun r => fl.any fun f => Nat.beq f.i r && !((t.map (·.i)).contains r)) && !(Region.ready md l.toArray (listAll listed (t.map (·.i)))).isEmpty)) = true)
    (hL : ∀ Y, Lf Y = Lf [] ++ Y) (hH : ∀ X, Hf X = Hf [] ++ X) (hk : ((Lf []).all fun p => fl.all fun f => !(Nat.beq p.1 f.d)) = true)
    (k : ∀ tk : List (FlI × Nat), tk.map (·.1) = fl → ∀ w, St0 S w0 w (Hf (tkH tk)) → wpR P md l.toArray G sl Q (f - fl.length) (listAll listed (fl.map (·.i))) N (Lf (tkL tk)) w) : wpRF P md l.toArray G sl fl Q f listed N S w0 Lf Hf := ⟨fun X Y tk ht => by
  obtain ⟨hsub, rfl, rfl⟩ := ht
  have hf := Nat.le_of_ble_eq_true hon
  have key : ∀ (n : Nat) (tk : List (FlI × Nat)), fl.length - tk.length = n → List.Sublist (tk.map (·.1)) fl → ∀ w, St0 S w0 w (Hf (tkH tk)) → wpR P md l.toArray G sl Q (f - tk.length) (listAll listed (tkI tk)) N (Lf (tkL tk)) w := by
    intro n
    induction n with
    | zero =>
      intro tk hn hsub w hS
      have hlen := tk_len hsub
      have h3 : (tk.map (·.1)) = fl := hsub.eq_of_length (by simp; omega)
      have := k tk h3 w hS
      have e1 : tk.length = fl.length := by omega
      have e2 : tkI tk = fl.map (·.i) := by rw [← h3]; simp [tkI]
      rw [e1, e2]; exact this
    | succ n ih =>
      intro tk hn hsub w hS
      have hlen := tk_len hsub
      obtain ⟨f', hf'⟩ : ∃ f', f - tk.length = f' + 1 := ⟨f - tk.length - 1, by omega⟩
      rw [hf']
      have e : ((tk.map (·.1)).map (·.i)) = tkI tk := by simp [tkI]
      have h1 := List.all_eq_true.1 hready _ (mem_subs hsub)
      rw [e] at h1
      have hne : Nat.beq (tk.map (·.1)).length fl.length = false := by
        cases hb : Nat.beq (tk.map (·.1)).length fl.length with
        | false => rfl
        | true => have := Nat.eq_of_beq_eq_true hb; simp at this; omega
      rw [hne, Bool.false_or, Bool.and_eq_true] at h1
      refine ⟨fun a hF => ⟨fun h0 => ?_, fun r hr => ?_⟩⟩
      · have := h1.2; rw [h0] at this; simp at this
      · have h2 := List.all_eq_true.1 h1.1 r hr
        simp only [List.any_eq_true, Bool.and_eq_true, Bool.not_eq_true', List.contains_eq_mem, decide_eq_false_iff_not] at h2
        obtain ⟨g, hg, hi, hng⟩ := h2
        obtain rfl := Nat.eq_of_beq_eq_true hi
        refine float_step hok hL hH hk hsub hS hg (fun p hp hpf => hng ?_) (fun tk2 hl2 hs2 w2 hS2 => ?_) hF
        · rw [← hpf]; exact List.mem_map.2 ⟨p, hp, rfl⟩
        · have := ih tk2 (by omega) hs2 w2 hS2
          have e1 : f - tk2.length = f' := by omega
          rw [e1] at this
          exact this
  exact key _ tk rfl hsub⟩
/-- Reads and the like, at once. -/
theorem wpRF_batch (m : List Bool) (nw : List Nat) (T : Nat → Prop) {l : List Oper} {f : Nat} {listed : Array Bool} {Lf : List (Nat × Value) → List (Nat × Value)} {Hf : List Ent → List Ent}
    (hm : (m.length ≤ l.length ∧ Region.noSelect l.toArray = true ∧ Nat.ble ((pickI m 0).length + fl.length) f = true ∧ (subs fl).all (fun t => freeOk md l.toArray N.n (listAll listed (t.map (·.i))) (pickI m 0) (pickL m l) && sealsOk md l.toArray sl nw (listAll listed (t.map (·.i))) (pickI m 0)) = true)) (hT : ∀ j ∈ nw, ∀ b, T b → G j b) (hP : PF Q)
    (k : ∀ X Y tk, Tk fl tk X Y → ∀ w, St0 S w0 w (Hf X) → LtK P l.toArray N (fun w1 => KeepB T w w1) (fun L' => wpR P md l.toArray G sl Q (f - (pickI m 0).length - tk.length) (listAll (listAll listed (pickI m 0)) (tkI tk)) N L' w) (pickL m l) (Lf Y)) : wpRF P md l.toArray G sl fl Q f listed N S w0 Lf Hf := ⟨fun X Y tk ht w hS => by
  obtain ⟨hm1, hm2, hm3, hm4⟩ := hm
  have hm3 := Nat.le_of_ble_eq_true hm3
  have hlen := tk_len ht.sub
  have e : ((tk.map (·.1)).map (·.i)) = tkI tk := by simp [tkI]
  have h1 := List.all_eq_true.1 hm4 _ (mem_subs ht.sub)
  rw [e, Bool.and_eq_true] at h1
  refine wpR_batchG m nw T ⟨hm1, hm2, by omega, h1.1, h1.2⟩ hT hP ?_
  have h2 := k X Y tk ht w hS
  have e1 : f - (pickI m 0).length - tk.length = f - tk.length - (pickI m 0).length := by omega
  have e2 : listAll (listAll listed (pickI m 0)) (tkI tk) = listAll (listAll listed (tkI tk)) (pickI m 0) := by
    rw [← listAll_append, ← listAll_append]; exact listAll_perm List.perm_append_comm _
  rw [e1, e2] at h2
  exact h2⟩
theorem LtK_F {f : Nat} {listed : Array Bool} {Lf : List (Nat × Value) → List (Nat × Value)} {Hf : List Ent → List Ent} {X : List Ent} {Y : List (Nat × Value)} {tk : List (FlI × Nat)} {R : World → Prop} (ht : Tk fl tk X Y) (hS : St0 S w0 w (Hf X)) (k : wpRF P md ops G sl fl Q f listed N S w0 Lf Hf) : LtK P ops N R (fun L' => wpR P md ops G sl Q (f - tk.length) (listAll listed (tkI tk)) N L' w) [] (Lf Y) := LtK.nil (k.go X Y tk ht w hS)
theorem LtK_F' {f : Nat} {listed : Array Bool} {H0 HX : List Ent} {L0 LY : List (Nat × Value)} {X : List Ent} {Y : List (Nat × Value)} {tk : List (FlI × Nat)} {R : World → Prop} (ht : Tk fl tk X Y) (hS : St0 S w0 w HX) (hA : App H0 X HX) (hB : App L0 Y LY) (k : wpRF P md ops G sl fl Q f listed N S w0 (fun Y => L0 ++ Y) (fun X => H0 ++ X)) : LtK P ops N R (fun L' => wpR P md ops G sl Q (f - tk.length) (listAll listed (tkI tk)) N L' w) [] LY := by
  rw [hB.eq]; rw [hA.eq] at hS
  exact LtK_F (Lf := fun Y => L0 ++ Y) (Hf := fun X => H0 ++ X) ht hS k
end
end Go.Proofs.YtofheinbbefbcaaDoor
/- Two ways that meet again: what comes behind is walked once. -/
namespace Go.Proofs.YtofheinbbefbcaaDoor
open Go Go.RowKit
set_option maxRecDepth 100000
section
variable {P : Program} {N : FS} {L : List (Nat × Value)} {w : World} {Q : Exit → Act → World → Prop}
end
end Go.Proofs.YtofheinbbefbcaaDoor
/- Small laws of places, printed. -/
namespace Go.Proofs.YtofheinbbefbcaaDoor
open Go Go.RowKit
set_option maxRecDepth 100000
theorem em_23 : Elem Tryd.prog 23 5 (.int .u8 0) 1 1 := ⟨by kernel_rfl, by kernel_rfl, rfl, by omega⟩
theorem em_48 : Elem Tryd.prog 48 66 (.agg #[.int .i64 0, .int .i64 0, .int .i64 0, .int .i64 0]) 4 32 := ⟨by kernel_rfl, by kernel_rfl, rfl, by omega⟩
theorem em_58 : Elem Tryd.prog 58 62 (.agg #[.int .u8 0, .int .i64 0, .int .i64 0]) 3 24 := ⟨by kernel_rfl, by kernel_rfl, rfl, by omega⟩
theorem em_90 : Elem Tryd.prog 90 3 (.int .i64 0) 1 8 := ⟨by kernel_rfl, by kernel_rfl, rfl, by omega⟩
theorem hs0 {a0 : Ent} {H : List Ent} : Has (a0 :: H) a0 := .head
theorem hs1 {a0 a1 : Ent} {H : List Ent} : Has (a0 :: a1 :: H) a1 := .tail (.head)
theorem hs10 {a0 a1 a2 a3 a4 a5 a6 a7 a8 a9 a10 : Ent} {H : List Ent} : Has (a0 :: a1 :: a2 :: a3 :: a4 :: a5 :: a6 :: a7 :: a8 :: a9 :: a10 :: H) a10 := .tail (.tail (.tail (.tail (.tail (.tail (.tail (.tail (.tail (.tail (.head))))))))))
theorem hs12 {a0 a1 a2 a3 a4 a5 a6 a7 a8 a9 a10 a11 a12 : Ent} {H : List Ent} : Has (a0 :: a1 :: a2 :: a3 :: a4 :: a5 :: a6 :: a7 :: a8 :: a9 :: a10 :: a11 :: a12 :: H) a12 := .tail (.tail (.tail (.tail (.tail (.tail (.tail (.tail (.tail (.tail (.tail (.tail (.head))))))))))))
theorem hs14 {a0 a1 a2 a3 a4 a5 a6 a7 a8 a9 a10 a11 a12 a13 a14 : Ent} {H : List Ent} : Has (a0 :: a1 :: a2 :: a3 :: a4 :: a5 :: a6 :: a7 :: a8 :: a9 :: a10 :: a11 :: a12 :: a13 :: a14 :: H) a14 := .tail (.tail (.tail (.tail (.tail (.tail (.tail (.tail (.tail (.tail (.tail (.tail (.tail (.tail (.head))))))))))))))
theorem hs17 {a0 a1 a2 a3 a4 a5 a6 a7 a8 a9 a10 a11 a12 a13 a14 a15 a16 a17 : Ent} {H : List Ent} : Has (a0 :: a1 :: a2 :: a3 :: a4 :: a5 :: a6 :: a7 :: a8 :: a9 :: a10 :: a11 :: a12 :: a13 :: a14 :: a15 :: a16 :: a17 :: H) a17 := .tail (.tail (.tail (.tail (.tail (.tail (.tail (.tail (.tail (.tail (.tail (.tail (.tail (.tail (.tail (.tail (.tail (.head)))))))))))))))))
theorem hs2 {a0 a1 a2 : Ent} {H : List Ent} : Has (a0 :: a1 :: a2 :: H) a2 := .tail (.tail (.head))
theorem hs3 {a0 a1 a2 a3 : Ent} {H : List Ent} : Has (a0 :: a1 :: a2 :: a3 :: H) a3 := .tail (.tail (.tail (.head)))
theorem hs4 {a0 a1 a2 a3 a4 : Ent} {H : List Ent} : Has (a0 :: a1 :: a2 :: a3 :: a4 :: H) a4 := .tail (.tail (.tail (.tail (.head))))
theorem hs5 {a0 a1 a2 a3 a4 a5 : Ent} {H : List Ent} : Has (a0 :: a1 :: a2 :: a3 :: a4 :: a5 :: H) a5 := .tail (.tail (.tail (.tail (.tail (.head)))))
theorem hs6 {a0 a1 a2 a3 a4 a5 a6 : Ent} {H : List Ent} : Has (a0 :: a1 :: a2 :: a3 :: a4 :: a5 :: a6 :: H) a6 := .tail (.tail (.tail (.tail (.tail (.tail (.head))))))
theorem hs7 {a0 a1 a2 a3 a4 a5 a6 a7 : Ent} {H : List Ent} : Has (a0 :: a1 :: a2 :: a3 :: a4 :: a5 :: a6 :: a7 :: H) a7 := .tail (.tail (.tail (.tail (.tail (.tail (.tail (.head)))))))
theorem hs8 {a0 a1 a2 a3 a4 a5 a6 a7 a8 : Ent} {H : List Ent} : Has (a0 :: a1 :: a2 :: a3 :: a4 :: a5 :: a6 :: a7 :: a8 :: H) a8 := .tail (.tail (.tail (.tail (.tail (.tail (.tail (.tail (.head))))))))
theorem hs9 {a0 a1 a2 a3 a4 a5 a6 a7 a8 a9 : Ent} {H : List Ent} : Has (a0 :: a1 :: a2 :: a3 :: a4 :: a5 :: a6 :: a7 :: a8 :: a9 :: H) a9 := .tail (.tail (.tail (.tail (.tail (.tail (.tail (.tail (.tail (.head)))))))))
theorem ps0 {a0 b : Ent} {H : List Ent} : Pos (a0 :: H) a0 (b :: H) b := .head
theorem ps1 {a0 a1 b : Ent} {H : List Ent} : Pos (a0 :: a1 :: H) a1 (a0 :: b :: H) b := .tail (.head)
theorem ps2 {a0 a1 a2 b : Ent} {H : List Ent} : Pos (a0 :: a1 :: a2 :: H) a2 (a0 :: a1 :: b :: H) b := .tail (.tail (.head))
theorem ps3 {a0 a1 a2 a3 b : Ent} {H : List Ent} : Pos (a0 :: a1 :: a2 :: a3 :: H) a3 (a0 :: a1 :: a2 :: b :: H) b := .tail (.tail (.tail (.head)))
theorem ps4 {a0 a1 a2 a3 a4 b : Ent} {H : List Ent} : Pos (a0 :: a1 :: a2 :: a3 :: a4 :: H) a4 (a0 :: a1 :: a2 :: a3 :: b :: H) b := .tail (.tail (.tail (.tail (.head))))
theorem ps5 {a0 a1 a2 a3 a4 a5 b : Ent} {H : List Ent} : Pos (a0 :: a1 :: a2 :: a3 :: a4 :: a5 :: H) a5 (a0 :: a1 :: a2 :: a3 :: a4 :: b :: H) b := .tail (.tail (.tail (.tail (.tail (.head)))))
theorem ps6 {a0 a1 a2 a3 a4 a5 a6 b : Ent} {H : List Ent} : Pos (a0 :: a1 :: a2 :: a3 :: a4 :: a5 :: a6 :: H) a6 (a0 :: a1 :: a2 :: a3 :: a4 :: a5 :: b :: H) b := .tail (.tail (.tail (.tail (.tail (.tail (.head))))))
theorem ps7 {a0 a1 a2 a3 a4 a5 a6 a7 b : Ent} {H : List Ent} : Pos (a0 :: a1 :: a2 :: a3 :: a4 :: a5 :: a6 :: a7 :: H) a7 (a0 :: a1 :: a2 :: a3 :: a4 :: a5 :: a6 :: b :: H) b := .tail (.tail (.tail (.tail (.tail (.tail (.tail (.head)))))))
theorem ps8 {a0 a1 a2 a3 a4 a5 a6 a7 a8 b : Ent} {H : List Ent} : Pos (a0 :: a1 :: a2 :: a3 :: a4 :: a5 :: a6 :: a7 :: a8 :: H) a8 (a0 :: a1 :: a2 :: a3 :: a4 :: a5 :: a6 :: a7 :: b :: H) b := .tail (.tail (.tail (.tail (.tail (.tail (.tail (.tail (.head))))))))
theorem sg0_1 {a0 : Value} {H : List Value} : Seg (a0 :: H) 0 1 [a0] := .here (.succ (.zero))
theorem sg0_3 {a0 a1 a2 : Value} {H : List Value} : Seg (a0 :: a1 :: a2 :: H) 0 3 [a0, a1, a2] := .here (.succ (.succ (.succ (.zero))))
theorem sg0_4 {a0 a1 a2 a3 : Value} {H : List Value} : Seg (a0 :: a1 :: a2 :: a3 :: H) 0 4 [a0, a1, a2, a3] := .here (.succ (.succ (.succ (.succ (.zero)))))
theorem sg0_6 {a0 a1 a2 a3 a4 a5 : Value} {H : List Value} : Seg (a0 :: a1 :: a2 :: a3 :: a4 :: a5 :: H) 0 6 [a0, a1, a2, a3, a4, a5] := .here (.succ (.succ (.succ (.succ (.succ (.succ (.zero)))))))
theorem sg1_1 {a0 a1 : Value} {H : List Value} : Seg (a0 :: a1 :: H) 1 1 [a1] := .succ (.here (.succ (.zero)))
theorem sg2_1 {a0 a1 a2 : Value} {H : List Value} : Seg (a0 :: a1 :: a2 :: H) 2 1 [a2] := .succ (.succ (.here (.succ (.zero))))
theorem sg3_1 {a0 a1 a2 a3 : Value} {H : List Value} : Seg (a0 :: a1 :: a2 :: a3 :: H) 3 1 [a3] := .succ (.succ (.succ (.here (.succ (.zero)))))
theorem sg3_2 {a0 a1 a2 a3 a4 : Value} {H : List Value} : Seg (a0 :: a1 :: a2 :: a3 :: a4 :: H) 3 2 [a3, a4] := .succ (.succ (.succ (.here (.succ (.succ (.zero))))))
theorem sg4_1 {a0 a1 a2 a3 a4 : Value} {H : List Value} : Seg (a0 :: a1 :: a2 :: a3 :: a4 :: H) 4 1 [a4] := .succ (.succ (.succ (.succ (.here (.succ (.zero))))))
theorem sg5_1 {a0 a1 a2 a3 a4 a5 : Value} {H : List Value} : Seg (a0 :: a1 :: a2 :: a3 :: a4 :: a5 :: H) 5 1 [a5] := .succ (.succ (.succ (.succ (.succ (.here (.succ (.zero)))))))
theorem st0_1 {a0 b0 : Value} {H : List Value} : SetC (a0 :: H) 0 [b0] (b0 :: H) := .here (.cons (.nil))
theorem st0_4 {a0 a1 a2 a3 b0 b1 b2 b3 : Value} {H : List Value} : SetC (a0 :: a1 :: a2 :: a3 :: H) 0 [b0, b1, b2, b3] (b0 :: b1 :: b2 :: b3 :: H) := .here (.cons (.cons (.cons (.cons (.nil)))))
theorem st0_6 {a0 a1 a2 a3 a4 a5 b0 b1 b2 b3 b4 b5 : Value} {H : List Value} : SetC (a0 :: a1 :: a2 :: a3 :: a4 :: a5 :: H) 0 [b0, b1, b2, b3, b4, b5] (b0 :: b1 :: b2 :: b3 :: b4 :: b5 :: H) := .here (.cons (.cons (.cons (.cons (.cons (.cons (.nil)))))))
theorem st1_1 {a0 a1 b0 : Value} {H : List Value} : SetC (a0 :: a1 :: H) 1 [b0] (a0 :: b0 :: H) := .succ (.here (.cons (.nil)))
theorem st2_1 {a0 a1 a2 b0 : Value} {H : List Value} : SetC (a0 :: a1 :: a2 :: H) 2 [b0] (a0 :: a1 :: b0 :: H) := .succ (.succ (.here (.cons (.nil))))
theorem st3_1 {a0 a1 a2 a3 b0 : Value} {H : List Value} : SetC (a0 :: a1 :: a2 :: a3 :: H) 3 [b0] (a0 :: a1 :: a2 :: b0 :: H) := .succ (.succ (.succ (.here (.cons (.nil)))))
theorem st3_2 {a0 a1 a2 a3 a4 b0 b1 : Value} {H : List Value} : SetC (a0 :: a1 :: a2 :: a3 :: a4 :: H) 3 [b0, b1] (a0 :: a1 :: a2 :: b0 :: b1 :: H) := .succ (.succ (.succ (.here (.cons (.cons (.nil))))))
theorem st5_1 {a0 a1 a2 a3 a4 a5 b0 : Value} {H : List Value} : SetC (a0 :: a1 :: a2 :: a3 :: a4 :: a5 :: H) 5 [b0] (a0 :: a1 :: a2 :: a3 :: a4 :: b0 :: H) := .succ (.succ (.succ (.succ (.succ (.here (.cons (.nil)))))))
theorem eqT_47 (a0 : Int) (a1 : Int) (b0 : Int) (b1 : Int) (w : World) : (Op.equalIn 10000 47 (.agg #[.int .i64 a0, .int .i64 a1]) (.agg #[.int .i64 b0, .int .i64 b1])).run Tryd.prog w = .ok (decide (a0 = b0) && (decide (a1 = b1))) w := by
  by_cases h0 : a0 = b0 <;> by_cases h1 : a1 = b1 <;> go_simp
theorem eqT_62 (a0 : Int) (a1 : Int) (a2 : Int) (b0 : Int) (b1 : Int) (b2 : Int) (w : World) : (Op.equalIn 10000 62 (.agg #[.int .u8 a0, .int .i64 a1, .int .i64 a2]) (.agg #[.int .u8 b0, .int .i64 b1, .int .i64 b2])).run Tryd.prog w = .ok (decide (a0 = b0) && (decide (a1 = b1) && (decide (a2 = b2)))) w := by
  by_cases h0 : a0 = b0 <;> by_cases h1 : a1 = b1 <;> by_cases h2 : a2 = b2 <;> go_simp
theorem eqT_66 (a0 : Int) (a1 : Int) (a2 : Int) (a3 : Int) (b0 : Int) (b1 : Int) (b2 : Int) (b3 : Int) (w : World) : (Op.equalIn 10000 66 (.agg #[.int .i64 a0, .int .i64 a1, .int .i64 a2, .int .i64 a3]) (.agg #[.int .i64 b0, .int .i64 b1, .int .i64 b2, .int .i64 b3])).run Tryd.prog w = .ok (decide (a0 = b0) && (decide (a1 = b1) && (decide (a2 = b2) && (decide (a3 = b3))))) w := by
  by_cases h0 : a0 = b0 <;> by_cases h1 : a1 = b1 <;> by_cases h2 : a2 = b2 <;> by_cases h3 : a3 = b3 <;> go_simp
end Go.Proofs.YtofheinbbefbcaaDoor
/- Laws for walks that a program of mine prints, sixth part: jumps ahead, arrays, clear, stores in drawn regions, ranges over functions. -/
namespace Go.Proofs.YtofheinbbefbcaaDoor
open Go Go.RowKit
set_option maxRecDepth 100000
section
variable {P : Program} {ro : Option Nat} {ops : Array Oper} {Q : Exit → Act → World → Prop} {rest : List Oper} {N : FS} {L : List (Nat × Value)} {w w0 : World} {S : Nat → Prop} {H H' : List Ent} {dn : Nat} {ty : TypeId} {pos : String} {af : Array Edge} {g : Option (Nat × Bool)} {R : World → Prop} {d : Option Nat} {md : Region.Mode} {G : Nat → Nat → Prop} {sl : List Nat}
/-! ### Jumps ahead -/
/-- What is asked of a jump ahead. -/
structure Ahd (P : Program) (rest : Code) (l : Nat) (Q : Exit → Act → World → Prop) (a : Act) (w : World) : Prop where
  go : wpo P none rest (Exit.jump l (fun _ _ => False) Q) a w
theorem wpC_scope1 (l : Nat) {c rest : Code} (hf : findLabel c l = some rest) (k : wpC P none c (Exit.jump l (Ahd P rest l Q) Q) N L w) : wpC P none (.scope c) Q N L w := .mk fun a hF => by
  refine wpo_scope l (Ahd P rest l Q) (fun _ _ => 0) hf (k.go a hF) fun a w h => wpo_mono h.go fun e a' w' he => ?_
  cases e with
  | goto l' => exact he.2.elim
  | _ => exact he
theorem QH_ahead {l : Nat} {rest : Code} (k : wpC P none rest (Exit.jump l (fun _ _ => False) Q) N L w) : QH (Exit.jump l (Ahd P rest l Q) Q) (.goto l) N L w := ⟨fun a hF => ⟨rfl, ⟨k.go a hF⟩⟩⟩
/-! ### Arrays -/
theorem KeepB.setCells (b : Nat) : ∀ (vs : List Value) (o : Nat) (w : World), KeepB (fun k => k ≠ b) w (w.setCells b o vs) := fun vs o w => by
  have hz := size_setCells b vs o w
  exact ⟨hz.2.1, hz.2.2.1, hz.2.2.2, by rw [hz.1]; exact Nat.le_refl _, fun k _ hk => heap_setCells b vs o w k hk⟩
theorem wpX_append2 {α : Type} {e : α → List Value} {t te size bytes c0 c : Nat} {z : Value} {s x : Operand} {A0 A : Option Addr} {xs ys zs : List α} {Hf : Value → List Ent} (he : ∀ x, (e x).length = size) (h1 : ∀ l : List α, ∀ u ∈ encs e l, u.oneCell' = true) (E : Elem P t te z size bytes) (hbz : bytes ≤ 100000)
    (hg : wantB ops L g = some true) (hN : Nat.ble (dn + 1) N.n = true) (hs : ev L s = some (.slice A0 xs.length c0)) (hx : ev L x = some (.slice A ys.length c)) (hS : St0 S w0 w H) (hH : ∀ v', Pos H (.row (.slice A0 xs.length c0) te size xs.length (encs e xs)) (Hf v') (.row v' te size zs.length (encs e zs)))
    (hr : Rd w A (encs e ys)) (hf : fewI (xs ++ ys) = some zs)
    (k : ∀ A' c' w', (zs.length ≤ c' ∧ c' ≤ maxLen) → St0 S w0 w' (Hf (.slice A' zs.length c')) → KeepB (fun _ => False) w w' → wpS P ops Q rest N ((dn, .slice A' zs.length c') :: L) w') :
    wpS P ops Q (⟨some dn, .call { callee := .builtin .append, args := #[s, x], argTypes := #[t, t] }, ty, pos, af, g⟩ :: rest) N L w := by
  obtain ⟨rfl, hl⟩ := fewI_some hf
  rw [List.length_append] at hl
  have hbytes : (xs.length + ys.length) * bytes ≤ 140737488355328 := Nat.le_trans (Nat.mul_le_mul hl hbz) (by omega)
  have hlen := encs_length he ys
  obtain ⟨i, hi, _⟩ := (hH (.slice A0 xs.length c0)).set
  have hown : w.ownsRow 0 te size (.slice A0 xs.length c0) xs.length (encs e xs) := hS.ok _ (List.mem_of_getElem? hi)
  obtain ⟨v', w', hrun, h2, h3, h4⟩ := run_append_rd (P := P) E ty hown c hlen hr (h1 ys) (by unfold maxLen; omega) hbytes (Nat.zero_le _)
  rw [← encs_app, ← List.length_append] at h2
  obtain ⟨A', c', rfl, hc1, hc2⟩ := own_slice h2
  obtain ⟨j, hj, hHj⟩ := (hH (.slice A' (xs ++ ys).length c')).set
  refine wpS_run hg rfl hN (fun ρ hρ => ?_) (k A' c' w' ⟨hc1, hc2⟩ ?_ ⟨h3.os, h3.tape, h3.output, h3.size, fun _ _ h => h.elim⟩)
  · simp only [execOp, resolve, invoke, builtin, Sem.run_bind, Sem.run_pure, Result.andThen_ok, List.map_toArray, List.map_cons, List.map_nil, hρ s _ hs, hρ x _ hx, hrun]
  · rw [hHj]
    refine hS.change j hj h3.size ⟨h3.os, h3.tape, h3.output⟩ (fun k h5 h6 => h3.block k h6 (fun h7 => h5 h7.symm)) h2 (fun k hk => ?_)
    rcases h4 with h4 | h4
    · left; show (Value.slice A0 xs.length c0).ownBlock = some k; rw [← h4]; exact hk
    · right
      have h5 : (Value.slice A' (xs ++ ys).length c').ownBlock = some k := hk
      rw [h4] at h5
      injection h5 with h5
      subst h5
      exact ⟨Nat.le_refl _, row_block h2 h4⟩
end
end Go.Proofs.YtofheinbbefbcaaDoor
/- Laws for walks that a program of mine prints, ninth part: stores into rows beside loads. -/
namespace Go.Proofs.YtofheinbbefbcaaDoor
open Go Go.RowKit
set_option maxRecDepth 100000
section
variable {P : Program} {ro : Option Nat} {ops : Array Oper} {Q : Exit → Act → World → Prop} {rest : List Oper} {N : FS} {L : List (Nat × Value)} {w w0 : World} {S : Nat → Prop} {H H' : List Ent} {dn : Nat} {ty : TypeId} {pos : String} {af : Array Edge} {g : Option (Nat × Bool)} {R : World → Prop} {d : Option Nat} {md : Region.Mode} {G : Nat → Nat → Prop} {sl : List Nat}
end
end Go.Proofs.YtofheinbbefbcaaDoor
/- Laws for walks that a program of mine prints, tenth part: pointers to elements, maps with truth values as keys. -/
namespace Go.Proofs.YtofheinbbefbcaaDoor
open Go Go.RowKit Go.MapKept
set_option maxRecDepth 100000
theorem setI_at {α : Type} {l : List α} {i : Int} {j : Nat} {e a : α} (hi : i = (j : Int)) (h : l[j]? = some e) : (setI l i a)[j]? = some a := by
  subst hi
  unfold setI
  rw [Int.toNat_natCast]
  exact List.getElem?_set_self (List.getElem?_eq_some_iff.1 h).1
def mes : List (Bool × Value) → Nat → List MapEntry
  | [], _ => []
  | p :: t, k => { key := .bool p.1, val := p.2, born := k } :: mes t (k + 1)
/-- A map, as an object. -/
def mapO (l : List (Bool × Value)) : Obj := .map (mes l 0).toArray l.length
section
variable {P : Program} {ro : Option Nat} {ops : Array Oper} {Q : Exit → Act → World → Prop} {rest : List Oper} {N : FS} {L : List (Nat × Value)} {w w0 : World} {S : Nat → Prop} {H H' : List Ent} {dn : Nat} {ty : TypeId} {pos : String} {af : Array Edge} {g : Option (Nat × Bool)} {R : World → Prop} {d : Option Nat}
theorem yx_nilCheck {x : Operand} {o o' : Nat} {A : Option Addr} {w' : World} {cs : List Value} (hx : ev L x = some (.pointer (A.map (·.add o)))) (hA : El w' A o' cs) : Yv P L R ⟨d, .nilCheck x, ty, pos, af, g⟩ (.pointer (A.map (·.add o))) := by
  obtain ⟨b, q, rfl⟩ := hA.adr
  exact yv_nilCheck hx
theorem wpS_makeMap {t : TypeId} (hg : wantB ops L g = some true) (hN : Nat.ble (dn + 1) N.n = true) (hS : St0 S w0 w H)
    (k : ∀ b w', St0 S w0 w' (.obj b (mapO []) :: H) → Below w.heap.size w w' → wpS P ops Q rest N ((dn, .map (some b)) :: L) w') : wpS P ops Q (⟨some dn, .makeMap t none, ty, pos, af, g⟩ :: rest) N L w := by
  have hB : Below w.heap.size w (w.alloc (mapO [])) := (Below.refl _ _).alloc (Nat.le_refl _) _
  have h1 : (w.alloc (mapO [])).heap[w.heap.size]? = some (mapO []) := World.alloc_heap_new w _
  refine wpS_run hg rfl hN (fun ρ _ => ?_) (k w.heap.size (w.alloc (mapO [])) ((hS.below hB).addE h1 (fun q hq => ?_) (fun e he q hq hq' => ?_)) hB)
  · simp only [execOp, Instr.makeMap]
    rfl
  · obtain rfl : q = w.heap.size := hq
    exact ⟨(Array.getElem?_eq_some_iff.1 h1).1, fun hlt => by have := hS.base.size; omega⟩
  · obtain rfl : q = w.heap.size := hq
    have := (hS.rng e he _ hq').1
    omega
end
end Go.Proofs.YtofheinbbefbcaaDoor
/- Laws for walks that a program of mine prints: maps with numbers as keys and as values. -/
namespace Go.Proofs.YtofheinbbefbcaaDoor
open Go Go.RowKit Go.MapKept
set_option maxRecDepth 100000
def mesI : List (Int × Int) → Nat → List MapEntry
  | [], _ => []
  | p :: t, k => { key := .int .i64 p.1, val := .int .i64 p.2, born := k } :: mesI t (k + 1)
/-- A map of numbers, as an object. -/
def mapIO (l : List (Int × Int)) : Obj := .map (mesI l 0).toArray l.length
/-- What stands at a key; 0 where there is none. -/
def getI : List (Int × Int) → Int → Int
  | [], _ => 0
  | p :: t, k => if p.1 = k then p.2 else getI t k
/-- With another value at a key. -/
def updI : List (Int × Int) → Int → Int → List (Int × Int)
  | [], k, v => [(k, v)]
  | p :: t, k, v => if p.1 = k then (k, v) :: t else p :: updI t k v
theorem mesI_snoc (l : List (Int × Int)) (p : Int × Int) : ∀ k, mesI (l ++ [p]) k = mesI l k ++ [{ key := .int .i64 p.1, val := .int .i64 p.2, born := k + l.length }] := by
  induction l with
  | nil => intro k; rfl
  | cons a l ih => intro k; simp only [List.cons_append, mesI, ih, List.length_cons]; congr 4; omega
theorem mesI_set (p : Int × Int) : ∀ (l : List (Int × Int)) (b j : Nat), mesI (l.set j p) b = (mesI l b).modify j fun e => { e with key := .int .i64 p.1, val := .int .i64 p.2 }
  | [], b, j => by cases j <;> rfl
  | a :: l, b, 0 => rfl
  | a :: l, b, j + 1 => by
    have := mesI_set p l (b + 1) j
    simp only [List.set_cons_succ, mesI, this, List.modify_succ_cons]
theorem mesI_key : ∀ (l : List (Int × Int)) (b j : Nat), ((mesI l b)[j]?).map (·.key) = (l[j]?).map fun p => Value.int .i64 p.1
  | [], b, j => by simp [mesI]
  | a :: l, b, 0 => rfl
  | a :: l, b, j + 1 => by
    have := mesI_key l (b + 1) j
    simpa only [mesI, List.getElem?_cons_succ] using this
theorem find_mesI (k : Int) : ∀ (l : List (Int × Int)) (b i : Nat),
    (∃ j, Instr.findNow (.int .i64) (.int .i64 k) (mesI l b) i = some (some (i + j, .int .i64 (getI l k))) ∧ (l[j]?).map (·.1) = some k ∧ ∀ v, updI l k v = l.set j (k, v)) ∨
    (Instr.findNow (.int .i64) (.int .i64 k) (mesI l b) i = some none ∧ getI l k = 0 ∧ ∀ v, updI l k v = l ++ [(k, v)])
  | [], b, i => .inr ⟨rfl, rfl, fun _ => rfl⟩
  | p :: l, b, i => by
    by_cases h : p.1 = k
    · refine .inl ⟨0, ?_, by simp [h], fun v => by simp [updI, h]⟩
      simp [mesI, Instr.findNow, Instr.sameNow, getI, h]
    · have h' : (k == p.1) = false := by simpa using fun e => h e.symm
      rcases find_mesI k l (b + 1) (i + 1) with ⟨j, h1, h2, h3⟩ | ⟨h1, h2, h3⟩
      · refine .inl ⟨j + 1, ?_, by simpa using h2, fun v => by simp [updI, h, h3]⟩
        simp [mesI, Instr.findNow, Instr.sameNow, getI, h, h', h1]
        omega
      · refine .inr ⟨?_, by simp [getI, h, h2], fun v => by simp [updI, h, h3]⟩
        simp [mesI, Instr.findNow, Instr.sameNow, h', h1]
theorem run_updI {P : Program} {w : World} {t kt e : TypeId} {r : Nat} {l : List (Int × Int)} {k v : Int} (hu : P.underlying t = some (.map kt e)) (hk : P.underlying kt = some (.int .i64)) (h : w.heap[r]? = some (mapIO l)) : (Instr.mapUpdate t (.map (some r)) (.int .i64 k) (.int .i64 v)).run P w = .ok () (w.putObj r (mapIO (updI l k v))) := by
  have h' : w.heap[r]? = some (.map (mesI l 0).toArray l.length) := h
  rcases find_mesI k l 0 0 with ⟨j, h1, h2, h3⟩ | ⟨h1, h2, h3⟩
  · rw [h3]
    have e1 : mapIO (l.set j (k, v)) = .map ((mesI l 0).toArray.modify j fun e => { e with key := .int .i64 k, val := .int .i64 v }) l.length := by
      unfold mapIO
      rw [mesI_set, List.length_set]
      congr 1
      apply Array.toList_inj.1
      simp
    have hkey : (((mesI l 0).toArray[j]?).map (·.key)).getD (Value.int .i64 k) = .int .i64 k := by
      have := mesI_key l 0 j
      obtain ⟨p, hp, hp2⟩ := Option.map_eq_some_iff.1 h2
      rw [hp] at this
      simp only [List.getElem?_toArray, this, Option.map_some, Option.getD_some, hp2]
    have hs : Instr.sameBits 10000 (.int .i64 k) (.int .i64 k) = true := by unfold Instr.sameBits; simp
    rw [e1]
    rw [Nat.zero_add] at h1
    simp only [Instr.mapUpdate, Sem.run_bind, run_underlying hu, Result.andThen_ok, MapKept.run_getObj_map h', run_checkKey hk (show IsKey (.int .i64) (.int .i64 k) from rfl), run_findKey hk h1, hkey, Instr.keyThatStays, hs, if_true, Sem.run_pure, MapKept.run_setObj_map _ h']
    rfl
  · rw [h3]
    have e1 : mapIO (l ++ [(k, v)]) = .map ((mesI l 0).toArray.push { key := .int .i64 k, val := .int .i64 v, born := l.length }) (l.length + 1) := by
      unfold mapIO
      rw [mesI_snoc, List.length_append]
      simp
    rw [e1]
    simp only [Instr.mapUpdate, Sem.run_bind, run_underlying hu, Result.andThen_ok, MapKept.run_getObj_map h', run_checkKey hk (show IsKey (.int .i64) (.int .i64 k) from rfl), run_findKey hk h1, MapKept.run_setObj_map _ h']
    rfl
theorem run_lookupI {P : Program} {w : World} {t kt e : TypeId} {r : Nat} {l : List (Int × Int)} {k : Int} (hu : P.underlying t = some (.map kt e)) (hk : P.underlying kt = some (.int .i64)) (hz : ∀ w, (zeroValue e).run P w = .ok (.int .i64 0) w) (h : w.heap[r]? = some (mapIO l)) : (Instr.lookup t (.map (some r)) (.int .i64 k) false).run P w = .ok (.int .i64 (getI l k)) w := by
  have h' : w.heap[r]? = some (.map (mesI l 0).toArray l.length) := h
  rcases find_mesI k l 0 0 with ⟨j, h1, h2, h3⟩ | ⟨h1, h2, h3⟩
  · simp only [Instr.lookup, Sem.run_bind, run_underlying hu, Result.andThen_ok, MapKept.run_getObj_map h', Sem.run_pure, run_checkKey hk (show IsKey (.int .i64) (.int .i64 k) from rfl), run_findKey hk h1]
    simp
  · simp only [Instr.lookup, Sem.run_bind, run_underlying hu, Result.andThen_ok, MapKept.run_getObj_map h', Sem.run_pure, run_checkKey hk (show IsKey (.int .i64) (.int .i64 k) from rfl), run_findKey hk h1, hz, h2]
    simp
section
variable {P : Program} {ro : Option Nat} {ops : Array Oper} {Q : Exit → Act → World → Prop} {rest : List Oper} {N : FS} {L : List (Nat × Value)} {w w0 : World} {S : Nat → Prop} {H H' : List Ent} {dn : Nat} {ty : TypeId} {pos : String} {af : Array Edge} {g : Option (Nat × Bool)} {R : World → Prop} {d : Option Nat}
theorem wpS_makeMapI {t : TypeId} (hg : wantB ops L g = some true) (hN : Nat.ble (dn + 1) N.n = true) (hS : St0 S w0 w H)
    (k : ∀ b w', St0 S w0 w' (.obj b (mapIO []) :: H) → Below w.heap.size w w' → wpS P ops Q rest N ((dn, .map (some b)) :: L) w') : wpS P ops Q (⟨some dn, .makeMap t none, ty, pos, af, g⟩ :: rest) N L w := wpS_makeMap hg hN hS k
theorem wpS_insertI {t kt e : TypeId} {m x y : Operand} {b : Nat} {l : List (Int × Int)} {i v : Int} (hg : wantB ops L g = some true) (hm : ev L m = some (.map (some b))) (hx : ev L x = some (.int .i64 i)) (hy : ev L y = some (.int .i64 v)) (hu : P.underlying t = some (.map kt e)) (hk : P.underlying kt = some (.int .i64)) (hS : St0 S w0 w H)
    (hH : Pos H (.obj b (mapIO l)) H' (.obj b (mapIO (updI l i v)))) (k : ∀ w', St0 S w0 w' H' → KeepB (fun q => q ≠ b) w w' → wpS P ops Q rest N L w') : wpS P ops Q (⟨none, .insert t m x y, ty, pos, af, g⟩ :: rest) N L w := by
  obtain ⟨j, hj, _⟩ := hH.set
  have hok : w.heap[b]? = some (mapIO l) := hS.ok _ (List.mem_of_getElem? hj)
  refine wpS_run0 hg rfl (fun ρ hρ => ?_) (k _ (PosO.set hH hS) ((KeepB.refl _ _).putObj _ _ (by simp)))
  simp [execOp, hρ m _ hm, hρ x _ hx, hρ y _ hy, run_updI hu hk hok, Result.andThen]
theorem wpS_updI {t kt e : TypeId} {m x y : Operand} {b : Nat} {l : List (Int × Int)} {i v : Int} (hg : wantB ops L g = some true) (hm : ev L m = some (.map (some b))) (hx : ev L x = some (.int .i64 i)) (hy : ev L y = some (.int .i64 v)) (hu : P.underlying t = some (.map kt e)) (hk : P.underlying kt = some (.int .i64)) (hS : St0 S w0 w H)
    (hH : Pos H (.obj b (mapIO l)) H' (.obj b (mapIO (updI l i v)))) (k : ∀ w', St0 S w0 w' H' → KeepB (fun q => q ≠ b) w w' → wpS P ops Q rest N L w') : wpS P ops Q (⟨none, .mapUpdate t m x y, ty, pos, af, g⟩ :: rest) N L w := by
  obtain ⟨j, hj, _⟩ := hH.set
  have hok : w.heap[b]? = some (mapIO l) := hS.ok _ (List.mem_of_getElem? hj)
  refine wpS_run0 hg rfl (fun ρ hρ => ?_) (k _ (PosO.set hH hS) ((KeepB.refl _ _).putObj _ _ (by simp)))
  simp [execOp, hρ m _ hm, hρ x _ hx, hρ y _ hy, run_updI hu hk hok, Result.andThen]
theorem yv_lookupI {t kt e : TypeId} {x y : Operand} {b : Nat} {l : List (Int × Int)} {i : Int} {S' : Nat → Prop} (hx : ev L x = some (.map (some b))) (hy : ev L y = some (.int .i64 i)) (hu : P.underlying t = some (.map kt e)) (hk : P.underlying kt = some (.int .i64)) (hz : ∀ w, (zeroValue e).run P w = .ok (.int .i64 0) w) (hR : RW R S' w) (hS : St0 S w0 w H) (hH : Has H (.obj b (mapIO l))) (hb : S' b) : Yv P L R ⟨d, .lookup t x y false, ty, pos, af, g⟩ (.int .i64 (getI l i)) := Yv.mk fun w1 hw ρ hρ => by
  have hok : w.heap[b]? = some (mapIO l) := hS.ok _ hH.mem
  have h1 : w1.heap[b]? = some (mapIO l) := ((hR.keep w1 hw).heap hb hok)
  simp [execOp, hρ x _ hx, hρ y _ hy, run_lookupI hu hk hz h1, Result.andThen]
end
end Go.Proofs.YtofheinbbefbcaaDoor
/- Laws for walks that a program of mine prints, seventh part: rounds of a range over a function. -/
namespace Go.Proofs.YtofheinbbefbcaaDoor
open Go Go.RowKit
set_option maxRecDepth 100000
section
variable {w w0 A2 : World} {H : List Ent} {M E : Nat}
theorem drop_of_get {α : Type} {l : List α} {k : Nat} {x : α} (h : l[k]? = some x) : l.drop k = x :: l.drop (k + 1) := by
  have hk := (List.getElem?_eq_some_iff.1 h).1
  rw [List.drop_eq_getElem_cons hk, (List.getElem?_eq_some_iff.1 h).2]
/-- What an iterator captured: its box. -/
theorem St0.cap {wM : World} {b T : Nat} {cs : List Value} (h : St0 All wM w (.box b cs T :: H)) : w.heap[b]? = some (.cells cs.toArray T) ∧ wM.heap.size ≤ b ∧ b < w.heap.size := by
  have h1 := h.rng _ (List.mem_cons_self ..) b rfl
  exact ⟨h.ok _ (List.mem_cons_self ..), Nat.le_of_not_lt fun hlt => h1.2 hlt trivial, h1.1⟩
end
end Go.Proofs.YtofheinbbefbcaaDoor
/- Arrays of integers held against each other. -/
namespace Go.Proofs.YtofheinbbefbcaaDoor
open Go Go.RowKit
set_option maxRecDepth 100000

variable {P : Program} {w : World} {t e : TypeId} {k : IntKind}

end Go.Proofs.YtofheinbbefbcaaDoor
/- Laws for walks that a program of mine prints, ninth part: many ready at once, copy, bits. -/
namespace Go.Proofs.YtofheinbbefbcaaDoor
open Go Go.RowKit
set_option maxRecDepth 100000
/-! ### Many at once -/
section
variable {P : Program} {md : Region.Mode} {G : Nat → Nat → Prop} {sl : List Nat} {Q : Exit → Act → World → Prop} {N : FS} {L : List (Nat × Value)} {w : World}
end
/-! ### Bits -/
section
variable {P : Program} {L : List (Nat × Value)} {R : World → Prop} {d : Option Nat} {ty : TypeId} {pos : String} {af : Array Edge} {g : Option (Nat × Bool)} {w : World}
end
/-! ### Slices laid out, as rows -/
theorem Weak.boxRow {w : World} {b e size n : Nat} {cs : List Value} (h : cs.length = n * size) (hn : n ≤ maxLen) : Weak w (.box b cs e) (.row (.slice (some ⟨b, 0, none⟩) n n) e size n cs) :=
  ⟨fun hb => ⟨h, .inr ⟨b, n, cs.toArray, rfl, Nat.zero_le _, hb, Nat.le_refl _, hn, by simp [h], by rw [← h]; simp⟩⟩, fun k hk => by
    have : (Value.slice (some ⟨b, 0, none⟩) n n).ownBlock = some k := hk
    simp only [Value.ownBlock, Option.some.injEq] at this
    exact this.symm⟩
/-! ### copy -/
section
variable {P : Program} {ops : Array Oper} {Q : Exit → Act → World → Prop} {rest : List Oper} {N : FS} {L : List (Nat × Value)} {w w0 : World} {S : Nat → Prop} {H H' : List Ent} {dn : Nat} {ty : TypeId} {pos : String} {af : Array Edge} {g : Option (Nat × Bool)}
end
end Go.Proofs.YtofheinbbefbcaaDoor
/- Bytes: conversions, exclusive or. -/
namespace Go.Proofs.YtofheinbbefbcaaDoor
open Go Go.RowKit
set_option maxRecDepth 100000
section
variable {P : Program} {L : List (Nat × Value)} {R : World → Prop} {d : Option Nat} {ty : TypeId} {pos : String} {af : Array Edge} {g : Option (Nat × Bool)}
theorem yx_xor8 {x y : Operand} {t t' : TypeId} {a b : UInt8} (hx : ev L x = some (.int .u8 (a.toNat : Int))) (hy : ev L y = some (.int .u8 (b.toNat : Int))) : Yv P L R ⟨d, .binOp .xor t x y t', ty, pos, af, g⟩ (.int .u8 ((a ^^^ b).toNat : Int)) := by
  have e : bits .xor .u8 (a.toNat : Int) (b.toNat : Int) = ((a ^^^ b).toNat : Int) := by
    rw [u8_xor_nat _ _ a.toNat_lt b.toNat_lt, UInt8.toNat_xor]
  rw [← e]
  exact Yv.mk fun w1 _ ρ hρ => by
    simp only [execOp, hρ x _ hx, hρ y _ hy, eqGuard]
    simp [binOp, Op.intBits]
    rfl
end
end Go.Proofs.YtofheinbbefbcaaDoor
/- Bytes as strings. -/
namespace Go.Proofs.YtofheinbbefbcaaDoor
open Go Go.RowKit
set_option maxRecDepth 100000
section
variable {P : Program} {L : List (Nat × Value)} {R : World → Prop} {d : Option Nat} {ty : TypeId} {pos : String} {af : Array Edge} {g : Option (Nat × Bool)} {w : World}
theorem yx_str {x : Operand} {s t e : TypeId} {c : Nat} {A : Option Addr} {l : List UInt8} (hs : P.underlying s = some (.slice e)) (he : P.underlying e = some (.int .u8)) (ht : P.underlying t = some .string) (hx : ev L x = some (.slice A l.length c)) (hR : RW R (fun _ => True) w) (hr : Rd w A (encs enY l)) : Yv P L R ⟨d, .convert s t x, ty, pos, af, g⟩ (.string (bstr l)) := Yv.mk fun w1 hw ρ hρ => by
  have h1 : Rd w1 A (bvs l) := by rw [bvs_encs]; exact (hR.keep w1 hw).rd hr (fun _ _ => trivial)
  simp only [execOp, hρ x _ hx, Sem.run_bind, run_str h1 c s e hs he t ht, Result.andThen_ok, Sem.run_pure]
theorem yx_neqStr {x y : Operand} {t t' : TypeId} {l m : List UInt8} (hx : ev L x = some (.string (bstr l))) (hy : ev L y = some (.string (bstr m))) : Yv P L R ⟨d, .binOp .neq t x y t', ty, pos, af, g⟩ (.bool (decide (l ≠ m))) := Yv.mk fun w1 _ ρ hρ => by
  have h := bstr_beq l m
  simp only [execOp, hρ x _ hx, hρ y _ hy, eqGuard]
  simp [binOp, Op.stringOp, h]
end
end Go.Proofs.YtofheinbbefbcaaDoor
/- Structures, and arguments of their types opened; printed. -/
namespace Go.Proofs.YtofheinbbefbcaaDoor
open Go Go.ChangeShapes Go.WideShapes Go.ChangeAt Go.RowKit
set_option maxRecDepth 100000
structure Rf where
  seq : Int
  fmt : Int
deriving DecidableEq
structure Sg where
  seq : Int
  fmt : Int
  first : Int
  count : Int
deriving DecidableEq
structure Id where
  kind : Int
  seq : Int
  fmt : Int
deriving DecidableEq
structure Sc where
  first : Int
  log : List En
  used : Int
deriving DecidableEq
structure Mf where
  next : Int
  term : Int
  vote : Int
  snap : Rf
  segs : List Sg
deriving DecidableEq
instance : Inhabited Rf := ⟨⟨0, 0⟩⟩
def enSg (x : Sg) : List Value := [.int .i64 x.seq, .int .i64 x.fmt, .int .i64 x.first, .int .i64 x.count]
theorem he_enSg : ∀ x, (enSg x).length = 3 + 1 := fun _ => rfl
theorem oc_enSg : ∀ l : List Sg, ∀ u ∈ encs enSg l, u.oneCell' = true := oc_of fun _ => rfl
instance : Inhabited Sg := ⟨⟨0, 0, 0, 0⟩⟩
def enId (x : Id) : List Value := [.int .u8 x.kind, .int .i64 x.seq, .int .i64 x.fmt]
theorem he_enId : ∀ x, (enId x).length = 2 + 1 := fun _ => rfl
theorem oc_enId : ∀ l : List Id, ∀ u ∈ encs enId l, u.oneCell' = true := oc_of fun _ => rfl
instance : Inhabited Id := ⟨⟨0, 0, 0⟩⟩
def Rf.ok (x : Rf) : Prop := I64 x.seq ∧ I64 x.fmt
def Sg.ok (x : Sg) : Prop := I64 x.seq ∧ I64 x.fmt ∧ I64 x.first ∧ I64 x.count
def Id.ok (x : Id) : Prop := (0 ≤ x.kind ∧ x.kind ≤ 255) ∧ I64 x.seq ∧ I64 x.fmt
def Sc.ok (x : Sc) : Prop := I64 x.first ∧ (∀ e ∈ x.log, e.ok) ∧ I64 x.used
def Mf.ok (x : Mf) : Prop := I64 x.next ∧ I64 x.term ∧ I64 x.vote ∧ x.snap.ok ∧ (∀ e ∈ x.segs, e.ok)
section
variable {H : Type} {enc : TypeId × Value → H} {W : World} {base0 : Nat} {sp : Nat → Bool} {held : Bool} {base : Nat}
theorem trod_Rf {fuel : Nat} {cs : List Value} {y : DataW H × List MemPlace} (h : DataW.trod enc Tryd.prog W base0 sp held fuel 47 cs = some y) :
    ∃ x : Rf, cs = [.int .i64 x.seq, .int .i64 x.fmt] ∧ x.ok := by
  obtain ⟨xs, n, _, _, hl, hlen, hf⟩ := DataW.trod_struct Tryd.underlying47 h
  rw [show Tryd.prog.cellsOf 47 = 2 by kernel_rfl] at hl
  have hlen' : xs.length = 2 := hlen
  have hc3 : Tryd.prog.cellsOf 3 = 1 := by kernel_rfl
  match cs, hl with
  | [k0, k1], _ =>
    match xs, hlen' with
    | [y0, y1], _ =>
      have h0 : DataW.trod enc Tryd.prog W base0 sp held n 3 [k0] = some y0 := by simpa [hc3] using hf 0 _ rfl
      obtain ⟨a0, e0, _, w0⟩ := DataW.trod_int Tryd.underlying3 h0
      have h1 : DataW.trod enc Tryd.prog W base0 sp held n 3 [k1] = some y1 := by simpa [hc3] using hf 1 _ rfl
      obtain ⟨a1, e1, _, w1⟩ := DataW.trod_int Tryd.underlying3 h1
      simp only [List.cons.injEq, and_true] at e0 e1
      subst e0
      subst e1
      exact ⟨⟨a0, a1⟩, rfl, bounds_i64 w0, bounds_i64 w1⟩
theorem trod_Sg {fuel : Nat} {cs : List Value} {y : DataW H × List MemPlace} (h : DataW.trod enc Tryd.prog W base0 sp held fuel 66 cs = some y) :
    ∃ x : Sg, cs = [.int .i64 x.seq, .int .i64 x.fmt, .int .i64 x.first, .int .i64 x.count] ∧ x.ok := by
  obtain ⟨xs, n, _, _, hl, hlen, hf⟩ := DataW.trod_struct Tryd.underlying66 h
  rw [show Tryd.prog.cellsOf 66 = 4 by kernel_rfl] at hl
  have hlen' : xs.length = 4 := hlen
  have hc3 : Tryd.prog.cellsOf 3 = 1 := by kernel_rfl
  match cs, hl with
  | [k0, k1, k2, k3], _ =>
    match xs, hlen' with
    | [y0, y1, y2, y3], _ =>
      have h0 : DataW.trod enc Tryd.prog W base0 sp held n 3 [k0] = some y0 := by simpa [hc3] using hf 0 _ rfl
      obtain ⟨a0, e0, _, w0⟩ := DataW.trod_int Tryd.underlying3 h0
      have h1 : DataW.trod enc Tryd.prog W base0 sp held n 3 [k1] = some y1 := by simpa [hc3] using hf 1 _ rfl
      obtain ⟨a1, e1, _, w1⟩ := DataW.trod_int Tryd.underlying3 h1
      have h2 : DataW.trod enc Tryd.prog W base0 sp held n 3 [k2] = some y2 := by simpa [hc3] using hf 2 _ rfl
      obtain ⟨a2, e2, _, w2⟩ := DataW.trod_int Tryd.underlying3 h2
      have h3 : DataW.trod enc Tryd.prog W base0 sp held n 3 [k3] = some y3 := by simpa [hc3] using hf 3 _ rfl
      obtain ⟨a3, e3, _, w3⟩ := DataW.trod_int Tryd.underlying3 h3
      simp only [List.cons.injEq, and_true] at e0 e1 e2 e3
      subst e0
      subst e1
      subst e2
      subst e3
      exact ⟨⟨a0, a1, a2, a3⟩, rfl, bounds_i64 w0, bounds_i64 w1, bounds_i64 w2, bounds_i64 w3⟩
theorem trod_l48 {fuel : Nat} {cs : List Value} {x : DataW H × List MemPlace} (h : DataW.trod enc Tryd.prog W base0 sp held fuel 48 cs = some x) :
    ∃ A c, ∃ l : List Sg, cs = [.slice A l.length c] ∧ l.length ≤ c ∧ c ≤ maxLen ∧ Rd W A (encs enSg l) ∧ ∀ e ∈ l, (Sg.ok) e := trod_rows enSg (Sg.ok) 4 (by omega) (fun _ => rfl) Tryd.underlying48 (by kernel_rfl) (fun _ _ _ h => by obtain ⟨x, e, ok⟩ := trod_Sg h; exact ⟨x, ok, e⟩) h
theorem trod_Mf {fuel : Nat} {cs : List Value} {y : DataW H × List MemPlace} (h : DataW.trod enc Tryd.prog W base0 sp held fuel 50 cs = some y) :
    ∃ A0 c0, ∃ x : Mf, cs = [.int .i64 x.next, .int .i64 x.term, .int .i64 x.vote, .int .i64 x.snap.seq, .int .i64 x.snap.fmt, .slice A0 x.segs.length c0] ∧ (x.segs.length ≤ c0 ∧ c0 ≤ maxLen ∧ Rd W A0 (encs enSg x.segs)) ∧ x.ok := by
  obtain ⟨xs, n, _, _, hl, hlen, hf⟩ := DataW.trod_struct Tryd.underlying50 h
  rw [show Tryd.prog.cellsOf 50 = 6 by kernel_rfl] at hl
  have hlen' : xs.length = 5 := hlen
  have hc3 : Tryd.prog.cellsOf 3 = 1 := by kernel_rfl
  have hc47 : Tryd.prog.cellsOf 47 = 2 := by kernel_rfl
  have hc48 : Tryd.prog.cellsOf 48 = 1 := by kernel_rfl
  match cs, hl with
  | [k0, k1, k2, k3, k4, k5], _ =>
    match xs, hlen' with
    | [y0, y1, y2, y3, y4], _ =>
      have h0 : DataW.trod enc Tryd.prog W base0 sp held n 3 [k0] = some y0 := by simpa [hc3, hc47, hc48] using hf 0 _ rfl
      obtain ⟨a0, e0, _, w0⟩ := DataW.trod_int Tryd.underlying3 h0
      have h1 : DataW.trod enc Tryd.prog W base0 sp held n 3 [k1] = some y1 := by simpa [hc3, hc47, hc48] using hf 1 _ rfl
      obtain ⟨a1, e1, _, w1⟩ := DataW.trod_int Tryd.underlying3 h1
      have h2 : DataW.trod enc Tryd.prog W base0 sp held n 3 [k2] = some y2 := by simpa [hc3, hc47, hc48] using hf 2 _ rfl
      obtain ⟨a2, e2, _, w2⟩ := DataW.trod_int Tryd.underlying3 h2
      have h3 : DataW.trod enc Tryd.prog W base0 sp held n 47 [k3, k4] = some y3 := by simpa [hc3, hc47, hc48] using hf 3 _ rfl
      obtain ⟨a3, e3, s3⟩ := trod_Rf h3
      have h4 : DataW.trod enc Tryd.prog W base0 sp held n 48 [k5] = some y4 := by simpa [hc3, hc47, hc48] using hf 4 _ rfl
      obtain ⟨B4, d4, a4, e4, g4a, g4b, g4c, g4d⟩ := trod_l48 h4
      simp only [List.cons.injEq, and_true] at e0 e1 e2 e3 e4
      subst e0
      subst e1
      subst e2
      obtain ⟨rfl, rfl⟩ := e3
      subst e4
      exact ⟨B4, d4, ⟨a0, a1, a2, a3, a4⟩, rfl, ⟨g4a, g4b, g4c⟩, bounds_i64 w0, bounds_i64 w1, bounds_i64 w2, s3, g4d⟩
theorem open_Mf {v : Value} {d : DataW H} {p : List MemPlace} (hval : Value.okWide Tryd.prog W .any base 50 v) (h1 : DataW.Trod enc Tryd.prog W base0 sp held 50 v d p) :
    ∃ A0 c0, ∃ x : Mf, v = .agg #[.int .i64 x.next, .int .i64 x.term, .int .i64 x.vote, .int .i64 x.snap.seq, .int .i64 x.snap.fmt, .slice A0 x.segs.length c0] ∧ SlI W enSg A0 c0 x.segs ∧ x.ok := by
  obtain ⟨cs, rfl, hsz⟩ := okWide_struct Tryd.underlying50 hval
  obtain ⟨fuel, hf⟩ := h1
  obtain ⟨A0, c0, x, he, g0, hok⟩ := trod_Mf hf
  simp only [Value.cells] at he
  obtain ⟨l⟩ := cs
  simp only at he
  subst he
  have b0 : ∀ a, A0 = some a → a.block < W.heap.size := fun a ha => by subst ha; exact okWide_part (i := 5) Tryd.underlying50 (by kernel_rfl : Tryd.prog.cellTypes Tryd.prog.depth 50 = some [3, 3, 3, 3, 3, 48]) rfl rfl Tryd.underlying48 hval rfl
  exact ⟨A0, c0, x, rfl, ⟨g0.1, g0.2.1, g0.2.2, b0⟩, hok⟩
end
end Go.Proofs.YtofheinbbefbcaaDoor
/- Plain laws of what printed functions compute: small numbers, places of lists. -/
namespace Go.Proofs.YtofheinbbefbcaaDoor
open Go Go.RowKit
set_option maxRecDepth 100000
theorem w64i {n : Int} (h : -9223372036854775808 ≤ n ∧ n ≤ 9223372036854775807) : IntKind.wrap .i64 n = n := i64_in' h
theorem idx_nat {α : Type} (l : List α) (k : Nat) : idx l (k : Int) = l[k]? := by unfold idx; simp
theorem takeI_nat {α : Type} (l : List α) (k : Nat) (h : k ≤ l.length) : takeI l (k : Int) = some (l.take k) := by unfold takeI; rw [if_pos (by omega)]; simp
theorem dropI_nat {α : Type} (l : List α) (k : Nat) (h : k ≤ l.length) : dropI l (k : Int) = some (l.drop k) := by unfold dropI; rw [if_pos (by omega)]; simp
theorem fewI_ok {α : Type} (l : List α) (h : l.length ≤ 1000000000) : fewI l = some l := if_pos h
theorem remI_ok (m n : Int) (h : n ≠ 0) : remI m n = some (m.tmod n) := if_pos h
theorem drop_step {α : Type} {l : List α} {k : Nat} (h : k < l.length) : ∃ e, l[k]? = some e ∧ l.drop k = e :: l.drop (k + 1) := ⟨l[k], List.getElem?_eq_getElem h, List.drop_eq_getElem_cons h⟩
end Go.Proofs.YtofheinbbefbcaaDoor
/- A walk by laws alone. Eleventh part: ranges over functions that keep blocks of their own. -/
namespace Go.Proofs.YtofheinbbefbcaaDoor
open Go Go.RowKit
set_option maxRecDepth 100000

section
variable {P : Program}
/-- AN ITERATOR'S CONTRACT, as IterP; blocks that it made itself ahead of the first round (up to E) a round leaves as they are; behind it there are none. -/
def IterM {α : Type} (P : Program) (g : Nat) (lb : Array Value) (encs : α → Array Value) (xs : List α) (n0 M : Nat) (w : World) : Prop :=
  ∀ (l : Nat) (J : Nat → Nat → World → Prop) (Jx : Nat → World → Prop) (Jp : Nat → List PanicEntry → World → Prop) (W : World),
    Below w.heap.size w W →
    (∀ E k A B, J E k A → KeepB (fun _ => True) A B → J E k B) →
    (∀ E A B, Jx E A → KeepB (fun _ => True) A B → Jx E B) →
    (∀ E c A B, Jp E c A → KeepB (fun _ => True) A B → Jp E c B) →
    (∀ A, KeepB (fun _ => True) W A → J A.heap.size 0 A) →
    (∀ E k x A, W.heap.size ≤ E → xs[k]? = some x → J E k A → E ≤ A.heap.size → YieldAt Fence.wide 8 P l (encs x) A fun e B =>
      (e = .returned (.bool true) ∧ J E (k + 1) B ∧ KeepB (fun b => b < n0 ∨ (M ≤ b ∧ b < w.heap.size) ∨ (W.heap.size ≤ b ∧ b < E)) A B) ∨
      (e = .returned (.bool false) ∧ Jx E B ∧ KeepB (fun b => b < n0 ∨ (M ≤ b ∧ b < w.heap.size) ∨ (W.heap.size ≤ b ∧ b < E)) A B) ∨
      (∃ c, e = .panicked c ∧ Jp E c B)) →
    Calls P g (#[.func (.yield l) #[] #[]] ++ lb) W fun e B => ((∃ v, e = .returned v) ∧ ∃ E, (J E xs.length B ∨ Jx E B)) ∨ (∃ c E, e = .panicked c ∧ Jp E c B)

set_option maxHeartbeats 1000000 in
theorem range_oM {α : Type} {g : Operand} {ps : Array Tmp} {assign body : Code} {Q : Exit → Act → World → Prop} {a : Act} {w : World}
    {gf : Nat} {lb : Array Value} (hg : a.eval g = .func (.func gf) #[] lb) (eg : ∀ args w, (callFunc gf args).run P w = .ok (.enter gf args) w)
    {encs : α → Array Value} {xs : List α} {n0 M : Nat} (hit : IterM P gf lb encs xs n0 M w) (hnM : n0 ≤ M) (hM : M ≤ w.heap.size) (hps : ∀ x, (encs x).size = ps.size)
    (I : Nat → Nat → World → Prop) (Ix : Nat → Code → World → Prop) (Ip : Nat → List PanicEntry → World → Prop)
    (hI : ∀ E k A B, I E k A → KeepB (fun b => b < M ∨ E ≤ b) A B → I E k B)
    (hIx : ∀ E c A B, Ix E c A → KeepB (fun b => b < M ∨ E ≤ b) A B → Ix E c B)
    (hIp : ∀ E c A B, Ip E c A → KeepB (fun b => b < M ∨ E ≤ b) A B → Ip E c B)
    (h0 : ∀ E A, w.heap.size + 2 ≤ E → KeepB (fun _ => True) w A → I E 0 A)
    (hround : ∀ l E k x A, w.heap.size + 2 ≤ E → xs[k]? = some x → I E k A → E ≤ A.heap.size →
      wpo P (some l) assign (Exit.then (fun a1 A1 => KeepB (fun _ => True) A A1 ∧
        ∀ A2, KeepB (fun b => b < w.heap.size ∨ w.heap.size + 2 ≤ b) A1 A2 → I E k A2 →
          wpo P (some l) body (roundEndP (fun b => b < n0 ∨ (M ≤ b ∧ b < E)) (I E (k + 1)) (Ix E) (Ip E) A2) a1 A2) (fun _ _ _ => False))
        { tmps := (ps.zip (encs x)).foldl (fun t (p, v) => t.setIfInBounds p v) a.tmps, defers := [] } A)
    (hdone : ∀ E A, w.heap.size + 2 ≤ E → I E xs.length A → A.heap[w.heap.size]? = some (.deferred (some [])) → Q .normal { a with defers := { target := .collected w.heap.size, args := #[] } :: a.defers } A)
    (hstop : ∀ E c A, w.heap.size + 2 ≤ E → Ix E c A → A.heap[w.heap.size]? = some (.deferred (some [])) → wpo P none c Q { a with defers := { target := .collected w.heap.size, args := #[] } :: a.defers } A)
    (hpan : ∀ E c A, w.heap.size + 2 ≤ E → Ip E c A → A.heap[w.heap.size]? = some (.deferred (some [])) → Q (.panic c) { a with defers := { target := .collected w.heap.size, args := #[] } :: a.defers } A) :
    wpo P none (.rangeFunc g ps assign body) Q a w := by
  refine wpo_rangeFunc ?_
  intro fn hfn
  obtain ⟨rec, hrec⟩ : ∃ rec : LoopState → Option Code → Loop, rec = fun st pe => { state := st, pending := pe, fn, tmps := a.tmps, params := ps, assign, body, defers := w.heap.size } := ⟨_, rfl⟩
  obtain ⟨W1, hW1⟩ : ∃ W1, (w.alloc (.deferred (some []))).alloc (.loop (rec .ready none)) = W1 := ⟨_, rfl⟩
  have hL1 : W1.heap[w.heap.size + 1]? = some (.loop (rec .ready none)) := by
    rw [← hW1]; have := World.alloc_heap_new (w.alloc (.deferred (some []))) (.loop (rec .ready none)); rwa [World.size_alloc] at this
  have hK1 : W1.heap[w.heap.size]? = some (.deferred (some [])) := by
    rw [← hW1]; exact (Below.heap_alloc _ _ _ (by simp)).trans (World.alloc_heap_new w _)
  have hs1 : W1.heap.size = w.heap.size + 2 := by rw [← hW1]; simp
  have hkw : ∀ S, KeepB S w W1 := fun S => by rw [← hW1]; exact ((KeepB.refl S w).alloc _).alloc _
  have hb1 : Below w.heap.size w W1 := (hkw (fun _ => True)).to_below (Nat.le_refl _) (fun _ _ => trivial)
  refine ⟨w.heap.size + 1, [{ target := .collected w.heap.size, args := #[] }], W1, { target := .fn (.func gf) lb, args := #[.func (.yield (w.heap.size + 1)) #[] #[]] }, W1, gf,
    #[.func (.yield (w.heap.size + 1)) #[] #[]] ++ lb, W1, ?_, ?_, ?_, ?_⟩
  · rw [← hW1, hrec]; exact run_enterLoop_outer _ _ _ _ _
  · simp only [resolve, hg]
    simp [go_sem]
  · simp [invoke, go_sem, eg]
  · have hit' := hit (w.heap.size + 1)
      (fun E k W => w.heap.size + 2 ≤ E ∧ I E k W ∧ W.heap[w.heap.size + 1]? = some (.loop (rec .ready none)) ∧ W.heap[w.heap.size]? = some (.deferred (some [])))
      (fun E W => w.heap.size + 2 ≤ E ∧ ∃ c, Ix E c W ∧ W.heap[w.heap.size + 1]? = some (.loop (rec .done (some c))) ∧ W.heap[w.heap.size]? = some (.deferred (some [])))
      (fun E c W => w.heap.size + 2 ≤ E ∧ Ip E c W ∧ W.heap[w.heap.size]? = some (.deferred (some [])))
      W1 hb1
      (fun E k A B hs hk => ⟨hs.1, hI E k A B hs.2.1 (hk.sub (fun b _ h => trivial)), hk.heap trivial hs.2.2.1, hk.heap trivial hs.2.2.2⟩)
      (fun E A B hs hk => by
        obtain ⟨hE, c, hc, h2, h3⟩ := hs
        exact ⟨hE, c, hIx E c A B hc (hk.sub (fun b _ h => trivial)), hk.heap trivial h2, hk.heap trivial h3⟩)
      (fun E c A B hs hk => ⟨hs.1, hIp E c A B hs.2.1 (hk.sub (fun b _ h => trivial)), hk.heap trivial hs.2.2⟩)
      (fun A hk => ⟨by have := hk.size; omega, h0 _ A (by have := hk.size; omega) ((hkw _).trans hk), hk.heap trivial hL1, hk.heap trivial hK1⟩)
      ?_
    · refine hit'.mono ?_
      rintro e W2 (⟨⟨v, rfl⟩, E, (⟨hE, hi, hl, hk⟩ | ⟨hE, c, hi, hl, hk⟩)⟩ | ⟨c, E, rfl, hE, hi, hk⟩)
      · exact ⟨none, _, by have := run_endLoop (P := P) hl (by rw [hrec]; simp); rw [hrec] at this; exact this,
          hdone E _ hE (hI _ _ _ _ hi ((KeepB.refl _ _).putObj _ _ (by omega))) ((World.putObj_heap_other (by omega)).trans hk)⟩
      · exact ⟨some c, _, by have := run_endLoop (P := P) hl (by rw [hrec]; simp); rw [hrec] at this; exact this,
          hstop E c _ hE (hIx _ _ _ _ hi ((KeepB.refl _ _).putObj _ _ (by omega))) ((World.putObj_heap_other (by omega)).trans hk)⟩
      · exact hpan E c _ hE hi hk
    · rintro E k x W hEW hx ⟨hE, hi, hl, hk⟩ hsz
      have hlt : w.heap.size + 1 < W.heap.size := (Array.getElem?_eq_some_iff.1 hl).1
      have hy := run_yield (P := P) (args := encs x) hl (by rw [hrec]; exact hps x)
      rw [hrec] at hy
      refine ⟨fn, _, assign, body, hy, round_of_wpo hfn ?_⟩
      refine wpo_mono (hround (w.heap.size + 1) E k x W hE hx hi hsz) ?_
      rintro e a1 A1 hp
      cases e with
      | normal =>
        obtain ⟨hk1, hbody⟩ := hp
        have hl1 : A1.heap[w.heap.size + 1]? = some (.loop (rec .ready none)) := hk1.heap trivial hl
        have hd1 : A1.heap[w.heap.size]? = some (.deferred (some [])) := hk1.heap trivial hk
        have hlt1 : w.heap.size + 1 < A1.heap.size := (Array.getElem?_eq_some_iff.1 hl1).1
        refine ⟨_, run_beginRound hl1 (by rw [hrec]), ?_⟩
        obtain ⟨A2, hA2⟩ : ∃ A2, A1.putObj (w.heap.size + 1) (.loop { rec .ready none with state := .busy }) = A2 := ⟨_, rfl⟩
        rw [hA2]
        have hk2 : KeepB (fun b => b ≠ w.heap.size + 1) A1 A2 := by rw [← hA2]; exact (KeepB.refl _ _).putObj _ _ (by omega)
        have hl2 : A2.heap[w.heap.size + 1]? = some (.loop { rec .ready none with state := .busy }) := by rw [← hA2]; exact World.putObj_heap_same hlt1
        have hd2 : A2.heap[w.heap.size]? = some (.deferred (some [])) := hk2.heap (by omega) hd1
        have hkeep12 : KeepB (fun b => b < n0 ∨ (M ≤ b ∧ b < w.heap.size) ∨ (W1.heap.size ≤ b ∧ b < E)) W A2 := (hk1.sub (fun _ _ _ => trivial)).trans (hk2.sub (fun b _ h => by omega))
        have fin : ∀ (jump : Option Code) (W3 : World), KeepB (fun b => b < n0 ∨ (M ≤ b ∧ b < E)) A2 W3 →
            (Instr.endRound (w.heap.size + 1) jump).run P W3 = .ok (.bool jump.isNone) (W3.putObj (w.heap.size + 1) (.loop (rec (if jump.isNone then .ready else .done) jump))) ∧
            (W3.putObj (w.heap.size + 1) (.loop (rec (if jump.isNone then .ready else .done) jump))).heap[w.heap.size + 1]? = some (.loop (rec (if jump.isNone then .ready else .done) jump)) ∧
            (W3.putObj (w.heap.size + 1) (.loop (rec (if jump.isNone then .ready else .done) jump))).heap[w.heap.size]? = some (.deferred (some [])) ∧
            KeepB (fun b => b < n0 ∨ (M ≤ b ∧ b < w.heap.size) ∨ (W1.heap.size ≤ b ∧ b < E)) W (W3.putObj (w.heap.size + 1) (.loop (rec (if jump.isNone then .ready else .done) jump))) := fun jump W3 hk3 => by
          have hl3 := hk3.heap (by omega) hl2
          have := run_endRound (P := P) jump hl3
          rw [hrec] at this ⊢
          refine ⟨this, World.putObj_heap_same (Array.getElem?_eq_some_iff.1 hl3).1, (World.putObj_heap_other (by omega)).trans (hk3.heap (by omega) hd2), ?_⟩
          exact (hkeep12.trans (hk3.sub (fun b _ h => by omega))).putObj _ _ (by omega)
        have hiA2 : I E k A2 := hI E k A1 A2 (hI E k W A1 hi (hk1.sub (fun _ _ _ => trivial))) (hk2.sub (fun b _ h => by omega))
        refine wpo_mono (hbody A2 (hk2.sub (fun b _ h => by omega)) hiA2) ?_
        have hst : ∀ (jump : Option Code) (W3 : World), KeepB (fun b => b < M ∨ E ≤ b) W3 (W3.putObj (w.heap.size + 1) (.loop (rec (if jump.isNone then .ready else .done) jump))) := fun jump W3 => (KeepB.refl _ _).putObj _ _ (by omega)
        rintro e a3 W3 hp
        cases e with
        | normal =>
          obtain ⟨hk3, hi3⟩ := hp
          obtain ⟨hr, hl4, hk4, hk5⟩ := fin none W3 hk3
          exact ⟨_, _, hr, .inl ⟨rfl, ⟨hE, hI _ _ _ _ hi3 (hst none W3), hl4, hk4⟩, hk5⟩⟩
        | ret =>
          obtain ⟨hk3, hi3⟩ := hp
          obtain ⟨hr, hl4, hk4, hk5⟩ := fin (some .ret) W3 hk3
          exact ⟨_, _, hr, .inr (.inl ⟨rfl, ⟨hE, .ret, hIx _ _ _ _ hi3 (hst _ W3), hl4, hk4⟩, hk5⟩)⟩
        | exit id =>
          obtain ⟨hk3, hi3⟩ := hp
          obtain ⟨hr, hl4, hk4, hk5⟩ := fin (some (.exit id)) W3 hk3
          exact ⟨_, _, hr, .inr (.inl ⟨rfl, ⟨hE, .exit id, hIx _ _ _ _ hi3 (hst _ W3), hl4, hk4⟩, hk5⟩)⟩
        | goto t =>
          obtain ⟨hk3, hi3⟩ := hp
          obtain ⟨hr, hl4, hk4, hk5⟩ := fin (some (.goto t)) W3 hk3
          exact ⟨_, _, hr, .inr (.inl ⟨rfl, ⟨hE, .goto t, hIx _ _ _ _ hi3 (hst _ W3), hl4, hk4⟩, hk5⟩)⟩
        | panic ch =>
          obtain ⟨hdf, hk3, hip⟩ := hp
          exact ⟨hdf, .inr (.inr ⟨ch, rfl, hE, hip, hk3.heap (by omega) hd2⟩)⟩
        | outgrown => exact hp.elim
      | _ => exact hp.elim


variable {ops : Array Oper} {Q : Exit → Act → World → Prop} {N : FS} {L : List (Nat × Value)} {w w0 : World} {S : Nat → Prop} {H H' : List Ent} {ro : Option Nat}
/-- The law. -/
theorem wpC_rangeM {α X : Type} {g : Operand} {ps : Array Tmp} {assign body : Code} {gf : Nat} {lb : Array Value} (hg : ev L g = some (.func (.func gf) #[] lb)) (eg : enterB P gf = true)
    {encs : α → List Value} {xs : List α} {M : Nat} (hit : IterM P gf lb (fun x => (encs x).toArray) xs w0.heap.size M w) (hM : w0.heap.size ≤ M ∧ M ≤ w.heap.size) (hps : ∀ x, (encs x).length = ps.size) (hpn : (ps.toList.all fun p => Nat.ble (p + 1) N.n) = true)
    (Hk : Nat → X → List Ent) (Jk : Nat → X → Prop) (Hx : Code → X → List Ent) (Jx : Code → X → Prop) (Ip : List PanicEntry → Prop)
    (x0 : X) (h0 : Rnd w0 M (w.heap.size + 2) w (Hk 0 x0)) (j0 : Jk 0 x0)
    (hround : ∀ l k e x E A, w.heap.size + 2 ≤ E → xs[k]? = some e → Jk k x → E ≤ A.heap.size → Rnd w0 M E A (Hk k x) → St0 All A A [] →
      wpC P (some l) assign (Exit.then (AsgK P l body ⟨N.n, []⟩ w0 M E (Hk k x) A (fun A2 => roundEndP (staysR w0.heap.size M E) (fun B => ∃ x', Rnd w0 M E B (Hk (k + 1) x') ∧ Jk (k + 1) x') (fun c B => ∃ x', Rnd w0 M E B (Hx c x') ∧ Jx c x') (fun c B => Below w0.heap.size w0 B ∧ Ip c) A2)) (fun _ _ _ => False))
        ⟨N.n, []⟩ ((ps.toList.zip (encs e)).foldl (fun L p => p :: L) L) A)
    (hdone : ∀ x A, Jk xs.length x → St0 All w0 A (.obj w.heap.size (.deferred (some [])) :: Hk xs.length x) → QH Q .normal ⟨N.n, { target := .collected w.heap.size, args := #[] } :: N.d⟩ L A)
    (hstop : ∀ c x A, Jx c x → St0 All w0 A (.obj w.heap.size (.deferred (some [])) :: Hx c x) → wpC P none c Q ⟨N.n, { target := .collected w.heap.size, args := #[] } :: N.d⟩ L A)
    (hpan : ∀ c A, Ip c → St0 All w0 A [.obj w.heap.size (.deferred (some []))] → QH Q (.panic c) ⟨N.n, { target := .collected w.heap.size, args := #[] } :: N.d⟩ L A) :
    wpC P none (.rangeFunc g ps assign body) Q N L w := ⟨fun a hF => by
  have hmark : ∀ E A H1, w.heap.size + 2 ≤ E → Rnd w0 M E A H1 → A.heap[w.heap.size]? = some (.deferred (some [])) → St0 All w0 A (.obj w.heap.size (.deferred (some [])) :: H1) := fun E A H1 hE hR hd => by
    refine ⟨hR.st.base, fun e he => ?_, fun e he k hx => ?_, List.pairwise_cons.2 ⟨fun e he k hx hx' => ?_, hR.st.dis⟩⟩
    · rcases List.mem_cons.1 he with rfl | he
      · exact hd
      · exact hR.st.ok e he
    · rcases List.mem_cons.1 he with rfl | he
      · obtain rfl : k = w.heap.size := hx
        exact ⟨(Array.getElem?_eq_some_iff.1 hd).1, fun hlt => (by omega)⟩
      · exact hR.st.rng e he k hx
    · obtain rfl : k = w.heap.size := hx
      have := hR.off e he _ hx'
      omega
  have hF' : ∀ A : World, Fr ⟨N.n, { target := .collected w.heap.size, args := #[] } :: N.d⟩ L { a with defers := { target := .collected w.heap.size, args := #[] } :: a.defers } := fun A => ⟨hF.size, by rw [hF.defers], hF.at_⟩
  refine range_oM (n0 := w0.heap.size) (M := M) (hF.eval hg) (fun args w => callFunc_enter eg args) hit hM.1 hM.2 (fun x => by simp [hps x])
    (fun E k A => ∃ x, Rnd w0 M E A (Hk k x) ∧ Jk k x) (fun E c A => ∃ x, Rnd w0 M E A (Hx c x) ∧ Jx c x) (fun E c A => Below w0.heap.size w0 A ∧ Ip c)
    (fun E k A B h hk => h.imp fun x h => ⟨h.1.keep hM.1 hk, h.2⟩) (fun E c A B h hk => h.imp fun x h => ⟨h.1.keep hM.1 hk, h.2⟩)
    (fun E c A B h hk => ⟨h.1.trans (hk.to_below h.1.size (fun _ hb => .inl (by omega))), h.2⟩) (fun E A hE hk => ⟨x0, ?_, j0⟩) ?_ ?_ ?_ ?_
  · have hR := h0.keep hM.1 (hk.sub fun _ _ _ => trivial)
    refine ⟨hR.st, fun e he k hx => ?_⟩
    have h1 := (h0.st.rng e he k hx).1
    have h2 := h0.off e he k hx
    omega
  · rintro l E k e A hE hxk ⟨x, hR, hJ⟩ hsz
    have hfr : Fr ⟨N.n, []⟩ ((ps.toList.zip (encs e)).foldl (fun L p => p :: L) L) { tmps := (ps.zip (encs e).toArray).foldl (fun t (p, v) => t.setIfInBounds p v) a.tmps, defers := [] } := by
      have := put_frame (N := ⟨N.n, []⟩) (ps := ps.toList) (vs := encs e) (tm := a.tmps) (L := L) ⟨hF.size, rfl, hF.at_⟩ hpn
      have e1 : (ps.zip (encs e).toArray) = (ps.toList.zip (encs e)).toArray := by
        rw [← Array.toList_inj]; simp
      rw [e1]
      simpa using this
    refine wpo_mono ((hround l k e x E A hE hxk hJ hsz hR (St0.start _ _)).go _ hfr) ?_
    rintro ex a1 A1 hp
    cases ex with
    | normal =>
      obtain ⟨L1, Hn, hF1, hSn, hbody⟩ := hp.go
      refine ⟨hSn.base, fun A2 hk _ => ?_⟩
      have hk' : KeepB (fun b => b < M ∨ E ≤ b) A1 A2 := hk.sub (fun b _ h => by omega)
      obtain ⟨h1, h2⟩ := hR.begin hM.1 hsz hSn hk'
      exact (hbody A2 h1 h2 (by have := hSn.size; have := hk.size; omega)).go _ hF1
    | _ => exact hp.elim
  · rintro E A hE ⟨x, hR, hJ⟩ hd
    exact (hdone x A hJ (hmark _ _ _ hE hR hd)).go _ (hF' A)
  · rintro E c A hE ⟨x, hR, hJ⟩ hd
    exact (hstop c x A hJ (hmark _ _ _ hE hR hd)).go _ (hF' A)
  · rintro E c A hE ⟨hb, hc⟩ hd
    have hR : Rnd w0 M E A [] := ⟨⟨KeepB.of_below hb (fun _ hk _ => hk), fun _ h => (by cases h), fun _ h => (by cases h), List.Pairwise.nil⟩, fun _ h => (by cases h)⟩
    exact (hpan c A hc (hmark _ _ _ hE hR hd)).go _ (hF' A)⟩
end
end Go.Proofs.YtofheinbbefbcaaDoor
/- Iterators: a manifest's numbers; a row in parts of four. -/
namespace Go.Proofs.YtofheinbbefbcaaDoor
open Go Go.RowKit
set_option maxRecDepth 100000
theorem SlI.belowM {α : Type} {e : α → List Value} {A : Option Addr} {c : Nat} {l : List α} {w w' : World} (h : SlI w e A c l) (hB : Below w.heap.size w w') : SlI w' e A c l := ⟨h.le, h.cap, h.rd.below hB, fun p hp => Nat.lt_of_lt_of_le (h.blk p hp) hB.size⟩
/-- A segment's numbers. -/
def numsOf (s : Sg) : List Int := [s.seq, s.fmt, s.first, IntKind.wrap .i64 (s.count + 1)]
/-- A manifest's head in numbers. -/
def numsH (x : Mf) : List Int := [x.next, x.term, x.vote, x.snap.seq, x.snap.fmt, (x.segs.length : Int)]
def m_it_numbers (x : Mf) : Option (List Int) := if x.segs.length ≤ 1000 then some (numsH x ++ x.segs.flatMap numsOf) else none
theorem numsOf_len (s : Sg) : (numsOf s).length = 4 := rfl
theorem nums_len : ∀ l : List Sg, (l.flatMap numsOf).length = 4 * l.length
  | [] => rfl
  | s :: l => by rw [List.flatMap_cons, List.length_append, nums_len l, numsOf_len, List.length_cons]; omega
set_option maxHeartbeats 1000000 in
theorem it_numbers (x0 : Mf) {A0 : Option Addr} {c0 : Nat} (wB wM w : World) (s0 : SlI wB enSg A0 c0 x0.segs) (hB0 : Below wB.heap.size wB wM) (b : Nat) (hN : St0 All wM w [.box b [.int .i64 x0.next, .int .i64 x0.term, .int .i64 x0.vote, .int .i64 x0.snap.seq, .int .i64 x0.snap.fmt, .slice A0 x0.segs.length c0] 50]) {xs : List Int} (H : m_it_numbers x0 = some xs) :
    IterM Tryd.prog 92 #[.pointer (some ⟨b, 0, none⟩)] (fun p : Int => [Value.int .i64 p].toArray) xs wB.heap.size wM.heap.size w := by
  unfold m_it_numbers at H
  split at H
  case isFalse => cases H
  rename_i hl9
  have hxs := (Option.some.inj H).symm
  obtain ⟨hb, hbM, hbl⟩ := hN.cap
  have hA := (s0.belowM hB0).belowM hN.pure
  intro lo J Jx Jp W hW hJ hJx hJp hst hy
  have hbW : W.heap[b]? = some (.cells #[.int .i64 x0.next, .int .i64 x0.term, .int .i64 x0.vote, .int .i64 x0.snap.seq, .int .i64 x0.snap.fmt, .slice A0 x0.segs.length c0] 50) := (hW.block b hbl).trans hb
  have hAW := hA.belowM hW
  show Calls _ _ #[_, _] _ _
  refine gw_enter2 Tryd.func92 rfl Tryd.ntmps92 rfl ?_
  have hS := St0.start All W
  repeat (first | (apply wpC_seq_k; intro K hK))
  apply wpC_region
  repeat (first | (apply wpS_g; refine wpS_put rfl rfl rfl (by first | exact yv_fieldAddr (by first | exact fo_33_0 | exact fo_47_0 | exact fo_47_1 | exact fo_50_0 | exact fo_50_1 | exact fo_50_2 | exact fo_50_3 | exact fo_50_4) rfl | (apply yv_g_load; first | exact yv_load_ob (by first | exact sc_3 | exact sc_48) rfl (RW.here _) hS (by first | trivial) (by first | trivial) (by assumption) (by repeat (first | exact Seg.here (Pre.succ Pre.zero) | apply Seg.succ))) | (apply yv_g_bi; first | exact yv_len (by first | exact el_48) rfl)) ?_))
  refine wpS_sliceM (ps := [(0, .tmp 9), (1, .tmp 11), (2, .tmp 13), (3, .tmp 16), (4, .tmp 19), (5, .tmp 22)]) [.int .i64 x0.next, .int .i64 x0.term, .int .i64 x0.vote, .int .i64 x0.snap.seq, .int .i64 x0.snap.fmt, .int .i64 (x0.segs.length : Int)] (by first | exact el_90) (by first | exact zc_3) rfl rfl rfl rfl rfl (by kernel_rfl) hS (fun bL w hS hB => ?_)
  repeat (first | apply wpS_nil | (apply QH_seq_k; assumption) | (apply wpC_seq_k; intro K hK) | (apply wpS_g; refine wpS_put rfl rfl rfl (by first | exact yv_assign rfl) ?_))
  apply wpC_region
  repeat (first | apply wpS_nil | (apply QH_seq_k; assumption) | (apply wpS_g; refine wpS_put rfl rfl rfl (by first | exact yv_move rfl | exact yv_fieldAddr (by first | exact fo_33_0 | exact fo_50_4) rfl | (apply yv_g_load; first | exact yv_load_ob (by first | exact sc_48) rfl (RW.here _) hS (by first | trivial) (by first | trivial) (by assumption) (by repeat (first | exact Seg.here (Pre.succ Pre.zero) | apply Seg.succ))) | (apply yv_g_bi; first | exact yv_len (by first | exact el_48) rfl)) ?_) | apply wpC_block)
  have hS := hS.weak (Weak.boxRow (cs := encs enI (numsH x0)) (n := 6) (size := 1) rfl (by decide))
  refine wpC_loop (X := Nat × List Int × Option Addr × Nat) (fun z => [(27, .int .i64 z.1), (26, .int .i64 (x0.segs.length : Int)), (25, .slice A0 x0.segs.length c0), (3, .slice z.2.2.1 z.2.1.length z.2.2.2), (1, .pointer (some ⟨b, 0, none⟩)), (0, .func (.yield lo) #[] #[])])
    (fun z B => z.1 ≤ x0.segs.length ∧ z.2.1 = numsH x0 ++ (x0.segs.take z.1).flatMap numsOf ∧ (z.2.1.length ≤ z.2.2.2 ∧ z.2.2.2 ≤ maxLen) ∧ St0 All W B [.row (.slice z.2.2.1 z.2.1.length z.2.2.2) 3 1 z.2.1.length (encs enI z.2.1)]) (fun z => x0.segs.length - z.1) (0, numsH x0, some ⟨bL, 0, none⟩, 6) (by repeat (first | exact Sub.nil | refine Sub.cons rfl ?_)) ⟨Nat.zero_le _, by simp, ⟨by show (6 : Nat) ≤ 6; decide, by show (6 : Nat) ≤ maxLen; unfold maxLen; decide⟩, hS⟩ ?_
  clear hS hB
  rintro ⟨k, l, A, c⟩ B ⟨hk, hl, hkl, hS⟩
  dsimp only at hk hl hkl hS
  dsimp only
  have hWB := hS.pure
  have hAB := hAW.belowM hWB
  rcases Nat.lt_or_ge k x0.segs.length with hlt | hge
  · obtain ⟨e, he, hd⟩ := drop_step hlt
    have hEl := Rd.el hAB.rd he_enSg he
    repeat (first | (apply wpC_seq_k; intro K hK))
    apply wpC_region
    repeat (first | apply wpS_nil | (apply QH_seq_k; assumption) | (apply wpC_seq_k; intro K hK) | (apply wpS_g; refine wpS_put rfl rfl rfl (by first | (apply yv_g_bin; first | exact yv_lss_t rfl rfl (by omega))) ?_) | apply wpC_cond_t rfl rfl | apply wpC_skip | apply wpC_block)
    apply wpC_region
    repeat (first | (apply wpS_g; refine wpS_put rfl rfl rfl (by first | exact yx_idx (by first | exact el_48) rfl rfl rfl hlt hEl | exact yx_ldA0 (by first | exact ag_33 | exact ag_66) rfl (RW.here _) hEl (by repeat (first | exact Seg.here (by repeat (first | exact Pre.zero | apply Pre.succ))))) ?_))
    first | (apply wpS_g_alloc; refine wpS_alloc rfl rfl (by first | exact zc_66) hS (fun b59 w hS hB => ?_))
    repeat (first | apply wpS_nil | (apply QH_seq_k; assumption) | (apply wpS_g_store; refine wpS_store rfl rfl rfl (by first | exact CellsOf.agg) hS (by repeat (first | exact Pos.head)) (by repeat (first | exact SetC.here (by repeat (first | exact Ovr.nil | apply Ovr.cons)))) (by kernel_rfl) rfl (fun w hS hB => ?_)))
    apply wpC_region
    repeat (first | (apply wpS_g; refine wpS_put rfl rfl rfl (by first | exact yx_add rfl rfl | exact yv_move rfl | exact yv_fieldAddr (by first | exact fo_33_0 | exact fo_66_0 | exact fo_66_1 | exact fo_66_2 | exact fo_66_3) rfl | (apply yv_g_load; first | exact yv_load_box (by first | exact sc_3) rfl (RW.here _) hS (by repeat (first | exact Has.head)) (by first | trivial) (by repeat (first | exact Seg.here (Pre.succ Pre.zero) | apply Seg.succ)))) ?_))
    refine wpS_sliceM (t := 90) (n := 4) (size := 1) (e := 3) (ps := [(0, .tmp 33), (1, .tmp 35), (2, .tmp 37), (3, .tmp 40)]) [.int .i64 e.seq, .int .i64 e.fmt, .int .i64 e.first, .int .i64 (IntKind.wrap .i64 (e.count + 1))] (by first | exact el_90) (by first | exact zc_3) rfl rfl rfl rfl rfl (by kernel_rfl) hS (fun b61 w hS hB => ?_)
    have hf : fewI (l ++ numsOf e) = some (l ++ numsOf e) := by
      unfold fewI
      rw [if_pos]
      rw [hl, List.length_append, List.length_append, nums_len, numsOf_len, List.length_take]
      show 6 + 4 * min k x0.segs.length + 4 ≤ 1000000000
      omega
    refine wpX_append (ys := numsOf e) he_enI oc_enI (show Elem Tryd.prog 90 3 (.int .i64 0) 1 8 from ⟨by kernel_rfl, by kernel_rfl, rfl, by omega⟩) (by decide) rfl rfl rfl rfl hS (fun _ => (by repeat (first | exact Pos.head | apply Pos.tail))) (hS.box_rd (by repeat (first | exact Has.head))) hf (fun A65 c66 w k67 hS => ?_)
    repeat (first | apply wpS_nil | (apply QH_seq_k; assumption) | (apply wpS_g; refine wpS_put rfl rfl rfl (by first | exact yv_assign rfl) ?_) | apply QH_block_normal)
    apply wpC_region
    repeat (first | apply wpS_nil | (apply wpS_g; refine wpS_put rfl rfl rfl (by first | exact yv_move rfl | (apply yv_g_bin; first | exact yv_add rfl rfl (by omega))) ?_))
    refine QH_again (k + 1, l ++ numsOf e, A65, c66) (by repeat (first | exact Sub.nil | refine Sub.cons rfl ?_)) ⟨hlt, ?_, k67, ?_⟩ (by dsimp only; omega)
    · dsimp only
      rw [hl, List.append_assoc, List.take_add_one, he]
      simp
    · exact (hS.front 2 rfl).cut 1
  · obtain rfl : k = x0.segs.length := by omega
    rw [List.take_length] at hl
    have hll : l.length ≤ 10000 := by rw [hl, List.length_append, nums_len]; show 6 + _ ≤ 10000; omega
    have hxl : l = xs := by rw [hxs, hl]
    subst hxl
    clear hl hxs H
    have hrow : Rd B A (encs enI l) := hS.row_rd Has.head
    have hrng : ∀ p, A = some p → W.heap.size ≤ p.block ∧ p.block < B.heap.size := fun p hp => by
      have h := hS.rng _ (List.mem_cons_self ..) p.block (by subst hp; rfl)
      exact ⟨Nat.le_of_not_lt fun hlt => h.2 hlt trivial, h.1⟩
    have hWE := hWB.size
    have hJ0 : J B.heap.size 0 B := hst B (KeepB.of_below hWB (fun _ h _ => h))
    generalize hE : B.heap.size = E at hJ0 hrng hWE
    clear hS
    have hS := St0.start All B
    repeat (first | (apply wpC_seq_k; intro K hK))
    apply wpC_region
    repeat (first | apply wpS_nil | (apply QH_seq_k; assumption) | (apply wpC_seq_k; intro K hK) | (apply wpS_g; refine wpS_put rfl rfl rfl (by first | (apply yv_g_bin; first | exact yv_lss_f rfl rfl (by omega))) ?_) | apply wpC_cond_f rfl rfl | apply wpC_exit | apply QH_then_exit | apply QH_block_hit)
    apply wpC_region
    repeat (first | apply wpS_nil | (apply QH_seq_k; assumption) | (apply wpS_g; refine wpS_put rfl rfl rfl (by first | exact yv_move rfl | (apply yv_g_bi; first | exact yv_len (by first | exact el_90) rfl)) ?_) | apply wpC_block)
    refine wpC_loop (X := Nat) (fun z => [(46, .int .i64 z), (45, .int .i64 (l.length : Int)), (44, .slice A l.length c), (0, .func (.yield lo) #[] #[])])
      (fun z B => z ≤ l.length ∧ J E z B ∧ Rd B A (encs enI l) ∧ E ≤ B.heap.size) (fun z => l.length - z) 0 (by repeat (first | exact Sub.nil | refine Sub.cons rfl ?_)) ⟨Nat.zero_le _, hJ0, hrow, by omega⟩ ?_
    clear hJ0 hrow hS hE hAB hWB
    rintro z B2 ⟨hz, hJz, hrow, hE⟩
    have hS := St0.start All B2
    rcases Nat.lt_or_ge z l.length with hlt | hge
    · obtain ⟨x, hx, hd⟩ := drop_step hlt
      have hEl := Rd.el hrow he_enI hx
      repeat (first | (apply wpC_seq_k; intro K hK))
      apply wpC_region
      repeat (first | apply wpS_nil | (apply QH_seq_k; assumption) | (apply wpC_seq_k; intro K hK) | (apply wpS_g; refine wpS_put rfl rfl rfl (by first | (apply yv_g_bin; first | exact yv_lss_t rfl rfl (by omega))) ?_) | apply wpC_cond_t rfl rfl | apply wpC_skip | apply wpC_block)
      apply wpC_region
      repeat (first | apply wpS_nil | (apply QH_seq_k; assumption) | (apply wpC_seq_k; intro K hK) | (apply wpS_g; refine wpS_put rfl rfl rfl (by first | exact yx_idx (by first | exact el_23 | exact el_90) rfl rfl rfl hlt hEl | exact yx_ld0 (by first | exact sc_1 | exact sc_3) rfl (RW.here _) hEl rfl | exact yv_assign rfl) ?_))
      refine wpC_regionY 2 (by repeat (first | exact NL.body (by intro _ h; simp at h) | apply NL.then | apply NL.inBlock)) (by kernel_rfl) ?_
      dsimp only [List.take, List.drop]
      repeat (first | apply wpS_nil | (apply wpS_g; refine wpS_put rfl rfl rfl (by first | exact yv_move rfl) ?_))
      refine QH_Y ?_
      have hk2 := hS.base
      have hz1 := Nat.le_trans hE hk2.size
      have hy1 := hy _ _ _ _ hWE hx (hJ _ _ _ _ hJz (hk2.sub fun _ _ _ => trivial)) hz1
      have hrow2 := hk2.rd hrow (fun _ _ => trivial)
      refine wpSI_yield rfl rfl rfl rfl hy1 ?_
      rintro ex w2 (⟨rfl, hJ2, hk3⟩ | ⟨rfl, hJ2, hk3⟩ | ⟨ch, rfl, hJ2⟩)
      · refine .inl ⟨_, rfl, wpSI_rest (by repeat (first | exact NL.body (by intro _ h; simp at h) | apply NL.then | apply NL.inBlock)) (by kernel_rfl) ?_⟩
        have hS := St0.start All w2
        repeat (first | apply wpS_nil | (apply QH_seq_k; assumption) | apply wpC_region | (apply wpS_g; refine wpS_put rfl rfl rfl (by first | exact yv_move rfl | (apply yv_g_bin; first | exact yv_add rfl rfl (by omega)) | exact yv_not rfl) ?_) | apply wpC_cond_f rfl rfl | apply wpC_skip | apply QH_block_normal)
        refine QH_again (z + 1) (by repeat (first | exact Sub.nil | refine Sub.cons rfl ?_)) ⟨hlt, hJ2, hk3.rd hrow2 (fun p hp => .inr (.inr (hrng p hp))), Nat.le_trans hz1 hk3.size⟩ (by show l.length - (z + 1) < l.length - z; omega)
      · refine .inl ⟨_, rfl, wpSI_rest (by repeat (first | exact NL.body (by intro _ h; simp at h) | apply NL.then | apply NL.inBlock)) (by kernel_rfl) ?_⟩
        have hS := St0.start All w2
        repeat (first | apply wpS_nil | (apply QH_seq_k; assumption) | (apply wpS_g; refine wpS_put rfl rfl rfl (by first | exact yv_not rfl) ?_) | apply wpC_cond_t rfl rfl | apply wpC_ret | apply QH_then_ret | apply QH_block_ret)
        refine QH_ret rfl (by first | exact RV.nil) rfl ?_
        exact .inl ⟨⟨_, rfl⟩, E, .inr hJ2⟩
      · refine .inr ⟨ch, rfl, ?_⟩
        repeat (first | apply QH_then_panic | apply QH_block_panic)
        exact QH_panic rfl (.inr ⟨ch, E, rfl, hJ2⟩)
    · obtain rfl : z = l.length := by omega
      repeat (first | apply wpS_nil | (apply QH_seq_k; assumption) | (apply wpC_seq_k; intro K hK) | apply wpC_region | (apply wpS_g; refine wpS_put rfl rfl rfl (by first | (apply yv_g_bin; first | exact yv_lss_f rfl rfl (by omega))) ?_) | apply wpC_cond_f rfl rfl | apply wpC_exit | apply QH_then_exit | apply QH_block_hit)
      refine QH_end rfl (by first | exact RV.nil) rfl ?_
      exact .inl ⟨⟨_, rfl⟩, E, .inl (hJ _ _ _ _ hJz (hS.base.sub fun _ _ _ => trivial))⟩
/-! ### Parts of four -/
/-- A part of a row, and where it begins. -/
structure ChunkAt (l : List Int) (e : Nat × List Int) : Prop where
  eq : e.2 = (l.drop e.1).take 4
  le : e.1 < l.length
  k : e.2.length ≤ e.2.length ∧ e.2.length ≤ maxLen
def chunksI (l : List Int) : Nat → Nat → List (Nat × List Int)
  | 0, _ => []
  | q + 1, j => if j < l.length then (j, (l.drop j).take 4) :: chunksI l q (j + 4) else []
def m_it_chunk (l : List Int) (n : Int) : Option (List (Nat × List Int)) := if n = 4 ∧ l.length ≤ 1000000 then some (chunksI l l.length 0) else none
theorem chunksI_mem {l : List Int} {e : Nat × List Int} : ∀ q j, e ∈ chunksI l q j → e.2 = (l.drop e.1).take 4 ∧ e.1 < l.length
  | 0, _, h => by cases h
  | q + 1, j, h => by
    rw [chunksI] at h
    split at h
    · rename_i hj
      rcases List.mem_cons.1 h with rfl | h
      · exact ⟨rfl, hj⟩
      · exact chunksI_mem q _ h
    · cases h
theorem chunkAt_of {l : List Int} {n : Int} {xs : List (Nat × List Int)} {k : Nat} {e : Nat × List Int} (h : m_it_chunk l n = some xs) (hk : xs[k]? = some e) : ChunkAt l e := by
  unfold m_it_chunk at h
  split at h
  · obtain rfl := Option.some.inj h
    have := chunksI_mem _ _ (List.mem_of_getElem? hk)
    refine ⟨this.1, this.2, Nat.le_refl _, ?_⟩
    rw [this.1, List.length_take]
    unfold maxLen
    omega
  · cases h
theorem Rd.chunk {w : World} {A : Option Addr} {l : List Int} {c : Nat} {e : Nat × List Int} (h : ChunkAt l e) (hc : l.length ≤ c) (hr : Rd w A (encs enI l)) : Rd w (cutA A c e.1 1) (encs enI e.2) := by
  have h1 := h.le
  have h2 : c ≠ e.1 := by omega
  have hd := (hr.drop (e.1 * 1)).take (4 * 1)
  unfold cutA
  rw [if_neg h2, h.eq, encs_take he_enI, encs_drop he_enI]
  exact hd
theorem c_slices_Chunk4 (x0 : List Int) (x1 : Int) (A0 : Option Addr) (c0 : Nat) (w0 : World) (s0 : SlI w0 enI A0 c0 x0) (h1 : x1 = 4 := by rfl) : Calls Tryd.prog 68 #[.slice A0 x0.length c0, .int .i64 x1] w0 fun e w' => ∃ (b0 b1 : Nat), e = .returned (.func (.func 95) #[] #[.pointer (some ⟨b0, 0, none⟩), .pointer (some ⟨b1, 0, none⟩)]) ∧ St0 All w0 w' [.box b0 [.slice A0 x0.length c0] 90, .box b1 [.int .i64 x1] 3] := by
  subst h1
  refine gw_enter2 Tryd.func68 rfl Tryd.ntmps68 rfl ?_
  have hS := St0.start All w0
  repeat (first | (apply wpC_seq_k; intro K hK) | apply wpC_region)
  first | (apply wpS_g_box; refine wpS_box rfl rfl rfl (by first | exact CellsOf.slice) hS (fun b0 w hS hB => ?_))
  first | (apply wpS_g_box; refine wpS_box rfl rfl rfl (by first | exact CellsOf.int) hS (fun b1 w hS hB => ?_))
  repeat (first | apply wpS_nil | (apply QH_seq_k; assumption) | (apply wpC_seq_k; intro K hK) | apply wpC_region | (apply wpS_g; refine wpS_put rfl rfl rfl (by first | exact yv_assign rfl | (apply yv_g_load; first | exact yv_load_box (by first | exact sc_3) rfl (RW.here _) hS (by repeat (first | exact Has.head)) (by first | trivial) (by repeat (first | exact Seg.here (Pre.succ Pre.zero)))) | (apply yv_g_bin; first | exact yv_lss_f rfl rfl (by omega)) | exact yv_makeFunc rfl rfl) ?_) | apply wpC_cond_f rfl rfl | apply wpC_skip | apply wpC_ret)
  refine QH_ret rfl (by first | exact RV.tmp rfl RV.nil) rfl ?_
  exact ⟨b0, b1, rfl, hS.front 1 rfl⟩
section
variable {P : Program} {L : List (Nat × Value)} {R : World → Prop} {d : Option Nat} {ty : TypeId} {pos : String} {af : Array Edge} {g : Option (Nat × Bool)}
/-- s[l:h:h] -/
theorem yv_slice_chunk {x y z m : Operand} {t e n c k l h r : Nat} {q q2 q3 : IntKind} {i j j2 : Int} {A : Option Addr} (ht0 : ElC P t e k) (hx : ev L x = some (.slice A n c)) (hy : ev L y = some (.int q i)) (hz : ev L z = some (.int q2 j)) (hm : ev L m = some (.int q3 j2)) (hi : i = (l : Int)) (hj : j = (h : Int)) (hj2 : j2 = (h : Int)) (hl : h = l + r) (hr : 0 < r) (hh : h ≤ c) : Yv P L R ⟨d, .slice t x (some y) (some z) (some m), ty, pos, af, g⟩ (.slice (cutA A c l k) r r) := Yv.mk fun w1 _ ρ hρ => by
  have ht := ht0.h
  subst hi
  subst hj
  subst hj2
  obtain ⟨hu, hs⟩ := elem_slice ht0
  have := run_slice_lhm (P := P) w1 t A n c hu q q2 q3 (l : Int) (h : Int) (h : Int) (by omega) (by omega) (by omega) (by omega)
  simp only [execOp, hρ x _ hx, Option.map_some, hρ y _ hy, hρ z _ hz, hρ m _ hm, run_sliceAt_slice w1 t _ _ _ _ hu, Sem.run_bind, this, hs, Result.andThen_ok, Sem.run_pure]
  have e : sliced A (l : Int).toNat (h : Int).toNat (h : Int).toNat k = .slice (cutA A c l k) r r := by
    rw [sliced_eq]
    unfold cutA
    rw [if_neg (by simp only [Int.toNat_natCast]; omega), if_neg (by omega)]
    simp only [Int.toNat_natCast]
    rw [show h - l = r by omega]
  rw [e]
end
set_option maxHeartbeats 1000000 in
theorem it_chunk (x0 : List Int) (x1 : Int) {A0 : Option Addr} {c0 : Nat} (wB wM w : World) (hc0 : x0.length ≤ c0 ∧ c0 ≤ maxLen) (hB0 : Below wB.heap.size wB wM) (b b' : Nat) (hN : St0 All wM w [.box b [.slice A0 x0.length c0] 90, .box b' [.int .i64 x1] 3]) {xs : List (Nat × List Int)} (H : m_it_chunk x0 x1 = some xs) :
    IterP Tryd.prog 95 #[.pointer (some ⟨b, 0, none⟩), .pointer (some ⟨b', 0, none⟩)] (fun p : Nat × List Int => [Value.slice (cutA A0 c0 p.1 1) p.2.length p.2.length].toArray) xs wB.heap.size wM.heap.size w := by
  unfold m_it_chunk at H
  split at H
  case isFalse => cases H
  rename_i hl9
  obtain ⟨rfl, hl9⟩ := hl9
  have hxs0 := (Option.some.inj H).symm
  clear H
  obtain ⟨hb, hbM, hbl⟩ := (hN.sub (List.Sublist.cons_cons _ (List.Sublist.cons _ List.Sublist.slnil))).cap
  obtain ⟨hc, hcM, hcl⟩ := (hN.sub (List.Sublist.cons _ (List.Sublist.cons_cons _ List.Sublist.slnil))).cap
  intro lo J Jx Jp W hW hJ hJx hJp hy h0
  have hbW : W.heap[b]? = some (.cells #[.slice A0 x0.length c0] 90) := (hW.block b hbl).trans hb
  have hcW : W.heap[b']? = some (.cells #[.int .i64 4] 3) := (hW.block b' hcl).trans hc
  show Calls _ _ #[_, _, _] _ _
  refine gw_enter3 Tryd.func95 rfl Tryd.ntmps95 rfl ?_
  have hS := St0.start All W
  repeat (first | apply wpS_nil | (apply QH_seq_k; assumption) | (apply wpC_seq_k; intro K hK) | apply wpC_region | (apply wpS_g; refine wpS_put rfl rfl rfl (by first | exact yv_assign rfl) ?_) | apply wpC_block)
  refine wpC_loop (X := Nat × List (Nat × List Int)) (fun z => [(4, .int .i64 z.1), (2, .pointer (some ⟨b', 0, none⟩)), (1, .pointer (some ⟨b, 0, none⟩)), (0, .func (.yield lo) #[] #[])])
    (fun z B => (∃ q, xs = z.2 ++ chunksI x0 q z.1 ∧ x0.length ≤ z.1 + 4 * q) ∧ z.1 ≤ 1000004 ∧ J z.2.length B ∧ B.heap[b]? = some (.cells #[.slice A0 x0.length c0] 90) ∧ B.heap[b']? = some (.cells #[.int .i64 4] 3) ∧ w.heap.size ≤ B.heap.size) (fun z => 1000100 - z.1) (0, []) (by repeat (first | exact Sub.nil | refine Sub.cons rfl ?_)) ⟨⟨_, hxs0, by dsimp only; omega⟩, by dsimp only; omega, h0, hbW, hcW, hW.size⟩ ?_
  rintro ⟨k, done⟩ B ⟨⟨q, hxs, hq⟩, hk, hJk, hbB, hcB, hz⟩
  dsimp only at hxs hq hk hJk
  dsimp only
  clear hbW hcW hS h0
  have hS := St0.start All B
  rcases Nat.lt_or_ge k x0.length with hlt | hge
  · obtain ⟨q, rfl⟩ : ∃ q', q = q' + 1 := ⟨q - 1, by omega⟩
    rw [chunksI, if_pos hlt] at hxs
    have hd : dropI x0 (k : Int) = some (x0.drop k) := dropI_nat _ _ (by omega)
    have hln : (x0.drop k).length = x0.length - k := List.length_drop ..
    have hmn : ((x0.drop k).take 4).length = min 4 (x0.length - k) := by rw [List.length_take, hln]
    have hmp : min (4 : Int) ((x0.drop k).length : Int) = (((x0.drop k).take 4).length : Int) := by rw [hmn, hln]; omega
    have hr0 : 0 < ((x0.drop k).take 4).length := by rw [hmn]; omega
    have hr1 : k + ((x0.drop k).take 4).length ≤ x0.length := by rw [hmn]; omega
    have hr4 : ((x0.drop k).take 4).length ≤ 4 := by rw [hmn]; omega
    generalize hu : (x0.drop k).take 4 = u at *
    generalize (x0.drop k) = v at *
    repeat (first | (apply wpC_seq_k; intro K hK))
    apply wpC_region
    repeat (first | apply wpS_nil | (apply QH_seq_k; assumption) | (apply wpC_seq_k; intro K hK) | (apply wpS_g; refine wpS_put rfl rfl rfl (by first | exact yv_move rfl | (apply yv_g_load; first | exact yv_load_ob (by first | exact sc_90) rfl (RW.here _) hS (by first | trivial) (by first | trivial) (by assumption) (by repeat (first | exact Seg.here (Pre.succ Pre.zero)))) | (apply yv_g_bin; first | exact yv_lss_t rfl rfl (by omega)) | (apply yv_g_bi; first | exact yv_len (by first | exact el_90) rfl)) ?_) | apply wpC_cond_t rfl rfl | apply wpC_skip | apply wpC_block)
    refine wpC_draw 7 [] (fun _ _ => True) ⟨by kernel_rfl, by kernel_rfl⟩ hS (fun w hS hB => ?_)
    refine wpR_batch [true, true, true, true, true, true, true] (by decide +kernel) (by repeat (first | exact PF.body | apply PF.then | apply PF.inBlock)) ?_
    repeat (first | refine LtK.put rfl rfl rfl (by first | exact yx_slice_l (by first | exact el_22 | exact el_90) rfl rfl hd | exact yv_move rfl | exact yv_assign rfl | (apply yv_g_load; first | exact yv_load_ob (by first | exact sc_1 | exact sc_3 | exact sc_90) rfl (RW.below _) hS (by first | trivial) (by first | trivial) (by assumption) (by repeat (first | exact Seg.here (Pre.succ Pre.zero)))) | (apply yv_g_bi; first | exact yv_len (by first | exact el_22 | exact el_90) rfl | exact yv_min rfl rfl)) ?_)
    refine LtK.nil ?_
    refine wpR_end (by kernel_rfl) ?_
    rw [hmp]
    repeat (first | (apply QH_seq_k; assumption) | (apply wpC_seq_k; intro K hK))
    refine wpC_regionY 10 (by repeat (first | exact NL.body (by intro _ h; simp at h) | apply NL.then | apply NL.inBlock)) (by kernel_rfl) ?_
    dsimp only [List.take, List.drop]
    repeat (first | apply wpS_nil | (apply wpS_g; refine wpS_put rfl rfl rfl (by first | exact yv_slice_chunk (by first | exact el_22 | exact el_90) rfl rfl rfl rfl rfl (Int.natCast_add _ _).symm (Int.natCast_add _ _).symm rfl hr0 (Nat.le_trans hr1 hc0.1) | exact yv_move rfl | (apply yv_g_load; first | exact yv_load_ob (by first | exact sc_90) rfl (RW.here _) hS (by first | trivial) (by first | trivial) (by assumption) (by repeat (first | exact Seg.here (Pre.succ Pre.zero)))) | (apply yv_g_bin; first | exact yv_add rfl rfl (by omega))) ?_))
    refine QH_Y ?_
    have hk2 := hS.base
    have hx2 : xs[done.length]? = some (k, u) := by rw [hxs]; simp
    have hz1 := Nat.le_trans hz hk2.size
    have hy1 := hy _ _ _ hx2 (hJ _ _ _ hJk (hk2.sub fun _ _ _ => trivial)) hz1
    refine wpSI_yield rfl rfl rfl rfl hy1 ?_
    have hbB2 := (hk2.block b (Nat.lt_of_lt_of_le hbl hz) trivial).trans hbB
    have hcB2 := (hk2.block b' (Nat.lt_of_lt_of_le hcl hz) trivial).trans hcB
    rintro ex w2 (⟨rfl, hJ2, hk3⟩ | ⟨rfl, hJ2, hk3⟩ | ⟨ch, rfl, hJ2⟩)
    · refine .inl ⟨_, rfl, wpSI_rest (by repeat (first | exact NL.body (by intro _ h; simp at h) | apply NL.then | apply NL.inBlock)) (by kernel_rfl) ?_⟩
      have hbB3 := (hk3.block b (Nat.lt_of_lt_of_le hbl hz1) (.inr ⟨hbM, hbl⟩)).trans hbB2
      have hcB3 := (hk3.block b' (Nat.lt_of_lt_of_le hcl hz1) (.inr ⟨hcM, hcl⟩)).trans hcB2
      have hS := St0.start All w2
      repeat (first | apply wpS_nil | (apply QH_seq_k; assumption) | apply wpC_region | (apply wpS_g; refine wpS_put rfl rfl rfl (by first | exact yv_move rfl | exact yv_assign rfl | (apply yv_g_load; first | exact yv_load_ob (by first | exact sc_3) rfl (RW.here _) hS (by first | trivial) (by first | trivial) (by assumption) (by repeat (first | exact Seg.here (Pre.succ Pre.zero)))) | (apply yv_g_bin; first | exact yv_add rfl rfl (by omega)) | exact yv_not rfl) ?_) | apply wpC_cond_f rfl rfl | apply wpC_skip | apply QH_block_normal)
      refine QH_again (k + 4, done ++ [(k, u)]) (by repeat (first | exact Sub.nil | refine Sub.cons rfl ?_)) ⟨⟨q, by dsimp only; rw [hxs]; simp, by dsimp only; omega⟩, by dsimp only; omega, ?_, hbB3, hcB3, Nat.le_trans hz1 hk3.size⟩ (by dsimp only; omega)
      dsimp only; rw [List.length_append]; exact hJ2
    · refine .inl ⟨_, rfl, wpSI_rest (by repeat (first | exact NL.body (by intro _ h; simp at h) | apply NL.then | apply NL.inBlock)) (by kernel_rfl) ?_⟩
      have hS := St0.start All w2
      repeat (first | apply wpS_nil | (apply QH_seq_k; assumption) | (apply wpS_g; refine wpS_put rfl rfl rfl (by first | exact yv_not rfl) ?_) | apply wpC_cond_t rfl rfl | apply wpC_ret | apply QH_then_ret | apply QH_block_ret)
      refine QH_ret rfl (by first | exact RV.nil) rfl ?_
      exact .inl ⟨⟨_, rfl⟩, .inr hJ2⟩
    · refine .inr ⟨ch, rfl, ?_⟩
      repeat (first | apply QH_then_panic | apply QH_block_panic)
      exact QH_panic rfl (.inr ⟨ch, rfl, hJ2⟩)
  · have hr0 : chunksI x0 q k = [] := by
      cases q with
      | zero => rfl
      | succ q => rw [chunksI, if_neg (by omega)]
    rw [hr0, List.append_nil] at hxs
    repeat (first | apply wpS_nil | (apply QH_seq_k; assumption) | (apply wpC_seq_k; intro K hK) | apply wpC_region | (apply wpS_g; refine wpS_put rfl rfl rfl (by first | exact yv_move rfl | (apply yv_g_load; first | exact yv_load_ob (by first | exact sc_90) rfl (RW.here _) hS (by first | trivial) (by first | trivial) (by assumption) (by repeat (first | exact Seg.here (Pre.succ Pre.zero)))) | (apply yv_g_bin; first | exact yv_lss_f rfl rfl (by omega)) | (apply yv_g_bi; first | exact yv_len (by first | exact el_90) rfl)) ?_) | apply wpC_cond_f rfl rfl | apply wpC_exit | apply QH_then_exit | apply QH_block_hit)
    refine QH_end rfl (by first | exact RV.nil) rfl ?_
    refine .inl ⟨⟨_, rfl⟩, .inl ?_⟩
    rw [hxs]
    exact hJ _ _ _ hJk (hS.base.sub fun _ _ _ => trivial)
end Go.Proofs.YtofheinbbefbcaaDoor
