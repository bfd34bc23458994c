/- The walks of numbers: the iterator over digits. (Printed by gen_digs.py.) -/
import Derived.Test.YtefpagijgiggmabNumWb
namespace Go.Proofs.Ytefpagijgiggmab
open Go Go.RowKit Go.Shelf
attribute [local go_sem] Oper.semAt_some

theorem low_and (x : Int) (h0 : 0 ≤ x) (h1 : x < 1099511627776) (p : Nat) (hp : p ≤ 8) : bits BinOp.and IntKind.i64 x (2 ^ p - 1) = x % 2 ^ p :=
  bits_mask .i64 63 (by decide) (fun n h0 h1 => by rw [IntKind.wrap_i64]; omega) p (by omega) x h0 (by omega)
theorem low_and7 (x : Int) (h0 : 0 ≤ x) (h1 : x < 1099511627776) : bits BinOp.and IntKind.i64 x 127 = x % 128 := low_and x h0 h1 7 (by decide)
theorem low_and8 (x : Int) (h0 : 0 ≤ x) (h1 : x < 1099511627776) : bits BinOp.and IntKind.i64 x 255 = x % 256 := low_and x h0 h1 8 (by decide)

set_option maxHeartbeats 8000000 in
theorem long1_iter (n M : Nat) (hn : n ≤ 1073741824) (w : World) (hM4 : w.heap.size = M + 4)
    (h0 : Box w M (.int .i64 n)) (h1 : Box w (M + 1) (.int .i64 8)) (h2 : Box w (M + 2) (.int .i64 5)) (h3 : Box w (M + 3) (.bool false)) :
    Iter Try.prog 30 #[.pointer (some ⟨M + 2, 0, none⟩), .pointer (some ⟨M, 0, none⟩), .pointer (some ⟨M + 1, 0, none⟩), .pointer (some ⟨M + 3, 0, none⟩)] (fun d : Nat => #[.int .u8 d]) (digs 256 4 n) 0 M w := by
  intro lr J Jx W hB hJ hJx hY hJ0
  have HY := Lib.hid hY
  have HJ := Lib.hid hJ
  have HJx := Lib.hid hJx
  clear hY hJ hJx
  refine callsIn_of_wp Try.func30 rfl trivial ?_ rfl
  simp only [Try.ntmps30, List.size_toArray, List.length_cons, List.length_nil, Nat.reduceAdd, Nat.reduceSub, Array.replicate_succ, Array.replicate_zero, List.push_toArray, List.append_toArray, List.nil_append, List.cons_append]
  refine scope_goto 0 (fun a w' => ∃ k : Nat, k ≤ 4 ∧ (∃ u7 u8 u9 u10 u11 u12 u13 u14 u15 u16 u17 u18 u19 u20 u21 u22 u23 u24 u25 u26 u27 u28 u29 u30 u31 u32 u33 u34 u35 u36 u37 u38 u39 u40 : Value, a = ⟨#[.func (.yield lr) #[] #[], .pointer (some ⟨M + 2, 0, none⟩), .pointer (some ⟨M, 0, none⟩), .pointer (some ⟨M + 1, 0, none⟩), .pointer (some ⟨M + 3, 0, none⟩), undef, .int .i64 (k : Int), u7, u8, u9, u10, u11, u12, u13, u14, u15, u16, u17, u18, u19, u20, u21, u22, u23, u24, u25, u26, u27, u28, u29, u30, u31, u32, u33, u34, u35, u36, u37, u38, u39, u40], []⟩) ∧ J (4 - k) w' ∧ Box w' (M + 3) (.bool false) ∧ KeepB (fun b => M ≤ b ∧ b < M + 3) w w') (fun a _ => (intOf (a.tmps.getD 6 undef)).toNat) rfl ?pass ?first
  case first =>
    intro hX
    have HX := Lib.hid hX
    clear hX
    obtain ⟨c2, f2⟩ := h2.below hB (by omega)
    gi_wp2
    refine wpIn_label ?_
    rename_i hgo
    refine hgo _ _ ?_
    exact HX.out _ _ ⟨4, by omega, ⟨_, _, _, _, _, _, _, _, _, _, _, _, _, _, _, _, _, _, _, _, _, _, _, _, _, _, _, _, _, _, _, _, _, _, rfl⟩, hJ0, h3.below hB (by omega), KeepB.of_below hB (fun _ _ h => by omega)⟩
  case pass =>
    rintro a w' ⟨k, hk, ⟨u7, u8, u9, u10, u11, u12, u13, u14, u15, u16, u17, u18, u19, u20, u21, u22, u23, u24, u25, u26, u27, u28, u29, u30, u31, u32, u33, u34, u35, u36, u37, u38, u39, u40, rfl⟩, hJk, hF, hK⟩
    obtain ⟨cF, fF⟩ := hF
    obtain ⟨c0, f0⟩ := h0.keep hK (by omega)
    obtain ⟨c1, f1⟩ := h1.keep hK (by omega)
    have hKF : KeepB (fun b => b ≠ M + 3) w' (w'.setCell ⟨M + 3, 0, none⟩ (.bool false)) := (KeepB.refl _ _).setCell (by simp) _
    have hFB : Box (w'.setCell ⟨M + 3, 0, none⟩ (.bool false)) (M + 3) (.bool false) := Box.set ⟨cF, fF⟩ _
    have hFz := hKF.size
    have hdg := digs_at 256 4 n (4 - k) (by omega)
    have hk5 : k = 4 ∨ k = 3 ∨ k = 2 ∨ k = 1 ∨ k = 0 := by omega
    have hJ2 := HJ.out _ _ _ hJk (hKF.sub (fun b _ h => by omega))
    have hwz := hK.size
    rcases hk5 with rfl | rfl | rfl | rfl | rfl
    · have eD : ((n / 256 ^ (4 - (4 - 4)) % 256 : Nat) : Int) = 0 := by simp only [Nat.reducePow, Nat.reduceSub]; omega
      obtain ⟨fn, tmps, assign, body, hy, hR⟩ := HY.out _ _ _ hdg hJ2 (Nat.le_trans hK.size hKF.size)
      dsimp only at hy
      rw [eD] at hy
      have eL := low_and8 0 (by omega) (by omega)
      clear eD hdg
      gi_wp2
      refine hR.mono ?_
      rintro e W3 (⟨rfl, hJ3, hk3⟩ | ⟨rfl, hJx3, hk3⟩)
      · gi_wp2
        refine wpIn_goto ?_
        refine ⟨rfl, ⟨3, by omega, ⟨_, _, _, _, _, _, _, _, _, _, _, _, _, _, _, _, _, _, _, _, _, _, _, _, _, _, _, _, _, _, _, _, _, _, rfl⟩, hJ3, hFB.keep hk3 (by omega), (hK.trans (hKF.sub (fun b _ h => by omega))).trans (hk3.sub (fun b _ h => by omega))⟩, by simp [intOf]⟩
      · gi_wp2
        simp only [Exit.jump]
        refine bodyPost_ret (results_none rfl _ _ _) rfl ⟨⟨_, rfl⟩, .inr hJx3⟩
    · rcases Int.lt_or_le 0 ((n : Int) / 16777216) with hd | hd
      · have hd2 : ((n : Int) / 16777216 == 0) = false := by simp only [beq_eq_false_iff_ne]; omega
        have eD : ((n / 256 ^ (4 - (4 - 3)) % 256 : Nat) : Int) = (n : Int) / 16777216 % 256 := by simp only [Nat.reducePow, Nat.reduceSub]; omega
        obtain ⟨fn, tmps, assign, body, hy, hR⟩ := HY.out _ _ _ hdg hJ2 (Nat.le_trans hK.size hKF.size)
        dsimp only at hy
        rw [eD] at hy
        have eL := low_and8 ((n : Int) / 16777216) (by omega) (by omega)
        clear eD hdg
        gi_wp2
        refine hR.mono ?_
        rintro e W3 (⟨rfl, hJ3, hk3⟩ | ⟨rfl, hJx3, hk3⟩)
        · gi_wp2
          refine wpIn_goto ?_
          refine ⟨rfl, ⟨2, by omega, ⟨_, _, _, _, _, _, _, _, _, _, _, _, _, _, _, _, _, _, _, _, _, _, _, _, _, _, _, _, _, _, _, _, _, _, rfl⟩, hJ3, hFB.keep hk3 (by omega), (hK.trans (hKF.sub (fun b _ h => by omega))).trans (hk3.sub (fun b _ h => by omega))⟩, by simp [intOf]⟩
        · gi_wp2
          simp only [Exit.jump]
          refine bodyPost_ret (results_none rfl _ _ _) rfl ⟨⟨_, rfl⟩, .inr hJx3⟩
      · have hd2 : (n : Int) / 16777216 = 0 := by omega
        clear hd
        have eD : ((n / 256 ^ (4 - (4 - 3)) % 256 : Nat) : Int) = 0 := by simp only [Nat.reducePow, Nat.reduceSub]; omega
        obtain ⟨fn, tmps, assign, body, hy, hR⟩ := HY.out _ _ _ hdg hJ2 (Nat.le_trans hK.size hKF.size)
        dsimp only at hy
        rw [eD] at hy
        have eL := low_and8 0 (by omega) (by omega)
        clear eD hdg
        gi_wp2
        refine hR.mono ?_
        rintro e W3 (⟨rfl, hJ3, hk3⟩ | ⟨rfl, hJx3, hk3⟩)
        · gi_wp2
          refine wpIn_goto ?_
          refine ⟨rfl, ⟨2, by omega, ⟨_, _, _, _, _, _, _, _, _, _, _, _, _, _, _, _, _, _, _, _, _, _, _, _, _, _, _, _, _, _, _, _, _, _, rfl⟩, hJ3, hFB.keep hk3 (by omega), (hK.trans (hKF.sub (fun b _ h => by omega))).trans (hk3.sub (fun b _ h => by omega))⟩, by simp [intOf]⟩
        · gi_wp2
          simp only [Exit.jump]
          refine bodyPost_ret (results_none rfl _ _ _) rfl ⟨⟨_, rfl⟩, .inr hJx3⟩
    · rcases Int.lt_or_le 0 ((n : Int) / 65536) with hd | hd
      · have hd2 : ((n : Int) / 65536 == 0) = false := by simp only [beq_eq_false_iff_ne]; omega
        have eD : ((n / 256 ^ (4 - (4 - 2)) % 256 : Nat) : Int) = (n : Int) / 65536 % 256 := by simp only [Nat.reducePow, Nat.reduceSub]; omega
        obtain ⟨fn, tmps, assign, body, hy, hR⟩ := HY.out _ _ _ hdg hJ2 (Nat.le_trans hK.size hKF.size)
        dsimp only at hy
        rw [eD] at hy
        have eL := low_and8 ((n : Int) / 65536) (by omega) (by omega)
        clear eD hdg
        gi_wp2
        refine hR.mono ?_
        rintro e W3 (⟨rfl, hJ3, hk3⟩ | ⟨rfl, hJx3, hk3⟩)
        · gi_wp2
          refine wpIn_goto ?_
          refine ⟨rfl, ⟨1, by omega, ⟨_, _, _, _, _, _, _, _, _, _, _, _, _, _, _, _, _, _, _, _, _, _, _, _, _, _, _, _, _, _, _, _, _, _, rfl⟩, hJ3, hFB.keep hk3 (by omega), (hK.trans (hKF.sub (fun b _ h => by omega))).trans (hk3.sub (fun b _ h => by omega))⟩, by simp [intOf]⟩
        · gi_wp2
          simp only [Exit.jump]
          refine bodyPost_ret (results_none rfl _ _ _) rfl ⟨⟨_, rfl⟩, .inr hJx3⟩
      · have hd2 : (n : Int) / 65536 = 0 := by omega
        clear hd
        have eD : ((n / 256 ^ (4 - (4 - 2)) % 256 : Nat) : Int) = 0 := by simp only [Nat.reducePow, Nat.reduceSub]; omega
        obtain ⟨fn, tmps, assign, body, hy, hR⟩ := HY.out _ _ _ hdg hJ2 (Nat.le_trans hK.size hKF.size)
        dsimp only at hy
        rw [eD] at hy
        have eL := low_and8 0 (by omega) (by omega)
        clear eD hdg
        gi_wp2
        refine hR.mono ?_
        rintro e W3 (⟨rfl, hJ3, hk3⟩ | ⟨rfl, hJx3, hk3⟩)
        · gi_wp2
          refine wpIn_goto ?_
          refine ⟨rfl, ⟨1, by omega, ⟨_, _, _, _, _, _, _, _, _, _, _, _, _, _, _, _, _, _, _, _, _, _, _, _, _, _, _, _, _, _, _, _, _, _, rfl⟩, hJ3, hFB.keep hk3 (by omega), (hK.trans (hKF.sub (fun b _ h => by omega))).trans (hk3.sub (fun b _ h => by omega))⟩, by simp [intOf]⟩
        · gi_wp2
          simp only [Exit.jump]
          refine bodyPost_ret (results_none rfl _ _ _) rfl ⟨⟨_, rfl⟩, .inr hJx3⟩
    · rcases Int.lt_or_le 0 ((n : Int) / 256) with hd | hd
      · have hd2 : ((n : Int) / 256 == 0) = false := by simp only [beq_eq_false_iff_ne]; omega
        have eD : ((n / 256 ^ (4 - (4 - 1)) % 256 : Nat) : Int) = (n : Int) / 256 % 256 := by simp only [Nat.reducePow, Nat.reduceSub]; omega
        obtain ⟨fn, tmps, assign, body, hy, hR⟩ := HY.out _ _ _ hdg hJ2 (Nat.le_trans hK.size hKF.size)
        dsimp only at hy
        rw [eD] at hy
        have eL := low_and8 ((n : Int) / 256) (by omega) (by omega)
        clear eD hdg
        gi_wp2
        refine hR.mono ?_
        rintro e W3 (⟨rfl, hJ3, hk3⟩ | ⟨rfl, hJx3, hk3⟩)
        · gi_wp2
          refine wpIn_goto ?_
          refine ⟨rfl, ⟨0, by omega, ⟨_, _, _, _, _, _, _, _, _, _, _, _, _, _, _, _, _, _, _, _, _, _, _, _, _, _, _, _, _, _, _, _, _, _, rfl⟩, hJ3, hFB.keep hk3 (by omega), (hK.trans (hKF.sub (fun b _ h => by omega))).trans (hk3.sub (fun b _ h => by omega))⟩, by simp [intOf]⟩
        · gi_wp2
          simp only [Exit.jump]
          refine bodyPost_ret (results_none rfl _ _ _) rfl ⟨⟨_, rfl⟩, .inr hJx3⟩
      · have hd2 : (n : Int) / 256 = 0 := by omega
        clear hd
        have eD : ((n / 256 ^ (4 - (4 - 1)) % 256 : Nat) : Int) = 0 := by simp only [Nat.reducePow, Nat.reduceSub]; omega
        obtain ⟨fn, tmps, assign, body, hy, hR⟩ := HY.out _ _ _ hdg hJ2 (Nat.le_trans hK.size hKF.size)
        dsimp only at hy
        rw [eD] at hy
        have eL := low_and8 0 (by omega) (by omega)
        clear eD hdg
        gi_wp2
        refine hR.mono ?_
        rintro e W3 (⟨rfl, hJ3, hk3⟩ | ⟨rfl, hJx3, hk3⟩)
        · gi_wp2
          refine wpIn_goto ?_
          refine ⟨rfl, ⟨0, by omega, ⟨_, _, _, _, _, _, _, _, _, _, _, _, _, _, _, _, _, _, _, _, _, _, _, _, _, _, _, _, _, _, _, _, _, _, rfl⟩, hJ3, hFB.keep hk3 (by omega), (hK.trans (hKF.sub (fun b _ h => by omega))).trans (hk3.sub (fun b _ h => by omega))⟩, by simp [intOf]⟩
        · gi_wp2
          simp only [Exit.jump]
          refine bodyPost_ret (results_none rfl _ _ _) rfl ⟨⟨_, rfl⟩, .inr hJx3⟩
    · rcases Int.lt_or_le 0 ((n : Int)) with hd | hd
      · have hd2 : ((n : Int) == 0) = false := by simp only [beq_eq_false_iff_ne]; omega
        have eD : ((n / 256 ^ (4 - (4 - 0)) % 256 : Nat) : Int) = (n : Int) % 256 := by simp only [Nat.reducePow, Nat.reduceSub]; omega
        obtain ⟨fn, tmps, assign, body, hy, hR⟩ := HY.out _ _ _ hdg hJ2 (Nat.le_trans hK.size hKF.size)
        dsimp only at hy
        rw [eD] at hy
        have eL := low_and8 (n : Int) (by omega) (by omega)
        clear eD hdg
        gi_wp2
        refine hR.mono ?_
        rintro e W3 (⟨rfl, hJ3, hk3⟩ | ⟨rfl, hJx3, hk3⟩)
        · gi_wp2
          simp only [Exit.jump]
          refine bodyPost_ret (results_none rfl _ _ _) rfl ⟨⟨_, rfl⟩, .inl ?_⟩
          rw [digs_length]
          exact hJ3
        · gi_wp2
          simp only [Exit.jump]
          refine bodyPost_ret (results_none rfl _ _ _) rfl ⟨⟨_, rfl⟩, .inr hJx3⟩
      · have hd2 : (n : Int) = 0 := by omega
        clear hd
        obtain rfl : n = 0 := by omega
        have eD : ((0 / 256 ^ (4 - (4 - 0)) % 256 : Nat) : Int) = 0 := by simp only [Nat.reducePow, Nat.reduceSub]; omega
        obtain ⟨fn, tmps, assign, body, hy, hR⟩ := HY.out _ _ _ hdg hJ2 (Nat.le_trans hK.size hKF.size)
        dsimp only at hy
        rw [eD] at hy
        have eL := low_and8 0 (by omega) (by omega)
        clear eD hdg
        gi_wp2
        refine hR.mono ?_
        rintro e W3 (⟨rfl, hJ3, hk3⟩ | ⟨rfl, hJx3, hk3⟩)
        · gi_wp2
          simp only [Exit.jump]
          refine bodyPost_ret (results_none rfl _ _ _) rfl ⟨⟨_, rfl⟩, .inl ?_⟩
          rw [digs_length]
          exact hJ3
        · gi_wp2
          simp only [Exit.jump]
          refine bodyPost_ret (results_none rfl _ _ _) rfl ⟨⟨_, rfl⟩, .inr hJx3⟩

set_option maxHeartbeats 8000000 in
theorem short1_iter (n M : Nat) (hn : n ≤ 1073741824) (w : World) (hM4 : w.heap.size = M + 4)
    (h0 : Box w M (.int .i64 n)) (h1 : Box w (M + 1) (.int .i64 7)) (h2 : Box w (M + 2) (.int .i64 5)) (h3 : Box w (M + 3) (.bool true)) :
    Iter Try.prog 30 #[.pointer (some ⟨M + 2, 0, none⟩), .pointer (some ⟨M, 0, none⟩), .pointer (some ⟨M + 1, 0, none⟩), .pointer (some ⟨M + 3, 0, none⟩)] (fun d : Nat => #[.int .u8 d]) (digs 128 (topK n) n) 0 M w := by
  obtain ⟨K, hK0⟩ : ∃ K, K = topK n := ⟨_, rfl⟩
  have hKb : K ≤ 4 := by rw [hK0]; exact topK_le n
  have hlow : n < 128 ^ (K + 1) := by rw [hK0]; exact topK_lt n hn
  have hhigh : 0 < K → 128 ^ K ≤ n := by rw [hK0]; exact topK_ge n
  rw [← hK0]
  clear hK0
  intro lr J Jx W hB hJ hJx hY hJ0
  have HY := Lib.hid hY
  have HJ := Lib.hid hJ
  have HJx := Lib.hid hJx
  clear hY hJ hJx
  refine callsIn_of_wp Try.func30 rfl trivial ?_ rfl
  simp only [Try.ntmps30, List.size_toArray, List.length_cons, List.length_nil, Nat.reduceAdd, Nat.reduceSub, Array.replicate_succ, Array.replicate_zero, List.push_toArray, List.append_toArray, List.nil_append, List.cons_append]
  refine scope_goto 0 (fun a w' => ∃ (k : Nat) (fl : Bool), k ≤ 4 ∧ (∃ u7 u8 u9 u10 u11 u12 u13 u14 u15 u16 u17 u18 u19 u20 u21 u22 u23 u24 u25 u26 u27 u28 u29 u30 u31 u32 u33 u34 u35 u36 u37 u38 u39 u40 : Value, a = ⟨#[.func (.yield lr) #[] #[], .pointer (some ⟨M + 2, 0, none⟩), .pointer (some ⟨M, 0, none⟩), .pointer (some ⟨M + 1, 0, none⟩), .pointer (some ⟨M + 3, 0, none⟩), undef, .int .i64 (k : Int), u7, u8, u9, u10, u11, u12, u13, u14, u15, u16, u17, u18, u19, u20, u21, u22, u23, u24, u25, u26, u27, u28, u29, u30, u31, u32, u33, u34, u35, u36, u37, u38, u39, u40], []⟩) ∧ ((fl = true ∧ K ≤ k ∧ J 0 w') ∨ (fl = false ∧ k < K ∧ J (K - k) w')) ∧ Box w' (M + 3) (.bool fl) ∧ KeepB (fun b => M ≤ b ∧ b < M + 3) w w') (fun a _ => (intOf (a.tmps.getD 6 undef)).toNat) rfl ?pass ?first
  case first =>
    intro hX
    have HX := Lib.hid hX
    clear hX
    obtain ⟨c2, f2⟩ := h2.below hB (by omega)
    gi_wp2
    refine wpIn_label ?_
    rename_i hgo
    refine hgo _ _ ?_
    exact HX.out _ _ ⟨4, true, by omega, ⟨_, _, _, _, _, _, _, _, _, _, _, _, _, _, _, _, _, _, _, _, _, _, _, _, _, _, _, _, _, _, _, _, _, _, rfl⟩, .inl ⟨rfl, hKb, hJ0⟩, h3.below hB (by omega), KeepB.of_below hB (fun _ _ h => by omega)⟩
  case pass =>
    rintro a w' ⟨k, fl, hk, ⟨u7, u8, u9, u10, u11, u12, u13, u14, u15, u16, u17, u18, u19, u20, u21, u22, u23, u24, u25, u26, u27, u28, u29, u30, u31, u32, u33, u34, u35, u36, u37, u38, u39, u40, rfl⟩, hJk, hF, hK⟩
    obtain ⟨cF, fF⟩ := hF
    obtain ⟨c0, f0⟩ := h0.keep hK (by omega)
    obtain ⟨c1, f1⟩ := h1.keep hK (by omega)
    have hKF : KeepB (fun b => b ≠ M + 3) w' (w'.setCell ⟨M + 3, 0, none⟩ (.bool false)) := (KeepB.refl _ _).setCell (by simp) _
    have hFB : Box (w'.setCell ⟨M + 3, 0, none⟩ (.bool false)) (M + 3) (.bool false) := Box.set ⟨cF, fF⟩ _
    have hFz := hKF.size
    have hwz := hK.size
    have hk5 : k = 4 ∨ k = 3 ∨ k = 2 ∨ k = 1 ∨ k = 0 := by omega
    have hcase : (fl = true ∧ K < k ∧ J 0 w') ∨ (k ≤ K ∧ J (K - k) w' ∧ (fl = true → k = K)) := by
      rcases hJk with ⟨h, h2, h3⟩ | ⟨h, h2, h3⟩
      · rcases Nat.lt_or_ge K k with h4 | h4
        · exact .inl ⟨h, h4, h3⟩
        · obtain rfl : K = k := by omega
          exact .inr ⟨h4, by rw [Nat.sub_self]; exact h3, fun _ => rfl⟩
      · exact .inr ⟨by omega, h3, fun e => by rw [h] at e; cases e⟩
    clear hJk
    rcases hcase with ⟨rfl, hKk, hJk⟩ | ⟨hkK, hJk, hflk⟩
    · have hz : n < 128 ^ k := Nat.lt_of_lt_of_le hlow (Nat.pow_le_pow_right (by omega) hKk)
      have HJk := Lib.hid hJk
      clear hJk hFB hhigh hlow
      rcases hk5 with rfl | rfl | rfl | rfl | rfl
      · simp only [Nat.reducePow] at hz
        gi_wp2
        refine wpIn_goto ?_
        exact ⟨rfl, ⟨3, true, by omega, ⟨_, _, _, _, _, _, _, _, _, _, _, _, _, _, _, _, _, _, _, _, _, _, _, _, _, _, _, _, _, _, _, _, _, _, rfl⟩, .inl ⟨rfl, by omega, HJk.out⟩, ⟨cF, fF⟩, hK⟩, by simp [intOf]⟩
      · simp only [Nat.reducePow] at hz
        gi_wp2
        refine wpIn_goto ?_
        exact ⟨rfl, ⟨2, true, by omega, ⟨_, _, _, _, _, _, _, _, _, _, _, _, _, _, _, _, _, _, _, _, _, _, _, _, _, _, _, _, _, _, _, _, _, _, rfl⟩, .inl ⟨rfl, by omega, HJk.out⟩, ⟨cF, fF⟩, hK⟩, by simp [intOf]⟩
      · simp only [Nat.reducePow] at hz
        gi_wp2
        refine wpIn_goto ?_
        exact ⟨rfl, ⟨1, true, by omega, ⟨_, _, _, _, _, _, _, _, _, _, _, _, _, _, _, _, _, _, _, _, _, _, _, _, _, _, _, _, _, _, _, _, _, _, rfl⟩, .inl ⟨rfl, by omega, HJk.out⟩, ⟨cF, fF⟩, hK⟩, by simp [intOf]⟩
      · simp only [Nat.reducePow] at hz
        gi_wp2
        refine wpIn_goto ?_
        exact ⟨rfl, ⟨0, true, by omega, ⟨_, _, _, _, _, _, _, _, _, _, _, _, _, _, _, _, _, _, _, _, _, _, _, _, _, _, _, _, _, _, _, _, _, _, rfl⟩, .inl ⟨rfl, by omega, HJk.out⟩, ⟨cF, fF⟩, hK⟩, by simp [intOf]⟩
      · omega
    · have hdg := digs_at 128 K n (K - k) (by omega)
      have hJ2 := HJ.out _ _ _ hJk (hKF.sub (fun b _ h => by omega))
      rw [show K - (K - k) = k from by omega] at hdg
      have hskip : ((((n / 128 ^ k : Nat) : Int) == 0) && fl && decide ((k : Int) > 0)) = false := by
        cases hfl : fl with
        | false => simp
        | true =>
          obtain rfl := hflk hfl
          rcases Nat.eq_zero_or_pos k with h0 | h0
          · subst h0; simp
          · have h5 := Nat.div_pos (hhigh h0) (Nat.pow_pos (n := k) (show 0 < 128 by omega))
            have h6 : (((n / 128 ^ k : Nat) : Int) == 0) = false := by simp only [beq_eq_false_iff_ne]; omega
            rw [h6]; rfl
      clear hflk hhigh hlow hJk
      rcases hk5 with rfl | rfl | rfl | rfl | rfl
      · rcases Int.lt_or_le 0 ((n : Int) / 268435456) with hd | hd
        · have hd2 : ((n : Int) / 268435456 == 0) = false := by simp only [beq_eq_false_iff_ne]; omega
          clear hskip
          have eD : ((n / 128 ^ (4) % 128 : Nat) : Int) = (n : Int) / 268435456 % 128 := by simp only [Nat.reducePow, Nat.reduceSub]; omega
          obtain ⟨fn, tmps, assign, body, hy, hR⟩ := HY.out _ _ _ hdg hJ2 (Nat.le_trans hK.size hKF.size)
          dsimp only at hy
          rw [eD] at hy
          have eL := low_and7 ((n : Int) / 268435456) (by omega) (by omega)
          clear eD hdg
          gi_wp2
          refine hR.mono ?_
          rintro e W3 (⟨rfl, hJ3, hk3⟩ | ⟨rfl, hJx3, hk3⟩)
          · gi_wp2
            refine wpIn_goto ?_
            refine ⟨rfl, ⟨3, false, by omega, ⟨_, _, _, _, _, _, _, _, _, _, _, _, _, _, _, _, _, _, _, _, _, _, _, _, _, _, _, _, _, _, _, _, _, _, rfl⟩, .inr ⟨rfl, by omega, by rw [show K - 3 = K - 4 + 1 from by omega]; exact hJ3⟩, hFB.keep hk3 (by omega), (hK.trans (hKF.sub (fun b _ h => by omega))).trans (hk3.sub (fun b _ h => by omega))⟩, by simp [intOf]⟩
          · gi_wp2
            simp only [Exit.jump]
            refine bodyPost_ret (results_none rfl _ _ _) rfl ⟨⟨_, rfl⟩, .inr hJx3⟩
        · have hd2 : (n : Int) / 268435456 = 0 := by omega
          have hfl : fl = false := by
            simp only [Nat.reducePow] at hskip
            have h6 : ((n / 268435456 : Nat) : Int) = 0 := by omega
            rw [h6] at hskip
            simpa using hskip
          subst hfl
          clear hskip hd
          have eD : ((n / 128 ^ (4) % 128 : Nat) : Int) = 0 := by simp only [Nat.reducePow, Nat.reduceSub]; omega
          obtain ⟨fn, tmps, assign, body, hy, hR⟩ := HY.out _ _ _ hdg hJ2 (Nat.le_trans hK.size hKF.size)
          dsimp only at hy
          rw [eD] at hy
          have eL := low_and7 0 (by omega) (by omega)
          clear eD hdg
          gi_wp2
          refine hR.mono ?_
          rintro e W3 (⟨rfl, hJ3, hk3⟩ | ⟨rfl, hJx3, hk3⟩)
          · gi_wp2
            refine wpIn_goto ?_
            refine ⟨rfl, ⟨3, false, by omega, ⟨_, _, _, _, _, _, _, _, _, _, _, _, _, _, _, _, _, _, _, _, _, _, _, _, _, _, _, _, _, _, _, _, _, _, rfl⟩, .inr ⟨rfl, by omega, by rw [show K - 3 = K - 4 + 1 from by omega]; exact hJ3⟩, hFB.keep hk3 (by omega), (hK.trans (hKF.sub (fun b _ h => by omega))).trans (hk3.sub (fun b _ h => by omega))⟩, by simp [intOf]⟩
          · gi_wp2
            simp only [Exit.jump]
            refine bodyPost_ret (results_none rfl _ _ _) rfl ⟨⟨_, rfl⟩, .inr hJx3⟩
      · rcases Int.lt_or_le 0 ((n : Int) / 2097152) with hd | hd
        · have hd2 : ((n : Int) / 2097152 == 0) = false := by simp only [beq_eq_false_iff_ne]; omega
          clear hskip
          have eD : ((n / 128 ^ (3) % 128 : Nat) : Int) = (n : Int) / 2097152 % 128 := by simp only [Nat.reducePow, Nat.reduceSub]; omega
          obtain ⟨fn, tmps, assign, body, hy, hR⟩ := HY.out _ _ _ hdg hJ2 (Nat.le_trans hK.size hKF.size)
          dsimp only at hy
          rw [eD] at hy
          have eL := low_and7 ((n : Int) / 2097152) (by omega) (by omega)
          clear eD hdg
          gi_wp2
          refine hR.mono ?_
          rintro e W3 (⟨rfl, hJ3, hk3⟩ | ⟨rfl, hJx3, hk3⟩)
          · gi_wp2
            refine wpIn_goto ?_
            refine ⟨rfl, ⟨2, false, by omega, ⟨_, _, _, _, _, _, _, _, _, _, _, _, _, _, _, _, _, _, _, _, _, _, _, _, _, _, _, _, _, _, _, _, _, _, rfl⟩, .inr ⟨rfl, by omega, by rw [show K - 2 = K - 3 + 1 from by omega]; exact hJ3⟩, hFB.keep hk3 (by omega), (hK.trans (hKF.sub (fun b _ h => by omega))).trans (hk3.sub (fun b _ h => by omega))⟩, by simp [intOf]⟩
          · gi_wp2
            simp only [Exit.jump]
            refine bodyPost_ret (results_none rfl _ _ _) rfl ⟨⟨_, rfl⟩, .inr hJx3⟩
        · have hd2 : (n : Int) / 2097152 = 0 := by omega
          have hfl : fl = false := by
            simp only [Nat.reducePow] at hskip
            have h6 : ((n / 2097152 : Nat) : Int) = 0 := by omega
            rw [h6] at hskip
            simpa using hskip
          subst hfl
          clear hskip hd
          have eD : ((n / 128 ^ (3) % 128 : Nat) : Int) = 0 := by simp only [Nat.reducePow, Nat.reduceSub]; omega
          obtain ⟨fn, tmps, assign, body, hy, hR⟩ := HY.out _ _ _ hdg hJ2 (Nat.le_trans hK.size hKF.size)
          dsimp only at hy
          rw [eD] at hy
          have eL := low_and7 0 (by omega) (by omega)
          clear eD hdg
          gi_wp2
          refine hR.mono ?_
          rintro e W3 (⟨rfl, hJ3, hk3⟩ | ⟨rfl, hJx3, hk3⟩)
          · gi_wp2
            refine wpIn_goto ?_
            refine ⟨rfl, ⟨2, false, by omega, ⟨_, _, _, _, _, _, _, _, _, _, _, _, _, _, _, _, _, _, _, _, _, _, _, _, _, _, _, _, _, _, _, _, _, _, rfl⟩, .inr ⟨rfl, by omega, by rw [show K - 2 = K - 3 + 1 from by omega]; exact hJ3⟩, hFB.keep hk3 (by omega), (hK.trans (hKF.sub (fun b _ h => by omega))).trans (hk3.sub (fun b _ h => by omega))⟩, by simp [intOf]⟩
          · gi_wp2
            simp only [Exit.jump]
            refine bodyPost_ret (results_none rfl _ _ _) rfl ⟨⟨_, rfl⟩, .inr hJx3⟩
      · rcases Int.lt_or_le 0 ((n : Int) / 16384) with hd | hd
        · have hd2 : ((n : Int) / 16384 == 0) = false := by simp only [beq_eq_false_iff_ne]; omega
          clear hskip
          have eD : ((n / 128 ^ (2) % 128 : Nat) : Int) = (n : Int) / 16384 % 128 := by simp only [Nat.reducePow, Nat.reduceSub]; omega
          obtain ⟨fn, tmps, assign, body, hy, hR⟩ := HY.out _ _ _ hdg hJ2 (Nat.le_trans hK.size hKF.size)
          dsimp only at hy
          rw [eD] at hy
          have eL := low_and7 ((n : Int) / 16384) (by omega) (by omega)
          clear eD hdg
          gi_wp2
          refine hR.mono ?_
          rintro e W3 (⟨rfl, hJ3, hk3⟩ | ⟨rfl, hJx3, hk3⟩)
          · gi_wp2
            refine wpIn_goto ?_
            refine ⟨rfl, ⟨1, false, by omega, ⟨_, _, _, _, _, _, _, _, _, _, _, _, _, _, _, _, _, _, _, _, _, _, _, _, _, _, _, _, _, _, _, _, _, _, rfl⟩, .inr ⟨rfl, by omega, by rw [show K - 1 = K - 2 + 1 from by omega]; exact hJ3⟩, hFB.keep hk3 (by omega), (hK.trans (hKF.sub (fun b _ h => by omega))).trans (hk3.sub (fun b _ h => by omega))⟩, by simp [intOf]⟩
          · gi_wp2
            simp only [Exit.jump]
            refine bodyPost_ret (results_none rfl _ _ _) rfl ⟨⟨_, rfl⟩, .inr hJx3⟩
        · have hd2 : (n : Int) / 16384 = 0 := by omega
          have hfl : fl = false := by
            simp only [Nat.reducePow] at hskip
            have h6 : ((n / 16384 : Nat) : Int) = 0 := by omega
            rw [h6] at hskip
            simpa using hskip
          subst hfl
          clear hskip hd
          have eD : ((n / 128 ^ (2) % 128 : Nat) : Int) = 0 := by simp only [Nat.reducePow, Nat.reduceSub]; omega
          obtain ⟨fn, tmps, assign, body, hy, hR⟩ := HY.out _ _ _ hdg hJ2 (Nat.le_trans hK.size hKF.size)
          dsimp only at hy
          rw [eD] at hy
          have eL := low_and7 0 (by omega) (by omega)
          clear eD hdg
          gi_wp2
          refine hR.mono ?_
          rintro e W3 (⟨rfl, hJ3, hk3⟩ | ⟨rfl, hJx3, hk3⟩)
          · gi_wp2
            refine wpIn_goto ?_
            refine ⟨rfl, ⟨1, false, by omega, ⟨_, _, _, _, _, _, _, _, _, _, _, _, _, _, _, _, _, _, _, _, _, _, _, _, _, _, _, _, _, _, _, _, _, _, rfl⟩, .inr ⟨rfl, by omega, by rw [show K - 1 = K - 2 + 1 from by omega]; exact hJ3⟩, hFB.keep hk3 (by omega), (hK.trans (hKF.sub (fun b _ h => by omega))).trans (hk3.sub (fun b _ h => by omega))⟩, by simp [intOf]⟩
          · gi_wp2
            simp only [Exit.jump]
            refine bodyPost_ret (results_none rfl _ _ _) rfl ⟨⟨_, rfl⟩, .inr hJx3⟩
      · rcases Int.lt_or_le 0 ((n : Int) / 128) with hd | hd
        · have hd2 : ((n : Int) / 128 == 0) = false := by simp only [beq_eq_false_iff_ne]; omega
          clear hskip
          have eD : ((n / 128 ^ (1) % 128 : Nat) : Int) = (n : Int) / 128 % 128 := by simp only [Nat.reducePow, Nat.reduceSub]; omega
          obtain ⟨fn, tmps, assign, body, hy, hR⟩ := HY.out _ _ _ hdg hJ2 (Nat.le_trans hK.size hKF.size)
          dsimp only at hy
          rw [eD] at hy
          have eL := low_and7 ((n : Int) / 128) (by omega) (by omega)
          clear eD hdg
          gi_wp2
          refine hR.mono ?_
          rintro e W3 (⟨rfl, hJ3, hk3⟩ | ⟨rfl, hJx3, hk3⟩)
          · gi_wp2
            refine wpIn_goto ?_
            refine ⟨rfl, ⟨0, false, by omega, ⟨_, _, _, _, _, _, _, _, _, _, _, _, _, _, _, _, _, _, _, _, _, _, _, _, _, _, _, _, _, _, _, _, _, _, rfl⟩, .inr ⟨rfl, by omega, by rw [show K - 0 = K - 1 + 1 from by omega]; exact hJ3⟩, hFB.keep hk3 (by omega), (hK.trans (hKF.sub (fun b _ h => by omega))).trans (hk3.sub (fun b _ h => by omega))⟩, by simp [intOf]⟩
          · gi_wp2
            simp only [Exit.jump]
            refine bodyPost_ret (results_none rfl _ _ _) rfl ⟨⟨_, rfl⟩, .inr hJx3⟩
        · have hd2 : (n : Int) / 128 = 0 := by omega
          have hfl : fl = false := by
            simp only [Nat.reducePow] at hskip
            have h6 : ((n / 128 : Nat) : Int) = 0 := by omega
            rw [h6] at hskip
            simpa using hskip
          subst hfl
          clear hskip hd
          have eD : ((n / 128 ^ (1) % 128 : Nat) : Int) = 0 := by simp only [Nat.reducePow, Nat.reduceSub]; omega
          obtain ⟨fn, tmps, assign, body, hy, hR⟩ := HY.out _ _ _ hdg hJ2 (Nat.le_trans hK.size hKF.size)
          dsimp only at hy
          rw [eD] at hy
          have eL := low_and7 0 (by omega) (by omega)
          clear eD hdg
          gi_wp2
          refine hR.mono ?_
          rintro e W3 (⟨rfl, hJ3, hk3⟩ | ⟨rfl, hJx3, hk3⟩)
          · gi_wp2
            refine wpIn_goto ?_
            refine ⟨rfl, ⟨0, false, by omega, ⟨_, _, _, _, _, _, _, _, _, _, _, _, _, _, _, _, _, _, _, _, _, _, _, _, _, _, _, _, _, _, _, _, _, _, rfl⟩, .inr ⟨rfl, by omega, by rw [show K - 0 = K - 1 + 1 from by omega]; exact hJ3⟩, hFB.keep hk3 (by omega), (hK.trans (hKF.sub (fun b _ h => by omega))).trans (hk3.sub (fun b _ h => by omega))⟩, by simp [intOf]⟩
          · gi_wp2
            simp only [Exit.jump]
            refine bodyPost_ret (results_none rfl _ _ _) rfl ⟨⟨_, rfl⟩, .inr hJx3⟩
      · rcases Int.lt_or_le 0 ((n : Int)) with hd | hd
        · have hd2 : ((n : Int) == 0) = false := by simp only [beq_eq_false_iff_ne]; omega
          clear hskip
          have eD : ((n / 128 ^ (0) % 128 : Nat) : Int) = (n : Int) % 128 := by simp only [Nat.reducePow, Nat.reduceSub]; omega
          obtain ⟨fn, tmps, assign, body, hy, hR⟩ := HY.out _ _ _ hdg hJ2 (Nat.le_trans hK.size hKF.size)
          dsimp only at hy
          rw [eD] at hy
          have eL := low_and7 (n : Int) (by omega) (by omega)
          clear eD hdg
          gi_wp2
          refine hR.mono ?_
          rintro e W3 (⟨rfl, hJ3, hk3⟩ | ⟨rfl, hJx3, hk3⟩)
          · gi_wp2
            simp only [Exit.jump]
            refine bodyPost_ret (results_none rfl _ _ _) rfl ⟨⟨_, rfl⟩, .inl ?_⟩
            rw [digs_length]
            exact hJ3
          · gi_wp2
            simp only [Exit.jump]
            refine bodyPost_ret (results_none rfl _ _ _) rfl ⟨⟨_, rfl⟩, .inr hJx3⟩
        · have hd2 : (n : Int) = 0 := by omega
          clear hskip hd
          obtain rfl : n = 0 := by omega
          cases fl
          · have eD : ((0 / 128 ^ (0) % 128 : Nat) : Int) = 0 := by simp only [Nat.reducePow, Nat.reduceSub]; omega
            obtain ⟨fn, tmps, assign, body, hy, hR⟩ := HY.out _ _ _ hdg hJ2 (Nat.le_trans hK.size hKF.size)
            dsimp only at hy
            rw [eD] at hy
            have eL := low_and7 0 (by omega) (by omega)
            clear eD hdg
            gi_wp2
            refine hR.mono ?_
            rintro e W3 (⟨rfl, hJ3, hk3⟩ | ⟨rfl, hJx3, hk3⟩)
            · gi_wp2
              simp only [Exit.jump]
              refine bodyPost_ret (results_none rfl _ _ _) rfl ⟨⟨_, rfl⟩, .inl ?_⟩
              rw [digs_length]
              exact hJ3
            · gi_wp2
              simp only [Exit.jump]
              refine bodyPost_ret (results_none rfl _ _ _) rfl ⟨⟨_, rfl⟩, .inr hJx3⟩
          · have eD : ((0 / 128 ^ (0) % 128 : Nat) : Int) = 0 := by simp only [Nat.reducePow, Nat.reduceSub]; omega
            obtain ⟨fn, tmps, assign, body, hy, hR⟩ := HY.out _ _ _ hdg hJ2 (Nat.le_trans hK.size hKF.size)
            dsimp only at hy
            rw [eD] at hy
            have eL := low_and7 0 (by omega) (by omega)
            clear eD hdg
            gi_wp2
            refine hR.mono ?_
            rintro e W3 (⟨rfl, hJ3, hk3⟩ | ⟨rfl, hJx3, hk3⟩)
            · gi_wp2
              simp only [Exit.jump]
              refine bodyPost_ret (results_none rfl _ _ _) rfl ⟨⟨_, rfl⟩, .inl ?_⟩
              rw [digs_length]
              exact hJ3
            · gi_wp2
              simp only [Exit.jump]
              refine bodyPost_ret (results_none rfl _ _ _) rfl ⟨⟨_, rfl⟩, .inr hJx3⟩
end Go.Proofs.Ytefpagijgiggmab
