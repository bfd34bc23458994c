/- The walk of CrcParts. -/
import Derived.Test.YtdhgiflmimonlaaDoorCrcWi
import Derived.Test.YtdhgiflmimonlaaDoorCrcPl2
import Derived.Deep.DeepCutAuto
namespace Go.Proofs.YtdhgiflmimonlaaDoor
open Go Go.RowKit

theorem parts3 (b : List UInt8) (i k : Nat) (h : i ≤ k) : b.take i ++ ((b.drop i).take (k - i) ++ b.drop k) = b := by
  have h1 : b.drop k = (b.drop i).drop (k - i) := by rw [List.drop_drop]; congr 1; omega
  rw [h1, List.take_append_drop, List.take_append_drop]

set_option maxRecDepth 100000 in
set_option maxHeartbeats 2000000 in
theorem lawParts_any (A : Option Addr) (c : Nat) (b : List UInt8) (i k : Int) (s : Nat) (hs : s < 4294967296) (w : World) (hA0 : b.length ≤ 400 → Sl w A b.length c b) (hr : RowsOK w) :
    Calls Tryd.prog 5 #[.slice A b.length c, .int .i64 i, .int .i64 k, .int .u32 s] w fun e w' => e = .returned (.bool true) ∧ Below w.heap.size w w' := by
  by_cases h4 : 400 < b.length
  · go_enter Tryd.func5, Tryd.ntmps5
    go_wp2_with (go_at_call 8; refine (wakes_any _ hr).mono ?_; rintro e w1 ⟨rfl, hB1⟩; have hz1 := hB1.size)
    go_returns
    exact ⟨rfl, hB1⟩
  · have hA := hA0 (by omega)
    clear hA0
    go_enter Tryd.func5, Tryd.ntmps5
    go_upto_region 3 with fail
    go_cut [1, 2] (fun v1 v2 wx => ∃ i' k' : Int, 0 ≤ i' ∧ i' ≤ b.length ∧ 0 ≤ k' ∧ k' ≤ b.length ∧ v1 = .int .i64 i' ∧ v2 = .int .i64 k' ∧ w = wx)
    case first =>
      go_wp2_with fail
      all_goals (go_meet; exact ⟨_, _, by omega, by omega, by omega, by omega, rfl, rfl, rfl⟩)
    case rest =>
      clear i k
      obtain ⟨i, k, hi0, hi1, hk0, hk1, rfl, rfl, rfl⟩ := hcut
      go_upto_region 4 with fail
      go_cut [1, 2] (fun v1 v2 wx => ∃ i' k' : Nat, i' ≤ k' ∧ k' ≤ b.length ∧ v1 = .int .i64 i' ∧ v2 = .int .i64 k' ∧ w = wx)
      case first =>
        obtain ⟨i, rfl⟩ := Int.eq_ofNat_of_zero_le hi0
        obtain ⟨k, rfl⟩ := Int.eq_ofNat_of_zero_le hk0
        go_wp2_with fail
        all_goals (go_meet; exact ⟨_, _, by omega, by omega, rfl, rfl, rfl⟩)
      case rest =>
        obtain ⟨i, k, hik, hkn, rfl, rfl, rfl⟩ := hcut
        have s1 := hA.take (show i ≤ b.length by omega)
        have s2 := hA.mid hik hkn
        have s3 := hA.drop hkn
        have s4 := hA.take hkn
        obtain ⟨Ai, hAi⟩ : ∃ Ai, (if c = i then A else Option.map (fun x => x.add i) A) = Ai := ⟨_, rfl⟩
        obtain ⟨Ak, hAk⟩ : ∃ Ak, (if c = k then A else Option.map (fun x => x.add k) A) = Ak := ⟨_, rfl⟩
        rw [hAi] at s2
        rw [hAk] at s3
        have s0 := Sl.nil w
        have p3 := Lib.hid (parts3 b i k hik)
        have p2 := Lib.hid (List.take_append_drop k b)
        have N1 : sumN [b.take i, (b.drop i).take (k - i), b.drop k] = nextN 0 b := by
          conv => rhs; rw [← p3.out, nextN_append, nextN_append]
          rfl
        have N2 : nextN (nextN (nextN 0 (b.take i)) ((b.drop i).take (k - i))) (b.drop k) = nextN 0 b := by
          conv => rhs; rw [← p3.out, nextN_append, nextN_append]
        have N3 : nextN (nextN s (b.take k)) (b.drop k) = nextN s b := by
          conv => rhs; rw [← p2.out, nextN_append]
        have N4 : nextN s [] = s := inv32_inv32 s hs
        have HN1 := Lib.hid N1
        have HN2 := Lib.hid N2
        have HN3 := Lib.hid N3
        have HN4 := Lib.hid N4
        have l1 := nextN_lt 0 (b.take i)
        have l2 := nextN_lt (nextN 0 (b.take i)) ((b.drop i).take (k - i))
        have l3 := nextN_lt s (b.take k)
        clear N1 N2 N3 N4
        generalize b.take i = q1 at *
        generalize (b.drop i).take (k - i) = q2 at *
        generalize b.drop k = q3 at *
        generalize b.take k = q4 at *
        have hcap := hA.cap
        have hmx := hA.mx
        unfold maxLen at hmx
        have z1 : (0 : Int) ≤ (i : Int) := by omega
        have z2 : (i : Int) ≤ (c : Int) := by omega
        have z3 : (k : Int) ≤ (c : Int) := by omega
        have z4 : (i : Int) ≤ (k : Int) := by omega
        have z5 : (k : Int) ≤ (b.length : Int) := by omega
        have z6 : (0 : Int) ≤ (k : Int) := by omega
        go_wp2_with (go_at_call 18; refine (sum1_b hA hr (Below.refl _ _)).mono ?_; rintro e w1 ⟨rfl, hB1⟩; have hz1 := hB1.size)
        go_region_held3 (fun W => Below w.heap.size w W) (go_grown)
          (first
            | (go_simp; go_at_call 18; ((with_reducible refine (sum3_bd s1 s2 s3 hr ?_).mono ?_); assumption; rintro e w' ⟨rfl, hB'⟩; have hz' := hB'.size; rw [HN1.out]))
            | (go_simp; go_at_call 18; ((with_reducible refine (sum1_b s1 hr ?_).mono ?_); assumption; rintro e w' ⟨rfl, hB'⟩; have hz' := hB'.size))
            | (go_simp; go_at_call 11; ((with_reducible refine (next_b _ l1 s2 hr ?_).mono ?_); assumption; rintro e w' ⟨rfl, hB'⟩; have hz' := hB'.size))
            | (go_simp; go_at_call 11; ((with_reducible refine (next_b _ l2 s3 hr ?_).mono ?_); assumption; rintro e w' ⟨rfl, hB'⟩; have hz' := hB'.size; rw [HN2.out]))
            | (go_simp; go_at_call 11; ((with_reducible refine (next_b _ hs s0 hr ?_).mono ?_); assumption; rintro e w' ⟨rfl, hB'⟩; have hz' := hB'.size; rw [HN4.out]))
            | (go_simp; go_at_call 11; ((with_reducible refine (next_b _ hs s4 hr ?_).mono ?_); assumption; rintro e w' ⟨rfl, hB'⟩; have hz' := hB'.size))
            | (go_simp; go_at_call 11; ((with_reducible refine (next_b _ l3 s3 hr ?_).mono ?_); assumption; rintro e w' ⟨rfl, hB'⟩; have hz' := hB'.size; rw [HN3.out]))
            | (go_simp; go_at_call 11; ((with_reducible refine (next_b _ hs hA hr ?_).mono ?_); assumption; rintro e w' ⟨rfl, hB'⟩; have hz' := hB'.size))
            | (go_simp; go_at_call 8; ((with_reducible refine (wakes_b hr ?_).mono ?_); assumption; rintro e w' ⟨rfl, hB'⟩; have hz' := hB'.size)))
        all_goals (go_wp2; go_returns; refine ⟨rfl, ?_⟩; first | assumption | (go_goals; fail))
end Go.Proofs.YtdhgiflmimonlaaDoor
