/- The walks of numbers: Long, Short. -/
import Derived.Test.YtefpagijgiggmabNumWf
namespace Go.Proofs.Ytefpagijgiggmab
open Go Go.RowKit

set_option maxHeartbeats 200000 in
theorem long_any (A : Option Addr) (n c : Nat) (l : List Int) (hn : n = l.length) (hl : l.length ≤ 1000000) (w : World) (hA : Rd w A (ivs l)) :
    Calls Try.prog 9 #[.slice A n c] w fun e w' => ∃ v, e = .returned (.tuple #[v, .int .i64 (errN l)]) ∧
      w'.ownsRow w.heap.size 5 1 v (longR l).length (bvs (longR l)) ∧ Below w.heap.size w w' := by
  subst hn
  go_enter Try.func9, Try.ntmps9
  go_wp2_with (go_at_call 23; refine (putLong_any A _ c l rfl hl _ hA).mono ?_; rintro e w1 ⟨v1, rfl, hown1, hB1⟩)
  go_returns
  exact ⟨_, rfl, hown1, hB1⟩

set_option maxHeartbeats 200000 in
theorem short_any (A : Option Addr) (n c : Nat) (l : List Int) (hn : n = l.length) (hl : l.length ≤ 1000000) (w : World) (hA : Rd w A (ivs l)) :
    Calls Try.prog 10 #[.slice A n c] w fun e w' => ∃ v, e = .returned (.tuple #[v, .int .i64 (errN l)]) ∧
      w'.ownsRow w.heap.size 5 1 v (shortR l).length (bvs (shortR l)) ∧ Below w.heap.size w w' := by
  subst hn
  go_enter Try.func10, Try.ntmps10
  go_wp2_with (go_at_call 23; refine (putShort_any A _ c l rfl hl _ hA).mono ?_; rintro e w1 ⟨v1, rfl, hown1, hB1⟩)
  go_returns
  exact ⟨_, rfl, hown1, hB1⟩

theorem Rd.byte {w : World} {A : Option Addr} {l : List UInt8} (h : Rd w A (bvs l)) {k : Nat} (hk : k < l.length) :
    ∃ b o c, A = some ⟨b, o, none⟩ ∧ b < w.heap.size ∧ w.cell? ⟨b, o + k, none⟩ = some (.int .u8 ((UInt8.toNat c : Nat) : Int)) ∧ c.toNat < 256 ∧ l[k]? = some c := by
  have hu : (bvs l)[k]? = some (bv l[k]) := by simp [bvs, hk]
  obtain ⟨b, o, e, hb, hc⟩ := h k _ hu
  exact ⟨b, o, l[k], e, hb, hc, l[k].toNat_lt, by simp [hk]⟩
theorem Rd.cutF {w : World} {A : Option Addr} {xs : List Value} (h : Rd w A xs) {k c : Nat} (hc : xs.length ≤ c) : Rd w (if c = k then A else Option.map (fun x => (⟨x.block, x.off + k, none⟩ : Addr)) A) (xs.drop k) := by
  split
  · rw [List.drop_eq_nil_of_le (by omega)]; exact Rd.nil _ _
  · intro j u hj
    rw [List.getElem?_drop] at hj
    obtain ⟨b, o, rfl, hb, hc⟩ := h _ u hj
    exact ⟨b, o + k, rfl, hb, by rw [Nat.add_assoc]; exact hc⟩
theorem i64_or_nat (a b : Nat) (ha : a < 9223372036854775808) (hb : b < 9223372036854775808) : bits .or .i64 (a : Int) (b : Int) = ((a ||| b : Nat) : Int) := by
  have hx : a ||| b < 2 ^ 63 := Nat.or_lt_two_pow (by omega) (by omega)
  show IntKind.i64.wrap ((BitVec.ofInt 64 (a : Int) ||| BitVec.ofInt 64 (b : Int)).toNat : Int) = _
  rw [BitVec.toNat_or, ofInt_u64 a (by omega), ofInt_u64 b (by omega), IntKind.wrap_i64]
  omega
theorem or_low (x z : Nat) (hx : x < 4294967296) (hz : z < 256) : bits BinOp.or IntKind.i64 ((x : Int) * 256) (z : Int) = (x : Int) * 256 + z := by
  have := i64_or_nat (x * 256) z (by omega) (by omega)
  rw [nat_join 8 (x * 256) z (by omega) (by omega)] at this
  simpa using this
theorem or_low7 (x z : Nat) (hx : x < 4294967296) (hz : z < 128) : bits BinOp.or IntKind.i64 ((x : Int) * 128) (z : Int) = (x : Int) * 128 + z := by
  have := i64_or_nat (x * 128) z (by omega) (by omega)
  rw [nat_join 7 (x * 128) z (by omega) (by omega)] at this
  simpa using this

set_option maxHeartbeats 300000 in
theorem takeLong_any (A : Option Addr) (c : Nat) (l : List UInt8) (hl : l.length ≤ 1000000) (w : World) (hA : Rd w A (bvs l)) (hlc : l.length ≤ c) (hcm : c ≤ maxLen) :
    Calls Try.prog 19 #[.slice A l.length c] w fun e w' => ∃ v, e = .returned (.tuple #[.int .i64 (tlN l).1, v, .int .i64 (tlN l).2.2]) ∧
      w'.ownsRow w.heap.size 5 1 v (tlN l).2.1.length (bvs (tlN l).2.1) ∧ Below w.heap.size w w' := by
  by_cases h5 : l.length < 5
  · have H := Lib.hid (tlN_short l h5)
    go_enter Try.func19, Try.ntmps19
    go_wp2
    go_returns
    rw [H.out]
    exact ⟨_, rfl, World.ownsRow_nil _ _ _ _, Below.refl _ _⟩
  · have h5' : 5 ≤ l.length := by omega
    have H := Lib.hid (tlN_long l h5')
    clear h5
    go_enter Try.func19, Try.ntmps19
    go_wp2
    go_loopw [2, 13] (fun t i wr => ∃ k : Nat, k ≤ 5 ∧ i = .int .i64 k ∧ t = .int .i64 (valN (l.take k) : Nat) ∧ Below w.heap.size w wr) (fun _ i _ => 5 - (intOf i).toNat)
    case atStart => exact ⟨0, by omega, rfl, rfl, Below.refl _ _⟩
    case round =>
      obtain ⟨k, hk, rfl, rfl, hB⟩ := hrel
      have hlt := valN_lt (l.take k) k (List.length_take_le _ _)
      by_cases hk4 : k < 5
      · obtain ⟨b, o, ch, rfl, hb, hc, hch, hlk⟩ := (hA.below hB).byte (k := k) (by omega)
        have Hs := Lib.hid (show valN (l.take (k + 1)) = valN (l.take k) * 256 + ch.toNat from by rw [List.take_add_one, hlk]; exact valN_snoc _ _)
        have hx : valN (l.take k) < 4294967296 := Nat.lt_of_lt_of_le hlt (Nat.le_trans (Nat.pow_le_pow_right (by omega) (show k ≤ 4 by omega)) (by decide))
        clear hlt hlk
        generalize valN (l.take k) = x at *
        generalize ch.toNat = z at *
        have eO := or_low x z hx hch
        go_wp2
        exact ⟨⟨k + 1, by omega, by go_num, by rw [Hs.out]; simp, hB⟩, by simp [intOf]; omega⟩
      · obtain rfl : k = 5 := by omega
        have hx : valN (l.take 5) < 1099511627776 := Nat.lt_of_lt_of_le hlt (by decide)
        clear hlt
        generalize valN (l.take 5) = x at *
        have hrx : Rd (wr.alloc (.cells #[.int .i64 x] 3)) (some ⟨wr.heap.size, 0, none⟩) (ivs [(x : Int)]) := Rd.new wr _ _
        have hB1 : Below w.heap.size w (wr.alloc (.cells #[.int .i64 x] 3)) := hB.alloc hB.size _
        have hA5 := (hA.below hB1).cutF (k := 5) (c := c) (by rw [bvs_length]; exact hlc)
        rw [← bvs_drop] at hA5
        have hcl := clone_any _ (c - 5) (l.drop 5) (by rw [List.length_drop]; omega) _ hA5
        rw [List.length_drop] at hcl
        by_cases hx2 : x ≤ 1073741824
        · have HN := Lib.hid (show isN [(x : Int)] = true by simp [isN, badN]; omega)
          rw [if_pos hx2] at H
          clear hA5 hlc hcm
          have Hl := Lib.hid (show (l.drop 5).length = l.length - 5 from List.length_drop)
          go_wp2_with (first | (go_at_call 16; refine (is_any _ 1 1 [(x : Int)] rfl (by simp) _ hrx).mono ?_; rintro e w1 ⟨rfl, rfl⟩; rw [HN.out]) | (go_at_call 27; refine hcl.mono ?_; rintro e w2 ⟨v2, rfl, hown2, hB2⟩))
          all_goals
            go_returns
            rw [H.out]
            refine ⟨_, rfl, ?_, hB1.trans (hB2.mono hB1.size)⟩
            dsimp only
            rw [Hl.out]
            exact own_base hown2 hB1.size
        · have HN := Lib.hid (show isN [(x : Int)] = false by simp [isN, badN]; omega)
          clear hA5 hB1 hlc hcm hA hcl
          rw [if_neg hx2] at H
          go_wp2_with (go_at_call 16; refine (is_any _ 1 1 [(x : Int)] rfl (by simp) _ hrx).mono ?_; rintro e w1 ⟨rfl, rfl⟩; rw [HN.out])
          go_returns
          rw [H.out]
          exact ⟨_, rfl, World.ownsRow_nil _ _ _ _, hB.alloc hB.size _⟩
end Go.Proofs.Ytefpagijgiggmab
