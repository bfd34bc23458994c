/- The walk of CrcFour. -/
import Derived.Test.YtdhgiflmimonlaaDoorCrcWh
import Derived.Test.YtdhgiflmimonlaaDoorEq
namespace Go.Proofs.YtdhgiflmimonlaaDoor
open Go Go.RowKit

set_option maxHeartbeats 1000000 in
theorem lawFour_any (s t : Nat) (h1 : s < 4294967296) (h2 : t < 4294967296) (w : World) (hr : RowsOK w) :
    Calls Tryd.prog 7 #[.int .u32 s, .int .u32 t] w fun e w' => e = .returned (.bool true) ∧ Below w.heap.size w w' := by
  go_enter Tryd.func7, Tryd.ntmps7
  go_wp2_with fail
  refine (four_any s h1 _).mono ?_
  rintro e w1 ⟨rfl, hB1⟩
  go_wp2_with fail
  refine (four_any t h2 _).mono ?_
  rintro e w2 ⟨rfl, hB2⟩
  have hB := bTr hB1 hB2
  simp only [fourV]
  have q0 : s % 256 < 256 := by omega
  have q1 : s / 256 % 256 < 256 := by omega
  have q2 : s / 65536 % 256 < 256 := by omega
  have q3 : s / 16777216 < 256 := by omega
  have hs := Lib.hid (show s = s % 256 + 256 * (s / 256 % 256) + 65536 * (s / 65536 % 256) + 16777216 * (s / 16777216) from by omega)
  generalize s % 256 = a0 at *
  generalize s / 256 % 256 = a1 at *
  generalize s / 65536 % 256 = a2 at *
  generalize s / 16777216 = a3 at *
  have p0 : t % 256 < 256 := by omega
  have p1 : t / 256 % 256 < 256 := by omega
  have p2 : t / 65536 % 256 < 256 := by omega
  have p3 : t / 16777216 < 256 := by omega
  have ht := Lib.hid (show t = t % 256 + 256 * (t / 256 % 256) + 65536 * (t / 65536 % 256) + 16777216 * (t / 16777216) from by omega)
  generalize t % 256 = b0 at *
  generalize t / 256 % 256 = b1 at *
  generalize t / 65536 % 256 = b2 at *
  generalize t / 16777216 = b3 at *
  have hq : ((256 * (256 * (256 * (a3 : Int) + a2) + a1) + a0) == (s : Int)) = true := by have := hs.out; simp; omega
  have he4 := fun w => run_eql_ints (P := Tryd.prog) (w := w) (t := 33) (e := 5) (k := .u8) [(a0 : Int), a1, a2, a3] [(b0 : Int), b1, b2, b3] Tryd.underlying33 Tryd.underlying5 (by kernel_rfl) rfl
  simp only [List.map_cons, List.map_nil] at he4
  have hlast : ((([(a0 : Int), a1, a2, a3] == [(b0 : Int), b1, b2, b3]) == ((s : Int) == (t : Int)))) = true := by
    have h1 := hs.out
    have h2 := ht.out
    rw [beq_iff_eq, Bool.eq_iff_iff]
    simp only [List.cons_beq_cons, beq_self_eq_true, Bool.and_true, Bool.and_eq_true, beq_iff_eq]
    omega
  generalize ([(a0 : Int), a1, a2, a3] == [(b0 : Int), b1, b2, b3]) = ab at *
  have hX : Below w.heap.size w ((w2.alloc (.cells #[.int .u8 a0, .int .u8 a1, .int .u8 a2, .int .u8 a3] 33)).alloc (.cells #[.int .u8 b0, .int .u8 b1, .int .u8 b2, .int .u8 b3] 33)) := (hB.alloc hB.size _).alloc (by have := hB.size; simp; omega) _
  go_wp2
  refine wp_loop_rounds 5 ?_
  repeat any_goals (rw [rounds_succ]; go_wp2_with (go_at_call 8; refine (wakes_any _ (hr.below hX)).mono ?_; rintro e w5 ⟨rfl, hB5⟩))
  go_returns
  exact ⟨rfl, bTr hX hB5⟩
end Go.Proofs.YtdhgiflmimonlaaDoor
