/- The walks of numbers: the iterator over digits. -/
import Derived.Test.YtefpagijgiggmabNumWa
import Derived.Test.YtefpagijgiggmabRange
import Derived.Test.YtefpagijgiggmabFlow
namespace Go.Proofs.Ytefpagijgiggmab
open Go Go.RowKit Go.Shelf
attribute [local go_sem] Oper.semAt_some

theorem elemB : Elem Try.prog 23 5 (.int .u8 0) 1 1 := ⟨Try.underlying23, by kernel_rfl, rfl, by omega⟩
set_option maxHeartbeats 400000 in
theorem same_any (A B : Option Addr) (c d : Nat) (l m : List UInt8) (w : World) (hA : Rd w A (bvs l)) (hB : Rd w B (bvs m)) :
    Calls Try.prog 11 #[.slice A l.length c, .slice B m.length d] w fun e w' => e = .returned (.bool (decide (l = m))) ∧ w' = w := by
  have e1 := run_str hA c 23 5 Try.underlying23 Try.underlying5
  have e2 := run_str hB d 23 5 Try.underlying23 Try.underlying5
  go_enter Try.func11, Try.ntmps11
  go_wp2
  go_returns
  exact ⟨ret_bool (bstr_beq l m), rfl⟩

set_option maxHeartbeats 400000 in
theorem clone_any (A : Option Addr) (c : Nat) (l : List UInt8) (hl : l.length ≤ 1099511627776) (w : World) (hA : Rd w A (bvs l)) :
    Calls Try.prog 27 #[.slice A l.length c] w fun e w' => ∃ v, e = .returned v ∧ w'.ownsRow w.heap.size 5 1 v l.length (bvs l) ∧ Below w.heap.size w w' := by
  rcases A with _ | ad
  · obtain rfl : l = [] := hA.none_bytes
    have en := Lib.run_eql_slice_nil (P := Try.prog) w 23 5 none 0 c 0 0 Try.underlying23
    go_enter Try.func27, Try.ntmps27
    go_wp2
    go_returns
    exact ⟨_, rfl, World.ownsRow_nil _ _ _ _, Below.refl _ _⟩
  · have en := Lib.run_eql_slice_nil (P := Try.prog) w 23 5 (some ad) l.length c 0 0 Try.underlying23
    have hown0 := World.ownsRow_lit (base := w.heap.size) (e := 5) (size := 1) w #[] 0 (Nat.le_refl _) (by simp [maxLen]) rfl
    go_enter Try.func27, Try.ntmps27
    go_wp2_with (at_builtin; refine list_append_rd (news := bvs l) rfl (.tmp 5) (.tmp 6) rfl elemB rfl hown0 rfl (by rw [bvs_length]; omega) (hA.below ((Below.refl _ _).alloc (Nat.le_refl _) _)) (bvs_one l) (by unfold maxLen; omega) (by omega) (by simp) ?_; intro v' w1 hown hg _)
    go_returns
    refine ⟨v', rfl, by simpa using hown, bGrow ((Below.refl _ _).alloc (Nat.le_refl _) _) hg (by simp) hown0⟩

theorem digits_any (n b m : Int) (f : Bool) (w : World) :
    Calls Try.prog 25 #[.int .i64 n, .int .i64 b, .int .i64 m, .bool f] w fun e w' =>
      e = .returned (.func (.func 30) #[] #[.pointer (some ⟨w.heap.size + 2, 0, none⟩), .pointer (some ⟨w.heap.size, 0, none⟩), .pointer (some ⟨w.heap.size + 1, 0, none⟩), .pointer (some ⟨w.heap.size + 3, 0, none⟩)]) ∧
      w' = (((w.alloc (.cells #[.int .i64 n] 3)).alloc (.cells #[.int .i64 b] 3)).alloc (.cells #[.int .i64 m] 3)).alloc (.cells #[.bool f] 4) := by
  go_enter Try.func25, Try.ntmps25
  go_wp2
  go_ret
  exact ⟨by simp [Nat.add_assoc], rfl⟩
end Go.Proofs.Ytefpagijgiggmab
