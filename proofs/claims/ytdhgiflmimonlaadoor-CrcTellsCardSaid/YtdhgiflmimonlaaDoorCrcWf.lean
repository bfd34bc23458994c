/- The walks of the sum of bytes: sums put and taken. -/
import Derived.Test.YtdhgiflmimonlaaDoorCrcWe
import Derived.Test.YtdhgiflmimonlaaDoorApp
namespace Go.Proofs.YtdhgiflmimonlaaDoor
open Go Go.RowKit

theorem elemB : Elem Tryd.prog 25 5 (.int .u8 0) 1 1 := ⟨Tryd.underlying25, by kernel_rfl, rfl, by omega⟩

set_option maxHeartbeats 400000 in
theorem clone_any (A : Option Addr) (c : Nat) (l : List UInt8) (hl : l.length ≤ 1099511627776) (w : World) (hA : Rd w A (bvs l)) :
    Calls Tryd.prog 23 #[.slice A l.length c] w fun e w' => ∃ v, e = .returned v ∧ w'.ownsRow w.heap.size 5 1 v l.length (bvs l) ∧ Below w.heap.size w w' := by
  rcases A with _ | ad
  · obtain rfl : l = [] := hA.none_bytes
    have en := Lib.run_eql_slice_nil (P := Tryd.prog) w 25 5 none 0 c 0 0 Tryd.underlying25
    go_enter Tryd.func23, Tryd.ntmps23
    go_wp2
    go_returns
    exact ⟨_, rfl, World.ownsRow_nil _ _ _ _, Below.refl _ _⟩
  · have en := Lib.run_eql_slice_nil (P := Tryd.prog) w 25 5 (some ad) l.length c 0 0 Tryd.underlying25
    have hown0 := World.ownsRow_lit (base := w.heap.size) (e := 5) (size := 1) w #[] 0 (Nat.le_refl _) (by simp [maxLen]) rfl
    go_enter Tryd.func23, Tryd.ntmps23
    go_wp2_with (at_builtin; refine list_append_rd (news := bvs l) rfl (.tmp 5) (.tmp 6) rfl elemB rfl hown0 rfl (by rw [bvs_length]; omega) (hA.below ((Below.refl _ _).alloc (Nat.le_refl _) _)) (bvs_one l) (by unfold maxLen; omega) (by omega) (by simp) ?_; intro v' w1 hown hg _)
    go_returns
    refine ⟨v', rfl, by simpa using hown, bGrow ((Below.refl _ _).alloc (Nat.le_refl _) _) hg (by simp) hown0⟩

theorem fourN_cells (s : Nat) (h : s < 4294967296) : bvs (fourN s) = [.int .u8 ((s % 256 : Nat) : Int), .int .u8 ((s / 256 % 256 : Nat) : Int), .int .u8 ((s / 65536 % 256 : Nat) : Int), .int .u8 ((s / 16777216 : Nat) : Int)] := by
  simp only [bvs, fourN, List.map_cons, List.map_nil, bv]
  have e (n : Nat) : (UInt8.ofNat n).toNat = n % 256 := by simp
  rw [e, e, e, e, Nat.mod_eq_of_lt (show s / 16777216 < 256 by omega)]
theorem IsRows.one {w : World} {A : Option Addr} {l : List UInt8} (b : Nat) (c : Nat) (hl : l.length ≤ 1099511627776 ∧ l.length ≤ c ∧ c ≤ maxLen) (hb : b < w.heap.size) (hc : w.cell? ⟨b, 0, none⟩ = some (.slice A l.length c)) (hA : Rd w A (bvs l)) : IsRows w (some ⟨b, 0, none⟩) [l] := by
  refine ⟨[.slice A l.length c], rfl, fun j u hj => ?_, fun i v l' h1 h2 => ?_⟩
  · cases j with
    | zero => simp at hj; subst hj; exact ⟨b, 0, rfl, hb, hc⟩
    | succ j => simp at hj
  · cases i with
    | zero => simp at h1 h2; subst h1; subst h2; exact ⟨A, c, rfl, hl, hA⟩
    | succ i => simp at h1

theorem sum_one (A : Option Addr) (c : Nat) (l : List UInt8) (w : World) (hA : IsRows w A [l]) (hr : RowsOK w) :
    Calls Tryd.prog 18 #[.slice A 1 c] w fun e w' => e = .returned (.int .u32 (nextN 0 l : Nat)) ∧ Below w.heap.size w w' := sum_any A c [l] (by simp) w hA hr
theorem sumR_one (A : Option Addr) (c : Nat) (l : List UInt8) (w : World) (hA : IsRows w A [l]) :
    Calls Tryd.prog 19 #[.slice A 1 c] w fun e w' => e = .returned (.int .u32 (nextN 0 l : Nat)) ∧ Below w.heap.size w w' := sumR_any A c [l] (by simp) w hA

set_option maxHeartbeats 1000000 in
theorem put_any (A : Option Addr) (c : Nat) (l : List UInt8) (hl : l.length ≤ 1099511627770) (hlc : l.length ≤ c) (hcm : c ≤ maxLen) (w : World) (hA : Rd w A (bvs l)) (hr : RowsOK w) :
    Calls Tryd.prog 14 #[.slice A l.length c] w fun e w' => ∃ v, e = .returned v ∧ w'.ownsRow w.heap.size 5 1 v (l.length + 4) (bvs (putN l)) ∧ Below w.heap.size w w' := by
  have hb1 : Below w.heap.size w (w.alloc (.cells #[.slice A l.length c] 25)) := (Below.refl _ _).alloc (Nat.le_refl _) _
  have hrows : IsRows (w.alloc (.cells #[.slice A l.length c] 25)) (some ⟨w.heap.size, 0, none⟩) [l] := IsRows.one _ c ⟨by omega, hlc, hcm⟩ (by simp) (by simp) (hA.below hb1)
  have hr1 := hr.below hb1
  have hlt := nextN_lt 0 l
  have Hf := Lib.hid (fourN_cells _ hlt)
  have Hp := Lib.hid (show putN l = l ++ fourN (nextN 0 l) from rfl)
  go_enter Tryd.func14, Tryd.ntmps14
  go_wp2_with (first | (go_at_call 18; refine (sum_one _ _ l _ hrows hr1).mono ?_; rintro e w1 ⟨rfl, hB1⟩) | (go_at_call 20; refine (four_any _ hlt _).mono ?_; rintro e w2 ⟨rfl, hB2⟩; simp only [fourV]))
  have hB := bTr hb1 (bTr hB1 hB2)
  obtain ⟨w3, hw3⟩ : ∃ w3, w3 = w2.alloc (.cells #[.int .u8 ((nextN 0 l : Nat) % 256 : Int), .int .u8 ((nextN 0 l : Nat) / 256 % 256 : Int), .int .u8 ((nextN 0 l : Nat) / 65536 % 256 : Int), .int .u8 ((nextN 0 l : Nat) / 16777216 : Int)] 33) := ⟨_, rfl⟩
  rw [← hw3]
  have hB3 : Below w.heap.size w w3 := by rw [hw3]; exact hB.alloc hB.size _
  have hrd3 : Rd w3 (some ⟨w2.heap.size, 0, none⟩) (bvs (fourN (nextN 0 l))) := by
    rw [Hf.out, hw3]; exact Rd.new w2 _ _
  have hA3 := hA.below hB3
  clear hw3
  go_region_held3 (fun W => Below w3.heap.size w3 W) (first | exact (Below.refl _ _).drew | exact hS4 | exact hS5)
    (first
      | (go_simp; go_at_call 23; refine (clone_any A c l (by omega) w3.drew hA3).mono ?_; rintro e w4 ⟨v4, rfl, hown4, hB4⟩; have hS4 : Below w3.heap.size w3 w4 := (Below.refl _ _).drew.trans hB4)
      | (refine step_append_rd (v := v4) (w := w4) (news := bvs (fourN (nextN 0 l))) rfl (.tmp 9) (.tmp 10) rfl elemB rfl hown4 rfl rfl (hrd3.below hS4) (bvs_one _) ?_ ?_ ?_ ?_; (unfold maxLen; omega); omega; exact hS4.size; intro v5 w5 hown5 hg5 _; have hS5 : Below w3.heap.size w3 w5 := bGrow hS4 hg5 hS4.size hown4))
  go_wp2
  go_returns
  refine ⟨v5, rfl, ?_, bStep hB3 hB3.size hS5⟩
  rw [Hp.out, bvs_append]
  exact own_base hown5 hB3.size

set_option maxHeartbeats 1000000 in
theorem putR_any (A : Option Addr) (c : Nat) (l : List UInt8) (hl : l.length ≤ 1099511627770) (hlc : l.length ≤ c) (hcm : c ≤ maxLen) (w : World) (hA : Rd w A (bvs l)) :
    Calls Tryd.prog 15 #[.slice A l.length c] w fun e w' => ∃ v, e = .returned v ∧ w'.ownsRow w.heap.size 5 1 v (l.length + 4) (bvs (putN l)) ∧ Below w.heap.size w w' := by
  have hb1 : Below w.heap.size w (w.alloc (.cells #[.slice A l.length c] 25)) := (Below.refl _ _).alloc (Nat.le_refl _) _
  have hrows : IsRows (w.alloc (.cells #[.slice A l.length c] 25)) (some ⟨w.heap.size, 0, none⟩) [l] := IsRows.one _ c ⟨by omega, hlc, hcm⟩ (by simp) (by simp) (hA.below hb1)
  have hlt := nextN_lt 0 l
  have Hf := Lib.hid (fourN_cells _ hlt)
  have Hp := Lib.hid (show putN l = l ++ fourN (nextN 0 l) from rfl)
  go_enter Tryd.func15, Tryd.ntmps15
  go_wp2_with (first | (go_at_call 19; refine (sumR_one _ _ l _ hrows).mono ?_; rintro e w1 ⟨rfl, hB1⟩) | (go_at_call 21; refine (fourR_any _ hlt _).mono ?_; rintro e w2 ⟨rfl, hB2⟩; simp only [fourV]))
  have hB := bTr hb1 (bTr hB1 hB2)
  obtain ⟨w3, hw3⟩ : ∃ w3, w3 = w2.alloc (.cells #[.int .u8 ((nextN 0 l : Nat) % 256 : Int), .int .u8 ((nextN 0 l : Nat) / 256 % 256 : Int), .int .u8 ((nextN 0 l : Nat) / 65536 % 256 : Int), .int .u8 ((nextN 0 l : Nat) / 16777216 : Int)] 33) := ⟨_, rfl⟩
  rw [← hw3]
  have hB3 : Below w.heap.size w w3 := by rw [hw3]; exact hB.alloc hB.size _
  have hrd3 : Rd w3 (some ⟨w2.heap.size, 0, none⟩) (bvs (fourN (nextN 0 l))) := by
    rw [Hf.out, hw3]; exact Rd.new w2 _ _
  have hA3 := hA.below hB3
  clear hw3
  have hown0 := World.ownsRow_lit (base := w3.heap.size) (e := 5) (size := 1) w3.drew #[] 0 (Nat.le_refl _) (by simp [maxLen]) rfl
  have hS1 : Below w3.heap.size w3 (w3.drew.alloc (.cells #[] 5)) := (Below.refl _ _).drew.alloc (Nat.le_refl _) _
  go_region_held3 (fun W => Below w3.heap.size w3 W) (first | exact (Below.refl _ _).drew | exact hS1 | exact hS4 | exact hS5)
    (first
      | (refine step_append_rd (w := w3.drew.alloc (.cells #[] 5)) (news := bvs l) rfl (.tmp 8) (.tmp 9) rfl elemB rfl hown0 rfl ?_ (hA3.below hS1) (bvs_one _) ?_ ?_ ?_ ?_; (rw [bvs_length]; omega); (unfold maxLen; omega); omega; exact hS1.size; intro v4 w4 hown4 hg4 _; have hS4 : Below w3.heap.size w3 w4 := bGrow hS1 hg4 hS1.size hown0)
      | (refine step_append_rd (v := v4) (w := w4) (news := bvs (fourN (nextN 0 l))) rfl (.tmp 10) (.tmp 11) rfl elemB rfl hown4 rfl rfl (hrd3.below hS4) (bvs_one _) ?_ ?_ ?_ ?_; (unfold maxLen; omega); omega; exact hS4.size; intro v5 w5 hown5 hg5 _; have hS5 : Below w3.heap.size w3 w5 := bGrow hS4 hg5 hS4.size hown4))
  go_wp2
  go_returns
  refine ⟨v5, rfl, ?_, bStep hB3 hB3.size hS5⟩
  rw [Hp.out, bvs_append]
  simpa using own_base hown5 hB3.size
end Go.Proofs.YtdhgiflmimonlaaDoor
