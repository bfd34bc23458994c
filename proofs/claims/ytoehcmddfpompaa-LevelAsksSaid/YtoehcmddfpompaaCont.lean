/- slices.ContainsFunc over ints, with whatever predicate is kept by a contract. -/
import Derived.Test.YtoehcmddfpompaaElemI
namespace Go.Proofs.Ytoehcmddfpompaa
open Go Go.RowKit

theorem anyp_take (p : Int → Bool) (l : List Int) (k : Nat) (x : Int) (h : l[k]? = some x) (h0 : (l.take k).any p = false) (hx : p x = false) : (l.take (k + 1)).any p = false := by
  rw [List.take_add_one, h]; simp only [Option.toList_some, List.any_append, h0, List.any_cons, hx, List.any_nil]; rfl
theorem anyp_at (p : Int → Bool) (l : List Int) (k : Nat) (x : Int) (h : l[k]? = some x) (hx : p x = true) : l.any p = true :=
  List.any_eq_true.2 ⟨x, List.mem_of_getElem? h, hx⟩

set_option maxHeartbeats 1000000 in
theorem indexP (g : Nat) (lb : Array Value) (p : Int → Bool) (A : Option Addr) (c : Nat) (l : List Int) (hl : l.length ≤ 1099511627776) (w : World) (hA : Rd w A (ivs l))
    (eg : ∀ args w, (callFunc g args).run Try.prog w = .ok (.enter g args) w)
    (hp : ∀ x W, Below w.heap.size w W → Calls Try.prog g (#[.int .i64 x] ++ lb) W fun e W' => e = .returned (.bool (p x)) ∧ Below W.heap.size W W') :
    Calls Try.prog 31 #[.slice A l.length c, .func (.func g) #[] lb] w fun e w' => ∃ r : Int, e = .returned (.int .i64 r) ∧ (-1 ≤ r ∧ r ≤ l.length) ∧ decide (0 ≤ r) = l.any p ∧ Below w.heap.size w w' := by
  have HP := Lib.hid hp
  clear hp
  go_enter Try.func31, Try.ntmps31
  go_wp2
  go_loopw [5, 8] (fun _ i wr => ∃ k : Nat, k ≤ l.length ∧ i = .int .i64 k ∧ Hid ((l.take k).any p = false) ∧ Below w.heap.size w wr) (fun _ i _ => l.length - (intOf i).toNat)
  case atStart => exact ⟨0, by omega, rfl, Lib.hid rfl, Below.refl _ _⟩
  case round =>
    obtain ⟨k, hk, rfl, h0, hB⟩ := hrel
    by_cases hk4 : k < l.length
    · obtain ⟨b, o, x, rfl, hb, hc, hx⟩ := (hA.below hB).int hk4
      have Hk := Lib.hid hx
      clear hx
      have hpx := Lib.hid (HP.out x wr hB)
      generalize hpe : p x = px at *
      have Hpe := Lib.hid hpe
      clear hpe
      cases px
      · go_wp2_with fail
        refine hpx.out.mono ?_
        rintro e w1 ⟨rfl, hB1⟩
        go_wp2
        go_roundw
        case rel => exact ⟨k + 1, by omega, by go_num, Lib.hid (anyp_take p l k x Hk.out h0.out Hpe.out), bTr hB hB1⟩
        case measure => simp [intOf]; omega
      · go_wp2_with fail
        refine hpx.out.mono ?_
        rintro e w1 ⟨rfl, hB1⟩
        go_wp2
        go_ret
        exact ⟨_, rfl, by omega, by rw [anyp_at p l k x Hk.out Hpe.out]; simp, bTr hB hB1⟩
    · obtain rfl : k = l.length := by omega
      have H0 := Lib.hid (show l.any p = false by have := h0.out; rwa [List.take_length] at this)
      clear h0
      go_wp2
      go_ret
      exact ⟨_, rfl, by omega, by rw [H0.out]; simp, hB⟩

theorem containsP (g : Nat) (lb : Array Value) (p : Int → Bool) (A : Option Addr) (n c : Nat) (l : List Int) (hn : l.length = n) (hl : l.length ≤ 1099511627776) (w : World) (hA : Rd w A (ivs l))
    (eg : ∀ args w, (callFunc g args).run Try.prog w = .ok (.enter g args) w)
    (hp : ∀ x W, Below w.heap.size w W → Calls Try.prog g (#[.int .i64 x] ++ lb) W fun e W' => e = .returned (.bool (p x)) ∧ Below W.heap.size W W') :
    Calls Try.prog 22 #[.slice A n c, .func (.func g) #[] lb] w fun e w' => e = .returned (.bool (l.any p)) ∧ Below w.heap.size w w' := by
  subst hn
  have HI := Lib.hid (indexP g lb p A c l hl w hA eg hp)
  obtain ⟨res, hres⟩ : ∃ r, r = l.any p := ⟨_, rfl⟩
  rw [← hres] at HI ⊢
  clear hres eg hp
  go_enter Try.func22, Try.ntmps22
  go_wp2_with fail
  refine HI.out.mono ?_
  rintro e w1 ⟨r, rfl, hr, hd, hB1⟩
  have Hd := Lib.hid hd
  clear hd
  go_wp2
  go_ret
  exact ⟨ret_bool (by rw [← Hd.out]; try simp), hB1⟩
end Go.Proofs.Ytoehcmddfpompaa
