/- The walks of level: Check. -/
import Derived.Test.YtoehcmddfpompaaLevWb
namespace Go.Proofs.Ytoehcmddfpompaa
open Go Go.RowKit Go.Shelf

theorem still_any (s : St) (b : Nat) (w : World) (h : Box5 w b s) : Calls Try.prog 25 #[.pointer (some ⟨b, 0, none⟩)] w fun e w' => e = .returned (.int .i64 (if s.final = true then 222 else 0)) ∧ w' = w := by
  obtain ⟨a1, a2, a3, a4, a5⟩ := s
  obtain ⟨⟨c0, c1, c2, c3, c4⟩, _⟩ := h
  dsimp only at *
  cases a5
  all_goals
    go_enter Try.func25, Try.ntmps25
    go_wp2
    go_ret
    exact ⟨rfl, rfl⟩
theorem asks2_any (w : World) : Calls Try.prog 26 #[] w fun e w' => e = .returned (.int .i64 0) ∧ w' = w := by
  go_enter Try.func26, Try.ntmps26
  go_wp2
  go_ret
  exact ⟨rfl, rfl⟩
theorem asks3_any (b : Nat) (A : Option Addr) (n c : Nat) (l : List Int) (hn : l.length = n) (hl : l.length ≤ 1099511627776) (w : World) (h : Box w b (.slice A n c)) (hA : Rd w A (ivs l)) :
    Calls Try.prog 27 #[.pointer (some ⟨b, 0, none⟩)] w fun e w' => e = .returned (.int .i64 (if knownB l = true then 0 else 221)) ∧ Below w.heap.size w w' := by
  have HK := Lib.hid (known_any A n c l hn hl w hA)
  obtain ⟨c0, _⟩ := h
  generalize knownB l = f at *
  cases f
  all_goals
    go_enter Try.func27, Try.ntmps27
    go_wp2_with (go_at_call 12; refine HK.out.mono ?_; rintro e w1 ⟨rfl, hB⟩)
    go_ret
    exact ⟨rfl, hB⟩
theorem asks4_any (s : St) (b g : Nat) (w : World) (h : Box5 w b s) (hg : Box w g (.func (.func 25) #[] #[.pointer (some ⟨b, 0, none⟩)])) :
    Calls Try.prog 28 #[.pointer (some ⟨g, 0, none⟩), .pointer (some ⟨b, 0, none⟩)] w fun e w' => e = .returned (.int .i64 (if s.final = true then 222 else if s.level = 2 then 0 else 223)) ∧ w' = w := by
  have HS := Lib.hid (still_any s b w h)
  obtain ⟨a1, a2, a3, a4, a5⟩ := s
  obtain ⟨⟨c0, c1, c2, c3, c4⟩, _⟩ := h
  obtain ⟨cg, _⟩ := hg
  dsimp only at *
  cases a5
  · by_cases h2 : a4 = 2
    · subst h2
      go_enter Try.func28, Try.ntmps28
      go_wp2_with (go_at_call 25; refine HS.out.mono ?_; rintro e w1 ⟨rfl, rfl⟩)
      go_ret
      exact ⟨rfl, rfl⟩
    · have h3 : (a4 == 2) = false := by simpa using h2
      rw [if_neg (by simp), if_neg h2]
      clear h2
      go_enter Try.func28, Try.ntmps28
      go_wp2_with (go_at_call 25; refine HS.out.mono ?_; rintro e w1 ⟨rfl, rfl⟩)
      go_ret
      exact ⟨rfl, rfl⟩
  · go_enter Try.func28, Try.ntmps28
    go_wp2_with (go_at_call 25; refine HS.out.mono ?_; rintro e w1 ⟨rfl, rfl⟩)
    go_ret
    exact ⟨rfl, rfl⟩

theorem zero_ask (w : World) : (zeroValue 47).run Try.prog w = .ok .nilFunc w := by kernel_rfl
theorem look_asks {w : World} {r b g : Nat} (h : MapIs w r (asksL b g)) (k : Int) (ok : Bool) :
    (Instr.lookup 49 (.map (some r)) (.int .i64 k) ok).run Try.prog w = .ok (if ok then .tuple #[(mget (asksL b g) k).getD .nilFunc, .bool (mget (asksL b g) k).isSome] else (mget (asksL b g) k).getD .nilFunc) w := run_lookup_map (P := Try.prog) (t := 49) Try.underlying49 Try.underlying3 zero_ask h k ok

set_option maxHeartbeats 1000000 in
theorem check_any (k : Int) (s : St) (A : Option Addr) (n c : Nat) (l : List Int) (hn : l.length = n) (hl : l.length ≤ 1099511627776) (w : World) (hA : Rd w A (ivs l)) :
    Calls Try.prog 8 #[.int .i64 k, s.v, .slice A n c] w fun e w' => e = .returned (.int .i64 (checkS k s l)) ∧ Below w.heap.size w w' := by
  obtain ⟨res, hres⟩ : ∃ r, r = checkS k s l := ⟨_, rfl⟩
  rw [← hres]
  have HR := Lib.hid hres
  clear hres
  have h50 := Box5.new w s 23
  have HAs := Lib.hid (fun W => asks_any s A n c W)
  have hs0 := s
  obtain ⟨a1, a2, a3, a4, a5⟩ := s
  dsimp only [St.v] at *
  go_enter Try.func8, Try.ntmps8
  go_wp2_with fail
  have hB0 : Below w.heap.size w (w.alloc (.cells #[.int .i64 a1, .int .i64 a2, .int .i64 a3, .int .i64 a4, .bool a5] 23)) := (Below.refl _ _).alloc (Nat.le_refl _) _
  generalize w.alloc (.cells #[.int .i64 a1, .int .i64 a2, .int .i64 a3, .int .i64 a4, .bool a5] 23) = W at *
  refine (HAs.out W).mono ?_
  rintro e w1 ⟨r, rfl, ⟨hM, hb5, hbc, hbg⟩, hB1⟩
  have hB := bTr hB0 hB1
  have hA1 := hA.below hB
  clear h50 HAs hB0 hB1
  generalize W.heap.size = b at *
  have hlook := look_asks hM k true
  by_cases k1 : k = 1
  · subst k1
    rw [show mget (asksL b (b + 2)) 1 = some (.func (.func 26) #[] #[]) from rfl] at hlook
    go_wp2_with (go_at_call 26; refine (asks2_any _).mono ?_; rintro e w2 ⟨rfl, rfl⟩)
    go_ret
    exact ⟨ret_int (by rw [HR.out]; rfl), hB⟩
  by_cases k2 : k = 2
  · subst k2
    rw [show mget (asksL b (b + 2)) 2 = some (.func (.func 27) #[] #[.pointer (some ⟨b + 1, 0, none⟩)]) from rfl] at hlook
    go_wp2_with (go_at_call 27; refine (asks3_any (b + 1) A n c l hn hl w1 hbc hA1).mono ?_; rintro e w2 ⟨rfl, hB2⟩; rw [show (if knownB l = true then (0 : Int) else 221) = res from HR.out.symm])
    go_ret
    exact ⟨rfl, bTr hB hB2⟩
  by_cases k3 : k = 3
  · subst k3
    rw [show mget (asksL b (b + 2)) 3 = some (.func (.func 25) #[] #[.pointer (some ⟨b, 0, none⟩)]) from rfl] at hlook
    go_wp2_with (go_at_call 25; refine (still_any _ b w1 hb5).mono ?_; rintro e w2 ⟨rfl, rfl⟩; rw [show (if (⟨a1, a2, a3, a4, a5⟩ : St).final = true then (222 : Int) else 0) = res from HR.out.symm])
    go_ret
    exact ⟨rfl, hB⟩
  by_cases k4 : k = 4
  · subst k4
    rw [show mget (asksL b (b + 2)) 4 = some (.func (.func 28) #[] #[.pointer (some ⟨b + 2, 0, none⟩), .pointer (some ⟨b, 0, none⟩)]) from rfl] at hlook
    go_wp2_with (go_at_call 28; refine (asks4_any _ b (b + 2) w1 hb5 hbg).mono ?_; rintro e w2 ⟨rfl, rfl⟩; rw [show (if (⟨a1, a2, a3, a4, a5⟩ : St).final = true then (222 : Int) else if (⟨a1, a2, a3, a4, a5⟩ : St).level = 2 then 0 else 223) = res from HR.out.symm])
    go_ret
    exact ⟨rfl, hB⟩
  · have hn0 : mget (asksL b (b + 2)) k = none := by simp [asksL, mget, Ne.symm k1, Ne.symm k2, Ne.symm k3, Ne.symm k4]
    rw [hn0] at hlook
    have HK := Lib.hid (show checkS k ⟨a1, a2, a3, a4, a5⟩ l = 2 by unfold checkS; rw [if_neg k1, if_neg k2, if_neg k3, if_neg k4])
    clear k1 k2 k3 k4 hn0
    go_wp2
    go_ret
    exact ⟨ret_int (by rw [HR.out, HK.out]), hB⟩
end Go.Proofs.Ytoehcmddfpompaa
