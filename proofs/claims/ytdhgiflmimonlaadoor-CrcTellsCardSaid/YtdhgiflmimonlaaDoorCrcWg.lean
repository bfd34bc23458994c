/- The walks of the sum of bytes: sums taken. -/
import Derived.Test.YtdhgiflmimonlaaDoorCrcWf
namespace Go.Proofs.YtdhgiflmimonlaaDoor
open Go Go.RowKit

theorem equal_n (A B : Option Addr) (n k c d : Nat) (l m : List UInt8) (hn : l.length = n) (hk : m.length = k) (w : World) (hA : Rd w A (bvs l)) (hB : Rd w B (bvs m)) :
    Calls Tryd.prog 22 #[.slice A n c, .slice B k d] w fun e w' => e = .returned (.bool (decide (l = m))) ∧ w' = w := by
  subst hn; subst hk
  exact equal_any A B c d l m w hA hB

set_option maxHeartbeats 1000000 in
theorem take_any (A : Option Addr) (c : Nat) (l : List UInt8) (hl : l.length ≤ 1099511627770) (hlc : l.length ≤ c) (hcm : c ≤ maxLen) (w : World) (hA : Rd w A (bvs l)) (hr : RowsOK w) :
    Calls Tryd.prog 9 #[.slice A l.length c] w fun e w' => ∃ v, e = .returned (.tuple #[v, .bool (takeN l).isSome]) ∧ w'.ownsRow w.heap.size 5 1 v ((takeN l).getD []).length (bvs ((takeN l).getD [])) ∧ Below w.heap.size w w' := by
  unfold maxLen at hcm
  by_cases h4 : l.length < 4
  · have Ht := Lib.hid (show takeN l = none from by unfold takeN; rw [if_pos h4])
    go_enter Tryd.func9, Tryd.ntmps9
    go_wp2
    go_returns
    rw [Ht.out]
    exact ⟨_, rfl, World.ownsRow_nil _ _ _ _, Below.refl _ _⟩
  · obtain ⟨m, hm⟩ : ∃ m, l.length = m + 4 := ⟨l.length - 4, by omega⟩
    have hp : (l.take m).length = m := by rw [List.length_take]; omega
    have hq : (l.drop m).length = 4 := by rw [List.length_drop]; omega
    have hAp : Rd w A (bvs (l.take m)) := by rw [bvs_take]; exact hA.take m
    have hAq : Rd w (A.map (·.add m)) (bvs (l.drop m)) := by rw [bvs_drop]; exact hA.drop m
    have Ht := Lib.hid (show takeN l = if fourN (nextN 0 (l.take m)) = l.drop m then some (l.take m) else none from by unfold takeN; rw [if_neg h4, hm]; rfl)
    rw [hm] at hl hlc ⊢
    clear hm h4 hA
    generalize l.take m = p at *
    generalize l.drop m = q at *
    have hb1 : Below w.heap.size w (w.alloc (.cells #[.slice A m c] 25)) := (Below.refl _ _).alloc (Nat.le_refl _) _
    have hrows : IsRows (w.alloc (.cells #[.slice A m c] 25)) (some ⟨w.heap.size, 0, none⟩) [p] := IsRows.one _ c ⟨by omega, by omega, hcm⟩ (by simp) (by rw [hp]; simp) (hAp.below hb1)
    have hr1 := hr.below hb1
    have hlt := nextN_lt 0 p
    have Hf := Lib.hid (fourN_cells _ hlt)
    have HP := Lib.hid hp
    have HQ := Lib.hid hq
    clear hp hq
    go_enter Tryd.func9, Tryd.ntmps9
    go_wp2_with (first | (go_at_call 18; refine (sum_one _ _ p _ hrows hr1).mono ?_; rintro e w1 ⟨rfl, hB1⟩) | (go_at_call 20; refine (four_any _ hlt _).mono ?_; rintro e w2 ⟨rfl, hB2⟩; simp only [fourV]))
    have hB := bTr hb1 (bTr hB1 hB2)
    obtain ⟨w3, hw3⟩ : ∃ w3, w3 = w2.alloc (.cells #[.int .u8 ((nextN 0 p : Nat) % 256 : Int), .int .u8 ((nextN 0 p : Nat) / 256 % 256 : Int), .int .u8 ((nextN 0 p : Nat) / 65536 % 256 : Int), .int .u8 ((nextN 0 p : Nat) / 16777216 : Int)] 33) := ⟨_, rfl⟩
    rw [← hw3]
    have hB3 : Below w.heap.size w w3 := by rw [hw3]; exact hB.alloc hB.size _
    have hrd3 : Rd w3 (some ⟨w2.heap.size, 0, none⟩) (bvs (fourN (nextN 0 p))) := by
      rw [Hf.out, hw3]; exact Rd.new w2 _ _
    have hAp3 := hAp.below hB3
    have hAq3 := hAq.below hB3
    clear hw3
    by_cases heq : fourN (nextN 0 p) = q
    · have hd : decide (fourN (nextN 0 p) = q) = true := by simp [heq]
      have Ht2 := Lib.hid (show takeN l = some p from by rw [Ht.out, if_pos heq])
      have Hpm := HP.out
      subst Hpm
      clear heq
      go_quiet ((go_at_call 22; exact Calls.quiet_of_same (equal_n _ _ _ _ _ _ (fourN (nextN 0 p)) q rfl HQ.out _ (hrd3.drewN _) (hAq3.drewN _))))
      go_wp2_with (go_at_call 23; refine (clone_any A c p (by omega) _ (hAp3.drewN _)).mono ?_; rintro e w4 ⟨v4, rfl, hown4, hB4⟩)
      go_returns
      rw [Ht2.out]
      exact ⟨v4, rfl, own_base hown4 hB3.size, bStep (bDrewN hB3 _) hB3.size hB4⟩
    · have hd : decide (fourN (nextN 0 p) = q) = false := by simp [heq]
      have Ht2 := Lib.hid (show takeN l = none from by rw [Ht.out, if_neg heq])
      clear heq
      go_quiet ((go_at_call 22; exact Calls.quiet_of_same (equal_n _ _ _ _ _ _ (fourN (nextN 0 p)) q rfl HQ.out _ (hrd3.drewN _) (hAq3.drewN _))))
      go_wp2
      go_returns
      rw [Ht2.out]
      exact ⟨_, rfl, World.ownsRow_nil _ _ _ _, bDrewN hB3 _⟩

/-- Bytes as a string, by the program's own types. -/
theorem strB {w : World} {A : Option Addr} {l : List UInt8} (hA : Rd w A (bvs l)) (c : Nat) : ∀ dst, Tryd.prog.underlying dst = some .string → (convert 25 dst (.slice A l.length c)).run Tryd.prog w = .ok (.string (bstr l)) w :=
  run_str hA c 25 5 Tryd.underlying25 Tryd.underlying5
theorem strBn {w : World} {A : Option Addr} {l : List UInt8} {n : Nat} (hn : l.length = n) (hA : Rd w A (bvs l)) (c : Nat) : ∀ dst, Tryd.prog.underlying dst = some .string → (convert 25 dst (.slice A n c)).run Tryd.prog w = .ok (.string (bstr l)) w := by
  subst hn; exact strB hA c
theorem takeN_put (l : List UInt8) (h : ¬ l.length < 4) : takeN l = if putN (l.take (l.length - 4)) = l then some (l.take (l.length - 4)) else none := by
  unfold takeN
  rw [if_neg h]
  have e : (fourN (nextN 0 (l.take (l.length - 4))) = l.drop (l.length - 4)) ↔ (putN (l.take (l.length - 4)) = l) := by
    unfold putN
    constructor
    · intro h'; rw [h', List.take_append_drop]
    · intro h'
      have : l.take (l.length - 4) ++ fourN (nextN 0 (l.take (l.length - 4))) = l.take (l.length - 4) ++ l.drop (l.length - 4) := by rw [h', List.take_append_drop]
      exact List.append_cancel_left this
  by_cases h1 : putN (l.take (l.length - 4)) = l
  · rw [if_pos h1, if_pos (e.2 h1)]
  · rw [if_neg h1, if_neg (fun h' => h1 (e.1 h'))]
theorem own_sl {w : World} {B : Nat} {e : TypeId} {size n : Nat} {v : Value} {xs : List Value} (h : w.ownsRow B e size v n xs) : ∃ A c, v = .slice A n c ∧ n ≤ c ∧ c ≤ maxLen := by
  rcases h.2 with ⟨rfl, rfl⟩ | ⟨g, cap, cur, rfl, _, _, h1, h2, _⟩
  · exact ⟨none, 0, rfl, Nat.le_refl _, by simp⟩
  · exact ⟨_, cap, rfl, h1, h2⟩
theorem putN_length (l : List UInt8) : (putN l).length = l.length + 4 := by simp [putN, fourN]

set_option maxHeartbeats 1000000 in
theorem takeR_any (A : Option Addr) (c : Nat) (l : List UInt8) (hl : l.length ≤ 1099511627770) (hlc : l.length ≤ c) (hcm : c ≤ maxLen) (w : World) (hA : Rd w A (bvs l)) :
    Calls Tryd.prog 10 #[.slice A l.length c] w fun e w' => ∃ v, e = .returned (.tuple #[v, .bool (takeN l).isSome]) ∧ w'.ownsRow w.heap.size 5 1 v ((takeN l).getD []).length (bvs ((takeN l).getD [])) ∧ Below w.heap.size w w' := by
  unfold maxLen at hcm
  by_cases h4 : l.length < 4
  · have Ht := Lib.hid (show takeN l = none from by unfold takeN; rw [if_pos h4])
    have hd : decide ((l.length : Int) - 4 < 0) = true := by simp; omega
    go_enter Tryd.func10, Tryd.ntmps10
    go_wp2
    go_quiet (fail)
    go_wp2
    go_returns
    rw [Ht.out]
    exact ⟨_, rfl, World.ownsRow_nil _ _ _ _, bDrewN (Below.refl _ _) _⟩
  · have Ht := takeN_put l h4
    obtain ⟨m, hm⟩ : ∃ m, l.length = m + 4 := ⟨l.length - 4, by omega⟩
    rw [show l.length - 4 = m from by omega] at Ht
    have hp : (l.take m).length = m := by rw [List.length_take]; omega
    have hAp : Rd w A (bvs (l.take m)) := by rw [bvs_take]; exact hA.take m
    rw [hm] at hl hlc ⊢
    generalize l.take m = p at *
    have HT := Lib.hid Ht
    clear h4 Ht
    have HM := Lib.hid hm
    clear hm
    have hd : decide ((m : Int) < 0) = false := by simp
    have eA := fun (W : World) (hB : Below w.heap.size w W) => strBn HM.out (hA.below hB) c
    have EA := Lib.hid eA
    clear eA
    subst hp
    go_enter Tryd.func10, Tryd.ntmps10
    go_wp2
    have e0 := EA.out w.drew (Below.refl _ _).drew
    have hpc : (p.length : Int) ≤ (c : Int) := by omega
    go_region_with (first | (go_at_call 15; refine (putR_any A c p (by omega) (by omega) (by unfold maxLen; omega) _ hAp.drew).mono ?_; rintro e w4 ⟨v4, rfl, hown4, hB4⟩; have hS4 : Below w.heap.size w w4 := (Below.refl _ _).drew.trans hB4; obtain ⟨A4, c4, rfl, hc4, hm4⟩ := own_sl hown4; have e4 := strBn (putN_length p) (Rd.of_own hown4) c4; have e5 := EA.out w4 hS4))
    all_goals
      have hb := bstr_beq (putN p) l
      have hApS := hAp.below hS4
      clear e0 e4 e5 hA
      by_cases heq : putN p = l
      · have Ht2 := Lib.hid (show takeN l = some p from by rw [HT.out, if_pos heq])
        have hbt : ((bstr (putN p)).toList == (bstr l).toList) = true := by rw [hb]; simp [heq]
        have hown0 := World.ownsRow_lit (base := w.heap.size) (e := 5) (size := 1) w4 #[] 0 hS4.size (by simp [maxLen]) rfl
        have hS5 : Below w.heap.size w (w4.alloc (.cells #[] 5)) := hS4.alloc hS4.size _
        clear heq hb
        simp only [hbt, Bool.not_true]
        clear hbt
        go_wp2_with (at_builtin; refine list_append_rd (news := bvs p) rfl (.tmp 20) (.tmp 23) rfl elemB rfl hown0 rfl (by rw [bvs_length]; omega) (hAp.below hS5) (bvs_one p) (by unfold maxLen; omega) (by omega) hS5.size ?_; intro v6 w6 hown6 hg6 _)
        go_returns
        rw [Ht2.out]
        exact ⟨v6, rfl, by simpa using hown6, bGrow hS5 hg6 hS5.size hown0⟩
      · have Ht2 := Lib.hid (show takeN l = none from by rw [HT.out, if_neg heq])
        have hbt : ((bstr (putN p)).toList == (bstr l).toList) = false := by rw [hb]; simp [heq]
        clear heq hb
        simp only [hbt, Bool.not_false]
        clear hbt
        go_wp2
        go_returns
        rw [Ht2.out]
        exact ⟨_, rfl, World.ownsRow_nil _ _ _ _, hS4⟩
end Go.Proofs.YtdhgiflmimonlaaDoor
