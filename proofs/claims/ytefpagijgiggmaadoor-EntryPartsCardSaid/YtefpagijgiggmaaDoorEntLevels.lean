/- The walk of EntryLevels. -/
import Derived.Test.YtefpagijgiggmaaDoorEntWi
import Derived.Test.YtefpagijgiggmaaDoorEntFinePl
namespace Go.Proofs.YtefpagijgiggmaaDoor
open Go Go.RowKit

theorem scanS_snoc (s : St) (l : List En) (e : En) : scanS s (l ++ [e]) = scanS s l ++ [nextS (allS s l) e] := by
  induction l generalizing s with
  | nil => rfl
  | cons d l ih => simp only [List.cons_append, scanS, ih]; rfl
theorem levels_take (s : St) (l : List En) (k : Nat) (e : En) (h : l[k]? = some e) : levelsS s (l.take (k + 1)) = levelsS s (l.take k) ++ [(nextS (allS s (l.take k)) e).level] := by
  rw [List.take_add_one, h]
  show levelsS s (l.take k ++ [e]) = _
  unfold levelsS
  rw [scanS_snoc]
  simp
/-- What the law reckons of a level and whether it is final. -/
def stepL (kind : Int) (level : Int) (final : Bool) : Int × Bool :=
  let l := if kind = 2 ∨ (kind = 3 ∧ final = true) then 2 else if kind = 3 then 1 else level
  (l, final || decide (kind = 4 ∧ l = 2))
theorem stepL_next (s : St) (e : En) (hf : FineP s) (hi : s.index < 1073741824) (hr : rightB e = true) : (nextS s e).level = (stepL e.kind s.level s.final).1 ∧ (nextS s e).final = (stepL e.kind s.level s.final).2 ∧ (nextS s e).index = s.index + 1 := by
  have h2 : s.final = true → s.level = 2 := by
    rcases hf with rfl | hf
    · intro h; cases h
    · exact hf.2.2.2.2.2.2.2
  have hp := next_parts s e hf hi hr
  refine ⟨?_, ?_, hp.1⟩
  all_goals
    rw [next_right s e hf hi hr]
    obtain ⟨x1, x2, x3, lv, fi⟩ := s
    obtain ⟨t, k, v⟩ := e
    have hk : k = 0 ∨ k = 1 ∨ k = 2 ∨ k = 3 ∨ k = 4 := by simp [rightB] at hr; omega
    dsimp only at h2 ⊢
    rcases hk with rfl | rfl | rfl | rfl | rfl <;> cases fi <;> simp_all [deedS, stepL]
theorem levels12 {s : St} (h : FineP s) : s.level = 1 ∨ s.level = 2 := by
  rcases h with rfl | h
  · exact .inl rfl
  · exact h.2.2.2.2.2.2.1

theorem levelsS_length (s : St) (l : List En) : (levelsS s l).length = l.length := by simp [levelsS, scanS_length]
theorem all_n (s : St) (A : Option Addr) (n c : Nat) (l : List En) (hn : l.length = n) (hlc : l.length ≤ c) (hcm : c ≤ maxLen) (w : World) (hA : Rd w A (ens l)) :
    Calls Tryd.prog 11 #[s.v, .slice A n c] w fun e w' => e = .returned (allS s l).v ∧ Below w.heap.size w w' := by
  subst hn; exact all_any s A c l hlc hcm w hA
theorem levels_n (s : St) (A : Option Addr) (n c : Nat) (l : List En) (hn : l.length = n) (hl : l.length ≤ 1099511627776) (hlc : l.length ≤ c) (hcm : c ≤ maxLen) (w : World) (hA : Rd w A (ens l)) :
    Calls Tryd.prog 14 #[s.v, .slice A n c] w fun e w' => ∃ v, e = .returned v ∧ w'.ownsRow w.heap.size 3 1 v n (ivs (levelsS s l)) ∧ Below w.heap.size w w' := by
  subst hn; exact levels_any s A c l hl hlc hcm w hA
set_option maxRecDepth 100000 in
set_option maxHeartbeats 8000000 in
theorem lawLevels_all (A : Option Addr) (c : Nat) (l : List En) (hlc : l.length ≤ c) (hcm : c ≤ maxLen) (w : World) (hr : NamesOK w) (hA : Rd w A (ens l)) :
    Calls Tryd.prog 6 #[.slice A l.length c] w fun e w' => e = .returned (.bool true) ∧ Below w.heap.size w w' := by
  obtain ⟨n, hln⟩ : ∃ n, l.length = n := ⟨_, rfl⟩
  rw [hln]
  by_cases hn : 100 < n
  · go_enter Tryd.func6, Tryd.ntmps6
    go_wp2_with (go_at_call 8; refine (wakes_any _ hr).mono ?_; rintro e w2 ⟨rfl, hB2⟩)
    go_returns
    exact ⟨rfl, hB2⟩
  go_enter Tryd.func6, Tryd.ntmps6
  go_wp2_with fail
  go_loopw [3, 4, 5, 6] (fun v3 v4 v5 i wr => ∃ (k : Nat), k ≤ n ∧ i = .int .i64 k ∧ v3 = .int .i64 (allS firstS (l.take k)).level ∧ v4 = .bool (allS firstS (l.take k)).final ∧ (allS firstS (l.take k)).index = k ∧ wr.ownsRow w.heap.size 3 1 v5 k (ivs (levelsS firstS (l.take k))) ∧ Below w.heap.size w wr) (fun _ _ _ i _ => n - (intOf i).toNat)
  case atStart => exact ⟨0, by omega, rfl, rfl, rfl, rfl, World.ownsRow_nil _ _ _ _, Below.refl _ _⟩
  case round =>
    obtain ⟨k, hk, rfl, rfl, rfl, hix, hown, hB⟩ := hrel
    have hF : FineP (allS firstS (l.take k)) := allS_fine _ _ (.inl rfl)
    have hrr := hr.below hB
    have hz0 := hB.size
    by_cases hlt : k < n
    · obtain ⟨b, o, e, rfl, hb, he, d0, d1, d2⟩ := (hA.below hB).entry (k := k) (by omega)
      have t1 : (0 : Int) ≤ (k : Int) := by omega
      have t2 : (k : Int) < (n : Int) := by omega
      have Htk := Lib.hid (allS_take firstS l k e he)
      have Hlv := Lib.hid (levels_take firstS l k e he)
      have hstep := fun h => stepL_next (allS firstS (l.take k)) e hF (by rw [hix]; omega) h
      have Hstep := Lib.hid hstep
      clear hstep he
      obtain ⟨vA, vc, rfl, _⟩ := own_slice hown
      generalize allS firstS (l.take k) = st at *
      obtain ⟨x1, x2, x3, lv, fi⟩ := st
      obtain ⟨t, kd, v⟩ := e
      dsimp only at *
      cases hrt : rightB ⟨t, kd, v⟩ with
      | false =>
        go_wp2_with (first | (go_at_call 10; refine (rightR_any ⟨t, kd, v⟩ _).mono ?_; rintro e w1 ⟨rfl, hB1⟩; have hrr1 := hrr.below hB1; rw [hrt]) | (go_at_call 8; refine (wakes_any _ hrr1).mono ?_; rintro e w2 ⟨rfl, hB2⟩))
        go_returns
        exact ⟨rfl, bTr hB (bTr hB1 hB2)⟩
      | true =>
        have hs := Hstep.out hrt
        have hkd : kd = 0 ∨ kd = 1 ∨ kd = 2 ∨ kd = 3 ∨ kd = 4 := by simp [rightB] at hrt; omega
        have hlf : (lv = 1 ∧ fi = false) ∨ (lv = 2 ∧ fi = false) ∨ (lv = 2 ∧ fi = true) := by
          have h1 := levels12 hF
          have h2 : fi = true → lv = 2 := by
            rcases hF with hF | hF
            · injection hF with _ _ _ _ h; subst h; intro h; cases h
            · exact hF.2.2.2.2.2.2.2
          dsimp only at h1
          cases fi
          · rcases h1 with h1 | h1
            · exact .inl ⟨h1, rfl⟩
            · exact .inr (.inl ⟨h1, rfl⟩)
          · exact .inr (.inr ⟨h2 rfl, rfl⟩)
        clear Hstep hF
        generalize nextS ⟨x1, x2, x3, lv, fi⟩ ⟨t, kd, v⟩ = ns at *
        have Hns := Lib.hid hs
        clear hs
        rcases hkd with rfl | rfl | rfl | rfl | rfl <;> rcases hlf with ⟨rfl, rfl⟩ | ⟨rfl, rfl⟩ | ⟨rfl, rfl⟩
        all_goals
          go_wp2_with (first | (go_at_call 10; refine (rightR_any ⟨_, _, _⟩ _).mono ?_; rintro e w1 ⟨rfl, hB1⟩; have hown1 := ownsRow_keep hown (keepT hB1) (fun _ _ => trivial); have hz1 := hB1.size; have l2 := hb; replace d1 := (keepT hB1).cell (p := ⟨b, o + k * 3 + 1, none⟩) trivial d1; rw [hrt]) | (at_builtin; refine list_append_rd (news := [.int .i64 _]) rfl (.tmp 61) (.tmp 63) rfl elemI rfl (hown1.alloc _) rfl rfl (Rd.new w1 [.int .i64 _] 3) (by intro u h; simp at h; subst h; rfl) (by unfold maxLen; omega) (by omega) (by simp; omega) ?_; intro v' w2 hown2 hg hloc; clear hloc))
          go_roundw
          case rel =>
            refine ⟨k + 1, by omega, by go_num, congrArg (Value.int .i64) (by rw [Htk.out, Hns.out.1]; decide), congrArg Value.bool (by rw [Htk.out, Hns.out.2.1]; decide), by rw [Htk.out, Hns.out.2.2, hix]; push_cast; rfl, ?_, bGrow ((bTr hB hB1).alloc (by omega) _) hg (by simp; omega) (hown1.alloc _)⟩
            rw [Hlv.out, Hns.out.1]
            have : ∀ x : List Int, ∀ y : Int, ivs (x ++ [y]) = ivs x ++ [.int .i64 y] := fun x y => by simp [ivs, iv]
            rw [this]
            exact hown2
          case measure => simp [intOf]; omega
    · obtain rfl : k = n := by omega
      have e1 : l.take k = l := List.take_of_length_le (by omega)
      rw [e1] at hix hown hF
      rw [e1]
      obtain ⟨vA, vc, rfl, _⟩ := own_slice hown
      have hrd := Rd.of_own hown
      have hll := levelsS_length firstS l
      clear hown
      go_wp2_with fail
      refine (firstE_any _).mono ?_
      rintro e w1 ⟨rfl, hB1⟩
      go_wp2_with fail
      refine (all_n firstS A k c l hln hlc hcm w1 ((hA.below hB).below hB1)).mono ?_
      rintro e w2 ⟨rfl, hB2⟩
      replace hB2 := bTr hB1 hB2
      generalize hst : allS firstS l = st at *
      obtain ⟨x1, x2, x3, lv, fi⟩ := st
      dsimp only [St.v] at *
      subst hix
      go_upto_region 17 with fail
      obtain ⟨w3, hw3⟩ : ∃ w3, w3 = w2.alloc (.cells #[.int .i64 k, .int .i64 x2, .int .i64 x3, .int .i64 lv, .bool fi] 23) := ⟨_, rfl⟩
      have hB3 : Below wr.heap.size wr w3 := by rw [hw3]; exact hB2.alloc hB2.size _
      have h5 : Box5 w3 w2.heap.size ⟨k, x2, x3, lv, fi⟩ := by rw [hw3]; exact Box5.new w2 ⟨k, x2, x3, lv, fi⟩ _
      rw [← hw3]
      clear hw3 hB2
      have l0 := h5.lt
      obtain ⟨⟨c0, c1, c2, c3, c4⟩, _⟩ := h5
      dsimp only at c0 c1 c2 c3 c4
      go_wp2_with fail
      refine (firstE_any _).mono ?_
      rintro e w4 ⟨rfl, hB4⟩
      replace hB4 := bTr hB3 hB4
      go_wp2_with fail
      refine (levels_n firstS A k c l hln (by omega) hlc hcm w4 ((hA.below hB).below hB4)).mono ?_
      rintro e w5 ⟨v5, rfl, hown5, hB5⟩
      replace hB5 := bTr hB4 hB5
      obtain ⟨A5, c5, rfl, _⟩ := own_slice hown5
      go_wp2_with fail
      refine (ints_any A5 vA k k c5 vc (levelsS firstS l) (levelsS firstS l) (by omega) (by omega) (by omega) w5 (Rd.of_own hown5) (hrd.below hB5)).mono ?_
      rintro e w6 ⟨rfl, hB6⟩
      replace hB6 := bTr hB5 hB6
      simp only [decide_true]
      go_wp2_with fail
      refine (wakes_any _ (hrr.below hB6)).mono ?_
      rintro e w7 ⟨rfl, hB7⟩
      go_wp2
      go_returns
      exact ⟨rfl, bTr hB (bTr hB6 hB7)⟩
end Go.Proofs.YtefpagijgiggmaaDoor
