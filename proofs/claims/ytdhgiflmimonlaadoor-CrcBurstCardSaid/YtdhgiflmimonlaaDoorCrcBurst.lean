/- The walk of CrcBurst. -/
import Derived.Test.YtdhgiflmimonlaaDoorCrcWi
import Derived.Test.YtdhgiflmimonlaaDoorCrcPl2
import Derived.Test.YtdhgiflmimonlaaDoorEq
namespace Go.Proofs.YtdhgiflmimonlaaDoor
open Go Go.RowKit

/-- A row of which k bytes from 'at' on have been put together with others. -/
def patch (l : List UInt8) (at_ : Nat) (ys : List UInt8) : Nat → List UInt8
  | 0 => l
  | k + 1 => (patch l at_ ys k).set (at_ + k) ((patch l at_ ys k).getD (at_ + k) 0 ^^^ ys.getD k 0)
theorem patch_length (l : List UInt8) (at_ : Nat) (ys : List UInt8) (k : Nat) : (patch l at_ ys k).length = l.length := by
  induction k with
  | zero => rfl
  | succ k ih => simp [patch, ih]
theorem patch4 (p q : List UInt8) (a b c d x y z u : UInt8) : patch (p ++ ([a, b, c, d] ++ q)) p.length [x, y, z, u] 4 = p ++ ([a ^^^ x, b ^^^ y, c ^^^ z, d ^^^ u] ++ q) := by
  simp [patch, List.getD]
theorem cut4 (l : List UInt8) (at_ : Nat) (h : at_ + 4 ≤ l.length) : ∃ p q a b c d, l = p ++ ([a, b, c, d] ++ q) ∧ p.length = at_ := by
  have h4 : ((l.drop at_).take 4).length = 4 := by simp; omega
  match hm : (l.drop at_).take 4, h4 with
  | [a, b, c, d], _ =>
    refine ⟨l.take at_, (l.drop at_).drop 4, a, b, c, d, ?_, by simp; omega⟩
    rw [← hm, List.take_append_drop, List.take_append_drop]
theorem xor_ne (a x : UInt8) : a = a ^^^ x ↔ x = 0 := by
  constructor
  · intro h
    have := congrArg (a ^^^ ·) h
    simpa [← UInt8.xor_assoc] using this.symm
  · rintro rfl; simp
theorem patch_run (s : Nat) (hs : s < 4294967296) (l : List UInt8) (at_ : Nat) (h : at_ + 4 ≤ l.length) (x y z u : UInt8) (hne : ¬ (x = 0 ∧ y = 0 ∧ z = 0 ∧ u = 0)) : runN s l ≠ runN s (patch l at_ [x, y, z, u] 4) := by
  obtain ⟨p, q, a, b, c, d, rfl, rfl⟩ := cut4 l at_ h
  rw [patch4]
  exact burst s hs p q a b c d _ _ _ _ (by rw [xor_ne, xor_ne, xor_ne, xor_ne]; exact hne)
theorem patch_take (b : List UInt8) (at_ : Nat) (h : at_ ≤ b.length) (x y z u : UInt8) (hne : ¬ (x = 0 ∧ y = 0 ∧ z = 0 ∧ u = 0)) : takeN (patch (putN b) at_ [x, y, z, u] 4) = none := by
  refine take_none _ fun e => ?_
  rw [← run_put b] at e
  exact patch_run (inv32 0) (inv32_lt 0) (putN b) at_ (by rw [putN_length]; omega) x y z u hne e.symm
theorem patch_sum (b : List UInt8) (at_ : Nat) (h : at_ + 4 ≤ b.length) (x y z u : UInt8) (hne : ¬ (x = 0 ∧ y = 0 ∧ z = 0 ∧ u = 0)) : nextN 0 (patch b at_ [x, y, z, u] 4) ≠ nextN 0 b := by
  intro e
  refine patch_run (inv32 0) (inv32_lt 0) b at_ h x y z u hne ?_
  have := congrArg inv32 e
  unfold nextN at this
  rw [inv32_inv32 _ (runN_lt _ _ (inv32_lt 0)), inv32_inv32 _ (runN_lt _ _ (inv32_lt 0))] at this
  exact this.symm
theorem bvs_set (l : List UInt8) (j : Nat) (c : UInt8) : bvs (l.set j c) = (bvs l).set j (bv c) := by simp [bvs, List.map_set]
theorem patch_at (l : List UInt8) (at_ : Nat) (ys : List UInt8) (k : Nat) (h : at_ + k < l.length) : (bvs (patch l at_ ys k))[at_ + k]? = some (bv ((patch l at_ ys k).getD (at_ + k) 0)) := by
  have : at_ + k < (patch l at_ ys k).length := by rw [patch_length]; exact h
  simp [bvs, List.getD, List.getElem?_eq_getElem this]

set_option maxRecDepth 100000 in
set_option maxHeartbeats 2000000 in
theorem lawBurst_big (A : Option Addr) (n c : Nat) (at_ : Int) (x y z u : UInt8) (hb : 400 < n ∨ (x = 0 ∧ y = 0 ∧ z = 0 ∧ u = 0)) (w : World) (hr : RowsOK w) :
    Calls Tryd.prog 4 #[.slice A n c, .int .i64 at_, .agg #[bv x, bv y, bv z, bv u]] w fun e w' => e = .returned (.bool true) ∧ Below w.heap.size w w' := by
  have hb1 : Below w.heap.size w (w.alloc (.cells #[bv x, bv y, bv z, bv u] 33)) := (Below.refl _ _).alloc (Nat.le_refl _) _
  have hr1 := hr.below hb1
  simp only [bv] at *
  by_cases h1 : 400 < n
  · go_enter Tryd.func4, Tryd.ntmps4
    go_wp2_with fail
    refine (wakes_any _ hr1).mono ?_; rintro e w1 ⟨rfl, hB1⟩; go_wp2; go_returns; exact ⟨rfl, bTr hb1 hB1⟩
  · obtain ⟨rfl, rfl, rfl, rfl⟩ : x = 0 ∧ y = 0 ∧ z = 0 ∧ u = 0 := hb.resolve_left h1
    have he4 := fun w => run_eql_ints (P := Tryd.prog) (w := w) (t := 33) (e := 5) (k := .u8) [0, 0, 0, 0] [0, 0, 0, 0] Tryd.underlying33 Tryd.underlying5 (by kernel_rfl) rfl
    simp only [List.map_cons, List.map_nil] at he4
    go_enter Tryd.func4, Tryd.ntmps4
    go_wp2_with fail
    refine (wakes_any _ hr1).mono ?_; rintro e w1 ⟨rfl, hB1⟩; go_wp2; go_returns; exact ⟨rfl, bTr hb1 hB1⟩
theorem own_pos {w : World} {B : Nat} {e : TypeId} {size n : Nat} {v : Value} {xs : List Value} (h : w.ownsRow B e size v n xs) (hn : 0 < n) : ∃ g c, v = .slice (some ⟨g, 0, none⟩) n c ∧ B ≤ g ∧ g < w.heap.size ∧ n ≤ c ∧ c ≤ maxLen := by
  rcases h.2 with ⟨_, rfl⟩ | ⟨g, cap, cur, rfl, hb, hg, h1, h2, _⟩
  · omega
  · exact ⟨g, cap, rfl, hb, (Array.getElem?_eq_some_iff.1 hg).1, h1, h2⟩
theorem own_drew {w : World} {B : Nat} {e : TypeId} {size n : Nat} {v : Value} {xs : List Value} (h : w.ownsRow B e size v n xs) : w.drew.ownsRow B e size v n xs := h
theorem tmod_in (a n : Int) (h : 0 < n) : -n < a.tmod n ∧ a.tmod n < n := by
  have h1 := Int.tmod_lt_of_pos a h
  have h2 := Int.lt_tmod_of_pos a h
  omega

theorem same_b {w0 W : World} {A B : Option Addr} {n m c d : Nat} {l k : List UInt8} (h : Sl w0 A n c l) (h2 : Sl w0 B m d k) (hb : Below w0.heap.size w0 W) :
    Calls Tryd.prog 13 #[.slice A n c, .slice B m d] W fun e w' => e = .returned (.bool (decide (l = k))) ∧ w' = W := by
  have h' := h.below hb
  have h2' := h2.below hb
  have e1 := h.len
  have e2 := h2.len
  subst e1; subst e2
  exact same_any A B c d l k W h'.rd h2'.rd
theorem take_b {w0 W : World} {A : Option Addr} {n c : Nat} {l : List UInt8} (h : Sl w0 A n c l) (hR : RowsOK w0) (hb : Below w0.heap.size w0 W) :
    Calls Tryd.prog 9 #[.slice A n c] W fun e w' => ∃ A' c', e = .returned (.tuple #[.slice A' ((takeN l).getD []).length c', .bool (takeN l).isSome]) ∧ Sl w' A' ((takeN l).getD []).length c' ((takeN l).getD []) ∧ Below w0.heap.size w0 w' := by
  have h' := h.below hb
  have e1 := h.len
  subst e1
  refine (take_any A c l h'.lim h'.cap h'.mx W h'.rd (hR.below hb)).mono ?_
  rintro e w' ⟨v, rfl, ho, hB⟩
  obtain ⟨A', c', rfl, h1, h2⟩ := own_sl ho
  refine ⟨A', c', rfl, ⟨Rd.of_own ho, rfl, ?_, h1, h2⟩, bTr hb hB⟩
  have : ((takeN l).getD []).length ≤ l.length := by
    unfold takeN
    split
    · simp
    · split <;> simp
  have := h'.lim
  omega

set_option maxRecDepth 100000 in
set_option maxHeartbeats 4000000 in
theorem lawBurst_any (A : Option Addr) (n c : Nat) (b : List UInt8) (at_ : Int) (x y z u : UInt8) (hne : ¬ (x = 0 ∧ y = 0 ∧ z = 0 ∧ u = 0)) (hn : n ≤ 400) (w : World) (hA : Sl w A n c b) (hr : RowsOK w) :
    Calls Tryd.prog 4 #[.slice A n c, .int .i64 at_, .agg #[bv x, bv y, bv z, bv u]] w fun e w' => e = .returned (.bool true) ∧ Below w.heap.size w w' := by
  have hb1 : Below w.heap.size w (w.alloc (.cells #[bv x, bv y, bv z, bv u] 33)) := (Below.refl _ _).alloc (Nat.le_refl _) _
  have hr1 := hr.below hb1
  have hA1 := hA.below hb1
  have hbox := Rd.new w [bv x, bv y, bv z, bv u] 33
  have he4 := fun w => run_eql_ints (P := Tryd.prog) (w := w) (t := 33) (e := 5) (k := .u8) [(x.toNat : Int), y.toNat, z.toNat, u.toNat] [0, 0, 0, 0] Tryd.underlying33 Tryd.underlying5 (by kernel_rfl) rfl
  have hne4 : ([(x.toNat : Int), y.toNat, z.toNat, u.toNat] == [0, 0, 0, 0]) = false := by
    rw [Bool.eq_false_iff]
    intro h
    rw [beq_iff_eq] at h
    simp at h
    exact hne ⟨UInt8.toNat_inj.1 (by simpa using h.1), UInt8.toNat_inj.1 (by simpa using h.2.1), UInt8.toNat_inj.1 (by simpa using h.2.2.1), UInt8.toNat_inj.1 (by simpa using h.2.2.2)⟩
  simp only [List.map_cons, List.map_nil, hne4] at he4
  clear hne4
  simp only [bv] at hbox
  have HB := Lib.hid hbox
  clear hbox
  simp only [bv] at hb1 hr1 hA1 ⊢
  go_enter Tryd.func4, Tryd.ntmps4
  go_wp2_with fail
  obtain ⟨wb, hwb⟩ : ∃ wb, wb = w.alloc (.cells #[.int .u8 (x.toNat : Nat), .int .u8 (y.toNat : Nat), .int .u8 (z.toNat : Nat), .int .u8 (u.toNat : Nat)] 33) := ⟨_, rfl⟩
  have hsz : wb.heap.size = w.heap.size + 1 := by rw [hwb]; simp
  rw [← hwb] at hb1 hr1 hA1 HB ⊢
  clear hwb he4 hr
  refine (put_b hA1 hr1 (Below.refl _ _)).mono ?_
  rintro e w1 ⟨A1, c1, rfl, hs1, hB1⟩
  replace hs1 := hs1.resolve_right (by omega)
  have hA' := hA1.below hB1
  have hst := hs1.take (show n ≤ n + 4 by omega)
  rw [show (putN b).take n = b from by have := hA.len; subst this; simp [putN]] at hst
  have hcap := hst.cap
  have d1 : decide (b = b) = true := by simp
  go_wp2_with fail
  refine (same_b hst hA' (Below.refl _ _)).mono ?_
  rintro e w2 ⟨rfl, rfl⟩
  go_wp2_with fail
  refine (take_b hs1 (hr1.below hB1) (Below.refl _ _)).mono ?_
  rintro e w3 ⟨A2, c2, rfl, hs2, hB2⟩
  rw [take_put] at hs2 ⊢
  simp only [Option.getD_some, Option.isSome_some] at hs2 ⊢
  rw [hA.len] at hs2 ⊢
  have hB3 := bTr hB1 hB2
  go_wp2_with fail
  refine (same_b hs2 (hA1.below hB3) (Below.refl _ _)).mono ?_
  rintro e w4 ⟨rfl, rfl⟩
  have hown0 := World.ownsRow_lit (base := wb.heap.size) (e := 5) (size := 1) w4 #[] 0 hB3.size (by simp [maxLen]) rfl
  have hB4 : Below wb.heap.size wb (w4.alloc (.cells #[] 5)) := hB3.alloc hB3.size _
  have hs1' := ((hs1.below hB2).below ((Below.refl w4.heap.size w4).alloc (Nat.le_refl _) (.cells #[] 5))).rd
  have hpl : (putN b).length = n + 4 := by rw [putN_length, hA.len]
  go_wp2_with (at_builtin; refine list_append_rd (news := bvs (putN b)) rfl (.tmp 55) (.tmp 56) rfl elemB rfl hown0 rfl (by rw [bvs_length]; omega) hs1' (bvs_one _) (by unfold maxLen; omega) (by omega) hB4.size ?_; intro v6 w6 hown6 hg6 _; have hown6' : w6.ownsRow wb.heap.size 5 1 v6 (n + 4) (bvs (putN b)) := (by simpa using hown6); obtain ⟨g, cg, rfl, hg1, hg2, hg3, hg4⟩ := own_pos hown6' (by omega))
  have hB6 := bGrow hB4 hg6 hB4.size hown0
  clear hown6 hg6 hown0 hs1' hs2 hst hs1 hA' hB1 hB2 hB3 hB4
  obtain ⟨at2, hat2, hatn⟩ : ∃ k : Nat, (wrap64 (wrap64 (at_.tmod (↑n + 1) + ↑n) + 1)).tmod (↑n + 1) = (k : Int) ∧ k ≤ n := by
    have t1 := tmod_in at_ (n + 1) (by omega)
    generalize at_.tmod (↑n + 1) = r at *
    have e1 : wrap64 (wrap64 (r + n) + 1) = r + n + 1 := by unfold wrap64; omega
    rw [e1]
    have t2 := tmod_in (r + n + 1) (n + 1) (by omega)
    have t3 : 0 ≤ (r + n + 1).tmod (n + 1) := Int.tmod_nonneg _ (by omega)
    exact ⟨((r + n + 1).tmod (n + 1)).toNat, by omega, by omega⟩
  rw [hat2]
  go_loopw [11] (fun i wr => ∃ k : Nat, k ≤ 4 ∧ i = .int .i64 k ∧ wr.ownsRow wb.heap.size 5 1 (.slice (some ⟨g, 0, none⟩) (n + 4) cg) (n + 4) (bvs (patch (putN b) at2 [x, y, z, u] k)) ∧ Below wb.heap.size wb wr) (fun i _ => 4 - (intOf i).toNat)
  case atStart => exact ⟨0, by omega, rfl, hown6', hB6⟩
  case round =>
    obtain ⟨k, hk, rfl, hrow, hBk⟩ := hrel
    by_cases hk4 : k < 4
    · have hp := patch_at (putN b) at2 [x, y, z, u] k (by omega)
      obtain ⟨c0, hc0⟩ : ∃ c0, c0 = (patch (putN b) at2 [x, y, z, u] k).getD (at2 + k) 0 := ⟨_, rfl⟩
      obtain ⟨y0, hy0⟩ : ∃ y0, y0 = [x, y, z, u].getD k 0 := ⟨_, rfl⟩
      rw [← hc0] at hp
      have hd := hrow.cellAt (at2 + k) (by omega)
      rw [hp] at hd
      have hfz := hrow.frozenAt (at2 + k)
      have hy1 : ([.int .u8 (x.toNat : Nat), .int .u8 (y.toNat : Nat), .int .u8 (z.toNat : Nat), .int .u8 (u.toNat : Nat)] : List Value)[k]? = some (bv y0) := by
        rw [hy0]
        match k, hk4 with
        | 0, _ => rfl
        | 1, _ => rfl
        | 2, _ => rfl
        | 3, _ => rfl
      obtain ⟨gb, ob, eb, hb, hcb⟩ := (HB.out.below hBk).at_ hy1
      simp only [Option.some.injEq, Addr.mk.injEq, and_true] at eb
      obtain ⟨rfl, rfl⟩ := eb
      rw [Nat.zero_add] at hcb
      have hset := hrow.stored (at2 + k) (bv (c0 ^^^ y0))
      rw [← bvs_set] at hset
      have hpk : patch (putN b) at2 [x, y, z, u] (k + 1) = (patch (putN b) at2 [x, y, z, u] k).set (at2 + k) (c0 ^^^ y0) := by rw [hc0, hy0]; rfl
      rw [← hpk] at hset
      have hb2 : bv (c0 ^^^ y0) = .int .u8 ((c0.toNat ^^^ y0.toNat : Nat) : Int) := by simp [bv, UInt8.toNat_xor]
      rw [hb2] at hset
      have HS := Lib.hid hset
      have e1 := u8_xor_nat c0.toNat y0.toNat c0.toNat_lt y0.toNat_lt
      clear hc0 hy0 hp hy1 hset hpk hb2
      simp only [bv] at hd hcb
      go_wp2
      go_region
      all_goals (go_wp2; go_roundw)
      case rel => exact ⟨k + 1, by omega, by go_num, own_drew HS.out.1, (hBk.setCell hg1 _).drew⟩
      case measure => simp [intOf]; omega
    · obtain rfl : k = 4 := by omega
      have hs3 : Sl wr (some ⟨g, 0, none⟩) (n + 4) cg (patch (putN b) at2 [x, y, z, u] 4) := ⟨Rd.of_own hrow, by rw [patch_length, hpl], by omega, hg3, hg4⟩
      have hno := patch_take b at2 (by rw [hA.len]; exact hatn) x y z u hne
      clear hrow hB6 hown6'
      go_wp2_with fail
      refine (take_b hs3 (hr1.below hBk) (Below.refl _ _)).mono ?_
      rintro e w7 ⟨A7, c7, rfl, hs7, hB7⟩
      rw [hno] at hs7 ⊢
      simp only [Option.getD_none, Option.isSome_none, List.length_nil] at hs7 ⊢
      clear hs7 hs3 hno
      have hB7' := bTr hBk hB7
      by_cases h4 : n < 4
      · have d4 : decide ((n : Int) < 4) = true := by simp; omega
        go_wp2_with fail
        refine (wakes_any _ (hr1.below hB7')).mono ?_
        rintro e w8 ⟨rfl, hB8⟩
        go_wp2
        go_returns
        exact ⟨rfl, bTr hb1 (bTr hB7' hB8)⟩
      · have d4 : decide ((n : Int) < 4) = false := by simp; omega
        have hrow0 := World.ownsRow_lit (base := wb.heap.size) (e := 5) (size := 1) w7 #[] 0 hB7'.size (by simp [maxLen]) rfl
        have hB8 : Below wb.heap.size wb (w7.alloc (.cells #[] 5)) := hB7'.alloc hB7'.size _
        have hs1' := (hA1.below hB8).rd
        have hbl := hA.len
        go_wp2_with (at_builtin; refine list_append_rd (news := bvs b) rfl (.tmp 106) (.tmp 107) rfl elemB rfl hrow0 rfl (by rw [bvs_length]; omega) hs1' (bvs_one _) (by unfold maxLen; omega) (by omega) hB8.size ?_; intro v6 w8 hown8 hg8 _; have hown8' : w8.ownsRow wb.heap.size 5 1 v6 n (bvs b) := (by simpa using hown8); obtain ⟨g', cg', rfl, hg1', hg2', hg3', hg4'⟩ := own_pos hown8' (by omega))
        have hB8' := bGrow hB8 hg8 hB8.size hrow0
        clear hown8 hg8 hrow0 hs1' hB8 hB7'
        obtain ⟨at3, hat3, hatn3⟩ : ∃ k : Nat, ((at2 : Int) % ((n : Int) - 3)) = (k : Int) ∧ k + 4 ≤ n := by
          have t2 := Int.emod_lt_of_pos (at2 : Int) (show 0 < (n : Int) - 3 by omega)
          have t3 := Int.emod_nonneg (at2 : Int) (show (n : Int) - 3 ≠ 0 by omega)
          exact ⟨((at2 : Int) % ((n : Int) - 3)).toNat, by omega, by omega⟩
        rw [hat3]
        go_loopw [15] (fun i wr => ∃ k : Nat, k ≤ 4 ∧ i = .int .i64 k ∧ wr.ownsRow wb.heap.size 5 1 (.slice (some ⟨g', 0, none⟩) n cg') n (bvs (patch b at3 [x, y, z, u] k)) ∧ Below wb.heap.size wb wr) (fun i _ => 4 - (intOf i).toNat)
        case atStart => exact ⟨0, by omega, rfl, hown8', hB8'⟩
        case round =>
          obtain ⟨k, hk, rfl, hrow, hBj⟩ := hrel
          by_cases hk4 : k < 4
          · skip
            have hp := patch_at b at3 [x, y, z, u] k (by omega)
            obtain ⟨c0, hc0⟩ : ∃ c0, c0 = (patch b at3 [x, y, z, u] k).getD (at3 + k) 0 := ⟨_, rfl⟩
            obtain ⟨y0, hy0⟩ : ∃ y0, y0 = [x, y, z, u].getD k 0 := ⟨_, rfl⟩
            rw [← hc0] at hp
            have hd := hrow.cellAt (at3 + k) (by omega)
            rw [hp] at hd
            have hfz := hrow.frozenAt (at3 + k)
            have hy1 : ([.int .u8 (x.toNat : Nat), .int .u8 (y.toNat : Nat), .int .u8 (z.toNat : Nat), .int .u8 (u.toNat : Nat)] : List Value)[k]? = some (bv y0) := by
              rw [hy0]
              match k, hk4 with
              | 0, _ => rfl
              | 1, _ => rfl
              | 2, _ => rfl
              | 3, _ => rfl
            obtain ⟨gb, ob, eb, hb, hcb⟩ := (HB.out.below hBj).at_ hy1
            simp only [Option.some.injEq, Addr.mk.injEq, and_true] at eb
            obtain ⟨rfl, rfl⟩ := eb
            rw [Nat.zero_add] at hcb
            have hset := hrow.stored (at3 + k) (bv (c0 ^^^ y0))
            rw [← bvs_set] at hset
            have hpk : patch b at3 [x, y, z, u] (k + 1) = (patch b at3 [x, y, z, u] k).set (at3 + k) (c0 ^^^ y0) := by rw [hc0, hy0]; rfl
            rw [← hpk] at hset
            have hb2 : bv (c0 ^^^ y0) = .int .u8 ((c0.toNat ^^^ y0.toNat : Nat) : Int) := by simp [bv, UInt8.toNat_xor]
            rw [hb2] at hset
            have HS := Lib.hid hset
            have e1 := u8_xor_nat c0.toNat y0.toNat c0.toNat_lt y0.toNat_lt
            clear hc0 hy0 hp hy1 hset hpk hb2
            simp only [bv] at hd hcb
            go_wp2
            go_region
            all_goals (go_wp2; go_roundw)
            case rel => exact ⟨k + 1, by omega, by go_num, own_drew HS.out.1, (hBj.setCell hg1' _).drew⟩
            case measure => simp [intOf]; omega
          · obtain rfl : k = 4 := by omega
            have hs3 : Sl _ (some ⟨g', 0, none⟩) n cg' (patch b at3 [x, y, z, u] 4) := ⟨Rd.of_own hrow, by rw [patch_length]; exact hA.len, by omega, hg3', hg4'⟩
            have hne2 := patch_sum b at3 (by rw [hA.len]; exact hatn3) x y z u hne
            have d5 : (((nextN 0 (patch b at3 [x, y, z, u] 4) : Nat) : Int) != ((nextN 0 b : Nat) : Int)) = true := by simp; omega
            have hrz := hr1.below hBj
            have hAz := hA1.below hBj
            clear hrow hB8' hown8' hne2
            go_wp2_with fail
            refine (sum1_b hs3 hrz (Below.refl _ _)).mono ?_
            rintro e w9 ⟨rfl, hB9⟩
            go_wp2_with fail
            refine (sum1_b hAz hrz hB9).mono ?_
            rintro e w10 ⟨rfl, hB10⟩
            go_wp2_with fail
            refine (wakes_any _ (hrz.below hB10)).mono ?_
            rintro e w11 ⟨rfl, hB11⟩
            go_wp2
            go_returns
            exact ⟨rfl, bTr hb1 (bTr hBj (bTr hB10 hB11))⟩

theorem lawBurst_all (A : Option Addr) (c : Nat) (b : List UInt8) (at_ : Int) (x y z u : UInt8) (w : World) (hA : Rd w A (bvs b)) (lA : b.length ≤ c) (mA : c ≤ maxLen) (hr : RowsOK w) :
    Calls Tryd.prog 4 #[.slice A b.length c, .int .i64 at_, .agg #[bv x, bv y, bv z, bv u]] w fun e w' => e = .returned (.bool true) ∧ Below w.heap.size w w' := by
  by_cases hb : 400 < b.length ∨ (x = 0 ∧ y = 0 ∧ z = 0 ∧ u = 0)
  · exact lawBurst_big A b.length c at_ x y z u hb w hr
  · have hb := not_or.1 hb
    exact lawBurst_any A b.length c b at_ x y z u hb.2 (by omega) w ⟨hA, rfl, by omega, lA, mA⟩ hr
end Go.Proofs.YtdhgiflmimonlaaDoor
