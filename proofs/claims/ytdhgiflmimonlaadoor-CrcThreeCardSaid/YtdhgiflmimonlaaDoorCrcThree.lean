/- The walk of CrcThree. -/
import Derived.Test.YtdhgiflmimonlaaDoorCrcWi
import Derived.Test.YtdhgiflmimonlaaDoorCrcPl2
import Derived.Deep.OwnRows
namespace Go.Proofs.YtdhgiflmimonlaaDoor
open Go Go.RowKit

theorem rowIs_rd {w : World} {b : Nat} {t : TypeId} {n : Nat} {f : Nat → Value} {xs : List Value} (h : w.rowIs b t n f) (hl : xs.length = n) (hf : ∀ j u, xs[j]? = some u → f j = u) : Rd w (some ⟨b, 0, none⟩) xs := fun j u hj => by
  refine ⟨b, 0, rfl, h.lt, ?_⟩
  have hj' : j < n := by rw [← hl]; exact (List.getElem?_eq_some_iff.1 hj).1
  rw [Nat.zero_add, h.cell hj', hf j u hj]

theorem xor3_at : ∀ (a b c : List UInt8) (j : Nat) (x y z : UInt8), a[j]? = some x → b[j]? = some y → c[j]? = some z → (xor3 a b c)[j]? = some (x ^^^ y ^^^ z)
  | a :: a', b :: bs, c :: cs, 0, x, y, z, h1, h2, h3 => by simp at h1 h2 h3; subst h1; subst h2; subst h3; simp [xor3]
  | a :: a', b :: bs, c :: cs, j + 1, x, y, z, h1, h2, h3 => by
    simp only [List.getElem?_cons_succ] at h1 h2 h3
    simp only [xor3, List.getElem?_cons_succ]
    exact xor3_at a' bs cs j x y z h1 h2 h3
  | [], _, _, _, _, _, _, h1, _, _ => by simp at h1
  | a :: a', [], _, _, _, _, _, _, h2, _ => by simp at h2
  | a :: a', b :: bs, [], _, _, _, _, _, _, h3 => by simp at h3
theorem xor3_length (a b c : List UInt8) (h1 : b.length = a.length) (h2 : c.length = a.length) : (xor3 a b c).length = a.length := by
  induction a generalizing b c with
  | nil => simp [xor3]
  | cons x xs ih =>
    match b, c, h1, h2 with
    | y :: ys, z :: zs, h1, h2 => simp only [xor3, List.length_cons]; rw [ih ys zs (by simpa using h1) (by simpa using h2)]
/-- What lies in the new row behind k rounds. -/
def mixed (l : List UInt8) (k j : Nat) : Value := if j < k then bv (l.getD j 0) else .int .u8 0
theorem mixed_step (l : List UInt8) (k : Nat) (u : UInt8) (h : l[k]? = some u) : (fun j => if j = k then bv u else mixed l k j) = mixed l (k + 1) := by
  funext j
  unfold mixed
  by_cases e : j = k
  · subst e; simp [List.getD, h]
  · rw [if_neg e]
    by_cases e2 : j < k
    · rw [if_pos e2, if_pos (by omega)]
    · rw [if_neg e2, if_neg (by omega)]

set_option maxRecDepth 100000 in
set_option maxHeartbeats 2000000 in
theorem lawThree_big (A B C : Option Addr) (n m k ca cb cc : Nat) (s t h j : Nat) (hb : 400 < n ∨ m ≠ n ∨ k ≠ n) (w : World) (hr : RowsOK w) :
    Calls Tryd.prog 6 #[.slice A n ca, .slice B m cb, .slice C k cc, .int .u32 s, .int .u32 t, .int .u8 h, .int .u8 j] w fun e w' => e = .returned (.bool true) ∧ Below w.heap.size w w' := by
  by_cases h1 : 400 < n
  · go_enter Tryd.func6, Tryd.ntmps6
    go_wp2_with fail
    refine (wakes_any _ hr).mono ?_; rintro e w1 ⟨rfl, hB1⟩; go_wp2; go_returns; exact ⟨rfl, hB1⟩
  · by_cases h2 : m = n
    · have h3 : k ≠ n := by omega
      have g3 : ((k : Int) != (n : Int)) = true := by simp; omega
      subst h2
      go_enter Tryd.func6, Tryd.ntmps6
      go_wp2_with fail
      refine (wakes_any _ hr).mono ?_; rintro e w1 ⟨rfl, hB1⟩; go_wp2; go_returns; exact ⟨rfl, hB1⟩
    · have g2 : ((m : Int) != (n : Int)) = true := by simp; omega
      go_enter Tryd.func6, Tryd.ntmps6
      go_wp2_with fail
      refine (wakes_any _ hr).mono ?_; rintro e w1 ⟨rfl, hB1⟩; go_wp2; go_returns; exact ⟨rfl, hB1⟩

set_option maxRecDepth 100000 in
set_option maxHeartbeats 2000000 in
theorem lawThree_any (A B C : Option Addr) (a b c : List UInt8) (n ca cb cc : Nat) (s t h j : Nat) (hs : s < 4294967296) (ht : t < 4294967296) (hh : h < 256) (hj : j < 256) (hn : n ≤ 400) (w : World) (hA : Sl w A n ca a) (hB : Sl w B n cb b) (hC : Sl w C n cc c) (hr : RowsOK w) :
    Calls Tryd.prog 6 #[.slice A n ca, .slice B n cb, .slice C n cc, .int .u32 s, .int .u32 t, .int .u8 h, .int .u8 j] w fun e w' => e = .returned (.bool true) ∧ Below w.heap.size w w' := by
  have hla := hA.len
  have hlb := hB.len
  have hlc := hC.len
  have hx := xor3_length a b c (by omega) (by omega)
  have hmk := run_make_row' (P := Tryd.prog) 25 5 (.int .u8 0) 1 Tryd.underlying25 (by kernel_rfl) rfl .i64 .i64 n (by omega) (by omega)
  go_enter Tryd.func6, Tryd.ntmps6
  go_wp2_with fail
  clear hmk
  obtain ⟨m, hm⟩ : ∃ m, m = w.heap.size := ⟨_, rfl⟩
  have hrow0 : (w.alloc (.cells (madeCells #[.int .u8 0] n) 5)).rowIs m 5 n (mixed (xor3 a b c) 0) := by
    rw [hm]
    exact (World.rowIs_made w (.int .u8 0) n 5).congr (fun i _ => by simp [mixed])
  have hB0 : Below w.heap.size w (w.alloc (.cells (madeCells #[.int .u8 0] n) 5)) := (Below.refl _ _).alloc (Nat.le_refl _) _
  subst hm
  go_loopw [17] (fun i wr => ∃ k : Nat, k ≤ n ∧ i = .int .i64 k ∧ wr.rowIs w.heap.size 5 n (mixed (xor3 a b c) k) ∧ Below w.heap.size w wr) (fun i _ => n - (intOf i).toNat)
  case atStart => exact ⟨0, by omega, rfl, hrow0, hB0⟩
  case round =>
    obtain ⟨k, hk, rfl, hrow, hBk⟩ := hrel
    by_cases hk4 : k < n
    · obtain ⟨ba, oa, xa, rfl, hba, hca, hxa, hla'⟩ := (hA.below hBk).rd.byte (k := k) (by omega)
      obtain ⟨bb, ob, xb, rfl, hbb, hcb, hxb, hlb'⟩ := (hB.below hBk).rd.byte (k := k) (by omega)
      obtain ⟨bc, oc, xc, rfl, hbc, hcc, hxc, hlc'⟩ := (hC.below hBk).rd.byte (k := k) (by omega)
      have hat := xor3_at a b c k xa xb xc hla' hlb' hlc'
      have hd := hrow.cell hk4
      have hfz := hrow.frozen k
      have e1 := u8_xor_nat xa.toNat xb.toNat hxa hxb
      have e2 := u8_xor_nat (xa.toNat ^^^ xb.toNat) xc.toNat (Nat.xor_lt_two_pow (n := 8) hxa hxb) hxc
      have hset := Lib.hid (hrow.set k (bv (xa ^^^ xb ^^^ xc)))
      rw [mixed_step _ k _ hat] at hset
      have hb2 : bv (xa ^^^ xb ^^^ xc) = .int .u8 ((xa.toNat ^^^ xb.toNat ^^^ xc.toNat : Nat) : Int) := by simp [bv, UInt8.toNat_xor]
      rw [hb2] at hset
      have hmw : w.heap.size < wr.heap.size := hrow.lt
      go_wp2
      go_region
      all_goals (go_wp2; go_roundw)
      case rel => exact ⟨k + 1, by omega, by go_num, hset.out.drew, (hBk.setCell (by simp) _).drew⟩
      case measure => simp [intOf]; omega
    · obtain rfl : k = n := by omega
      have hD : Sl wr (some ⟨w.heap.size, 0, none⟩) k k (xor3 a b c) := by
        refine ⟨rowIs_rd hrow (by rw [bvs_length]; omega) fun i u hu => ?_, by omega, by omega, by omega, by unfold maxLen; omega⟩
        simp only [bvs, List.getElem?_map, Option.map_eq_some_iff] at hu
        obtain ⟨c', hc', rfl⟩ := hu
        have hi : i < (xor3 a b c).length := (List.getElem?_eq_some_iff.1 hc').1
        unfold mixed
        rw [if_pos (by omega)]
        simp [List.getD, hc']
      have hA' := hA.below hBk
      have hB' := hB.below hBk
      have hC' := hC.below hBk
      have hrr := hr.below hBk
      clear hA hB hC hr hrow hB0
      have N1 := Lib.hid (nextN_xor3 a b c (by omega) (by omega))
      have N2 := Lib.hid (stepN_xor s t h j)
      clear hx hla hlb hlc
      have la := nextN_lt 0 a
      have lb := nextN_lt 0 b
      have lc := nextN_lt 0 c
      have ls := stepN_lt s h hs
      have lt := stepN_lt t j ht
      have lab := Nat.xor_lt_two_pow (n := 32) la lb
      have x1 := u32_xor_nat _ _ la lb
      have x2 := u32_xor_nat _ _ lab lc
      have x3 := u32_xor_nat _ _ hs ht
      have x4 := u8_xor_nat _ _ hh hj
      have x5 := u32_xor_nat _ _ ls lt
      go_wp2_with fail
      refine (sum1_b hD hrr (Below.refl _ _)).mono ?_
      rintro e w1 ⟨rfl, hB1⟩
      rw [N1.out]
      go_wp2_with fail
      refine (sum1_b hA' hrr hB1).mono ?_
      rintro e w2 ⟨rfl, hB2⟩
      go_wp2_with fail
      refine (sum1_b hB' hrr hB2).mono ?_
      rintro e w3 ⟨rfl, hB3⟩
      go_wp2_with fail
      refine (sum1_b hC' hrr hB3).mono ?_
      rintro e w4 ⟨rfl, hB4⟩
      have hr4 := hrr.below hB4
      go_wp2_with fail
      refine (step_any _ _ (Nat.xor_lt_two_pow (n := 32) hs ht) (Nat.xor_lt_two_pow (n := 8) hh hj) _ hr4).mono ?_
      rintro e w5 ⟨rfl, rfl⟩
      rw [N2.out]
      go_wp2_with fail
      refine (step_any _ _ hs hh _ hr4).mono ?_
      rintro e w6 ⟨rfl, rfl⟩
      go_wp2_with fail
      refine (step_any _ _ ht hj _ hr4).mono ?_
      rintro e w7 ⟨rfl, rfl⟩
      go_wp2_with fail
      refine (wakes_any _ hr4).mono ?_
      rintro e w8 ⟨rfl, hB8⟩
      go_wp2
      go_returns
      exact ⟨rfl, bTr hBk (bTr hB4 hB8)⟩
theorem lawThree_all (A B C : Option Addr) (a b c : List UInt8) (ca cb cc : Nat) (s t h j : Nat) (hs : s < 4294967296) (ht : t < 4294967296) (hh : h < 256) (hj : j < 256) (w : World)
    (hA : Rd w A (bvs a)) (lA : a.length ≤ ca) (mA : ca ≤ maxLen) (hB : Rd w B (bvs b)) (lB : b.length ≤ cb) (mB : cb ≤ maxLen) (hC : Rd w C (bvs c)) (lC : c.length ≤ cc) (mC : cc ≤ maxLen) (hr : RowsOK w) :
    Calls Tryd.prog 6 #[.slice A a.length ca, .slice B b.length cb, .slice C c.length cc, .int .u32 s, .int .u32 t, .int .u8 h, .int .u8 j] w fun e w' => e = .returned (.bool true) ∧ Below w.heap.size w w' := by
  by_cases hb : 400 < a.length ∨ b.length ≠ a.length ∨ c.length ≠ a.length
  · exact lawThree_big A B C a.length b.length c.length ca cb cc s t h j hb w hr
  · have h1 : b.length = a.length := by omega
    have h2 : c.length = a.length := by omega
    rw [h1, h2]
    exact lawThree_any A B C a b c a.length ca cb cc s t h j hs ht hh hj (by omega) w ⟨hA, rfl, by omega, lA, mA⟩ ⟨hB, h1, by omega, by omega, mB⟩ ⟨hC, h2, by omega, by omega, mC⟩ hr
end Go.Proofs.YtdhgiflmimonlaaDoor
