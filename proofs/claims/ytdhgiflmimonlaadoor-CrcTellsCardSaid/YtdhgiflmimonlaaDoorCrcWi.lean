/- Contracts said of a world that has grown from one at which the arguments read so: for the laws' last tests. -/
import Derived.Test.YtdhgiflmimonlaaDoorCrcWh
namespace Go.Proofs.YtdhgiflmimonlaaDoor
open Go Go.RowKit

/-- A slice of bytes that reads as l, with what its length and capacity may be. -/
structure Sl (w : World) (A : Option Addr) (n c : Nat) (l : List UInt8) : Prop where
  rd : Rd w A (bvs l)
  len : l.length = n
  lim : n ≤ 1099511627770
  cap : n ≤ c
  mx : c ≤ maxLen

theorem Sl.isB {w : World} {A : Option Addr} {n c : Nat} {l : List UInt8} (h : Sl w A n c l) : IsB w (.slice A n c) l := by
  have := h.len
  subst this
  exact ⟨A, c, rfl, ⟨by have := h.lim; omega, h.cap, h.mx⟩, h.rd⟩
theorem Sl.below {w w' : World} {A : Option Addr} {n c : Nat} {l : List UInt8} (h : Sl w A n c l) (hb : Below w.heap.size w w') : Sl w' A n c l := ⟨h.rd.below hb, h.len, h.lim, h.cap, h.mx⟩
theorem Sl.take {w : World} {A : Option Addr} {n c : Nat} {l : List UInt8} (h : Sl w A n c l) {i : Nat} (hi : i ≤ n) : Sl w A i c (l.take i) :=
  ⟨by rw [bvs_take]; exact h.rd.take i, by rw [List.length_take, h.len]; omega, by have := h.lim; omega, by have := h.cap; omega, h.mx⟩
theorem Sl.drop {w : World} {A : Option Addr} {n c : Nat} {l : List UInt8} (h : Sl w A n c l) {i : Nat} (hi : i ≤ n) : Sl w (if c = i then A else A.map (·.add i)) (n - i) (c - i) (l.drop i) :=
  ⟨by rw [bvs_drop]; exact h.rd.cut (by rw [bvs_length, h.len]; exact h.cap), by rw [List.length_drop, h.len], by have := h.lim; omega, by have := h.cap; omega, by have := h.mx; omega⟩
theorem Sl.mid {w : World} {A : Option Addr} {n c : Nat} {l : List UInt8} (h : Sl w A n c l) {i k : Nat} (hi : i ≤ k) (hk : k ≤ n) : Sl w (if c = i then A else A.map (·.add i)) (k - i) (c - i) ((l.drop i).take (k - i)) :=
  (h.drop (by omega)).take (by omega)
theorem Sl.nil (w : World) : Sl w none 0 0 [] := ⟨Rd.nil _ _, rfl, by omega, by omega, by simp⟩

section
variable {w0 W : World} {A : Option Addr} {n c : Nat} {l : List UInt8}

theorem next_b (s : Nat) (hs : s < 4294967296) (h : Sl w0 A n c l) (hR : RowsOK w0) (hb : Below w0.heap.size w0 W) :
    Calls Tryd.prog 11 #[.int .u32 s, .slice A n c] W fun e w' => e = .returned (.int .u32 (nextN s l : Nat)) ∧ Below w0.heap.size w0 w' := by
  have := h.len
  subst this
  exact (next_any s hs A c l (by have := h.lim; omega) W (h.rd.below hb) (hR.below hb)).mono fun _ _ hh => ⟨hh.1, bTr hb hh.2⟩
theorem nextR_b (s : Nat) (hs : s < 4294967296) (h : Sl w0 A n c l) (hb : Below w0.heap.size w0 W) :
    Calls Tryd.prog 12 #[.int .u32 s, .slice A n c] W fun e w' => e = .returned (.int .u32 (nextN s l : Nat)) ∧ Below w0.heap.size w0 w' := by
  have := h.len
  subst this
  exact (nextR_any s hs A c l (by have := h.lim; unfold maxLen; omega) W (h.rd.below hb)).mono fun _ _ hh => ⟨hh.1, bTr hb hh.2⟩
/-- The sum of one row that has just been laid. -/
theorem sum1_b (h : Sl w0 A n c l) (hR : RowsOK w0) (hb : Below w0.heap.size w0 W) :
    Calls Tryd.prog 18 #[.slice (some ⟨W.heap.size, 0, none⟩) 1 1] (W.alloc (.cells #[.slice A n c] 25)) fun e w' => e = .returned (.int .u32 (nextN 0 l : Nat)) ∧ Below w0.heap.size w0 w' := by
  have := h.len
  subst this
  have hb1 : Below W.heap.size W (W.alloc (.cells #[.slice A l.length c] 25)) := (Below.refl _ _).alloc (Nat.le_refl _) _
  have hb2 := bTr hb hb1
  exact (sum_one _ 1 l _ (IsRows.one _ c ⟨by have := h.lim; omega, h.cap, h.mx⟩ (by simp) (by simp) (h.rd.below hb2)) (hR.below hb2)).mono fun _ _ hh => ⟨hh.1, bTr hb2 hh.2⟩
/-- The sum of three rows that have just been laid. -/
theorem sum3_b {B C : Option Addr} {m k d e : Nat} {l2 l3 : List UInt8} (h : Sl w0 A n c l) (h2 : Sl w0 B m d l2) (h3 : Sl w0 C k e l3) (hR : RowsOK w0) (hb : Below w0.heap.size w0 W) :
    Calls Tryd.prog 18 #[.slice (some ⟨W.heap.size, 0, none⟩) 3 3] (W.alloc (.cells #[.slice A n c, .slice B m d, .slice C k e] 25)) fun e w' => e = .returned (.int .u32 (sumN [l, l2, l3] : Nat)) ∧ Below w0.heap.size w0 w' := by
  have hb1 : Below W.heap.size W (W.alloc (.cells #[.slice A n c, .slice B m d, .slice C k e] 25)) := (Below.refl _ _).alloc (Nat.le_refl _) _
  have hb2 := bTr hb hb1
  refine (sum_any _ 3 [l, l2, l3] (by simp) _ ⟨_, rfl, Rd.new W [.slice A n c, .slice B m d, .slice C k e] 25, fun i v l' hv hl => ?_⟩ (hR.below hb2)).mono fun _ _ hh => ⟨hh.1, bTr hb2 hh.2⟩
  match i, hv, hl with
  | 0, hv, hl => simp at hv hl; subst hv; subst hl; exact (h.below hb2).isB
  | 1, hv, hl => simp at hv hl; subst hv; subst hl; exact (h2.below hb2).isB
  | 2, hv, hl => simp at hv hl; subst hv; subst hl; exact (h3.below hb2).isB
  | i + 3, hv, hl => simp at hv
theorem sum3_bd {B C : Option Addr} {m k d e : Nat} {l2 l3 : List UInt8} (h : Sl w0 A n c l) (h2 : Sl w0 B m d l2) (h3 : Sl w0 C k e l3) (hR : RowsOK w0) (hb : Below w0.heap.size w0 W) :
    Calls Tryd.prog 18 #[.slice (some ⟨W.heap.size, 0, none⟩) 3 3] (W.alloc (.cells #[.slice A n c, .slice B m d, .slice C k e] 25)).drew fun e w' => e = .returned (.int .u32 (sumN [l, l2, l3] : Nat)) ∧ Below w0.heap.size w0 w' :=
  sum3_b (W := W.drew) h h2 h3 hR hb.drew
theorem sum1_bd (h : Sl w0 A n c l) (hR : RowsOK w0) (hb : Below w0.heap.size w0 W) :
    Calls Tryd.prog 18 #[.slice (some ⟨W.heap.size, 0, none⟩) 1 1] (W.alloc (.cells #[.slice A n c] 25)).drew fun e w' => e = .returned (.int .u32 (nextN 0 l : Nat)) ∧ Below w0.heap.size w0 w' :=
  sum1_b (W := W.drew) h hR hb.drew
theorem put_b (h : Sl w0 A n c l) (hR : RowsOK w0) (hb : Below w0.heap.size w0 W) :
    Calls Tryd.prog 14 #[.slice A n c] W fun e w' => ∃ A' c', e = .returned (.slice A' (n + 4) c') ∧ (Sl w' A' (n + 4) c' (putN l) ∨ 1099511627766 < n) ∧ Below w0.heap.size w0 w' := by
  have := h.len
  subst this
  refine (put_any A c l h.lim h.cap h.mx W (h.rd.below hb) (hR.below hb)).mono ?_
  rintro e w' ⟨v, rfl, ho, hB⟩
  obtain ⟨A', c', rfl, h1, h2⟩ := own_sl ho
  refine ⟨A', c', rfl, ?_, bTr hb hB⟩
  rcases Nat.lt_or_ge 1099511627766 l.length with hh | hh
  · exact .inr hh
  · exact .inl ⟨Rd.of_own ho, putN_length l, by omega, h1, h2⟩
theorem wakes_b (hR : RowsOK w0) (hb : Below w0.heap.size w0 W) : Calls Tryd.prog 8 #[] W fun e w' => e = .returned (.bool true) ∧ Below w0.heap.size w0 w' :=
  (wakes_any W (hR.below hb)).mono fun _ _ hh => ⟨hh.1, bTr hb hh.2⟩
end
end Go.Proofs.YtdhgiflmimonlaaDoor
