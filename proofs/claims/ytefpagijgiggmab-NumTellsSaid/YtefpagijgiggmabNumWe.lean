/- The walks of numbers: a number's short bytes, put behind others. -/
import Derived.Test.YtefpagijgiggmabNumWd
namespace Go.Proofs.Ytefpagijgiggmab
open Go Go.RowKit Go.Shelf
attribute [local go_sem] Oper.semAt_some

theorem or128 (y : Nat) (h : y < 128) : bits BinOp.or IntKind.u8 (y : Int) 128 = ((y + 128 : Nat) : Int) :=
  (show ∀ y : Nat, y < 128 → bits BinOp.or IntKind.u8 (y : Int) 128 = ((y + 128 : Nat) : Int) by decide +kernel) y h
theorem and127 (y : Nat) (h : y < 128) : bits BinOp.and IntKind.u8 ((y + 128 : Nat) : Int) 127 = (y : Int) :=
  (show ∀ y : Nat, y < 128 → bits BinOp.and IntKind.u8 ((y + 128 : Nat) : Int) 127 = (y : Int) by decide +kernel) y h
theorem digs_last (B k n : Nat) : (digs B k n)[k]? = some (n % B) := by
  have := digs_at B k n k (Nat.le_refl _)
  simpa using this
theorem marked_eq (k n : Nat) : marked (digs 128 k n) = ((digs 128 k n).map (· + 128)).set k (n % 128) := by
  induction k with
  | zero => rfl
  | succ k ih =>
    have h : digs 128 (k + 1) n = n / 128 ^ (k + 1) % 128 :: digs 128 k n := rfl
    rw [h]
    cases hd : digs 128 k n with
    | nil => have := digs_length 128 k n; rw [hd] at this; simp at this
    | cons e l =>
      rw [hd] at ih
      show (n / 128 ^ (k + 1) % 128 + 128) :: marked (e :: l) = _
      rw [ih]; rfl

theorem set_short (l : List UInt8) (xs : List Nat) (K z : Nat) (h : z < 128) : (bvs (l ++ toB xs)).set (l.length + K) (.int .u8 (z : Int)) = bvs (l ++ toB (xs.set K z)) := by
  rw [← toB_bv z (by omega)]
  have h1 : (l ++ toB xs).set (l.length + K) (UInt8.ofNat z) = l ++ toB (xs.set K z) := by
    rw [List.set_append_right _ _ (by omega), Nat.add_sub_cancel_left]; simp [toB, List.map_set]
  rw [← h1]; simp [bvs, List.map_set]

set_option maxHeartbeats 4000000 in
theorem shortOne_any (n : Nat) (hn : n ≤ 1073741824) (B : Nat) (v : Value) (l : List UInt8) (hl : l.length ≤ 1099511627000) (w : World) (hBw : B ≤ w.heap.size) (hown : w.ownsRow B 5 1 v l.length (bvs l)) :
    Calls Try.prog 26 #[v, .int .i64 n] w fun e w' => ∃ v', e = .returned v' ∧ w'.ownsRow B 5 1 v' (l.length + (topK n + 1)) (bvs (l ++ short1 n)) ∧ Below B w w' := by
  have hK4 := topK_le n
  have Hm := Lib.hid (show short1 n = toB (((digs 128 (topK n) n).map (· + 128)).set (topK n) (n % 128)) from by rw [short1, marked_eq])
  have Hlast := Lib.hid (digs_last 128 (topK n) n)
  have hiter := Lib.hid (short1_iter n)
  obtain ⟨ds, hds⟩ : ∃ ds, ds = digs 128 (topK n) n := ⟨_, rfl⟩
  have hdl : ds.length = topK n + 1 := by rw [hds, digs_length]
  have hdlt : ∀ d ∈ ds, d < 128 := by rw [hds]; exact digs_lt 128 _ n (by omega)
  rw [← hds] at Hm Hlast hiter
  clear hds
  obtain ⟨K, hKe⟩ : ∃ K, K = topK n := ⟨_, rfl⟩
  rw [← hKe] at hK4 Hm Hlast hdl ⊢
  clear hKe
  have hlt0 : ∀ g, v.ownBlock = some g → g < w.heap.size := fun g hg => (hown.lt g hg).2
  obtain ⟨cum, hc0, hcs, hcl⟩ : ∃ cum : Nat → List UInt8, cum 0 = [] ∧ Hid (∀ (k y : Nat), ds[k]? = some y → cum (k + 1) = cum k ++ [UInt8.ofNat (y + 128)]) ∧ Hid (cum (K + 1) = toB (ds.map (· + 128))) :=
    ⟨fun k => toB ((ds.take k).map (· + 128)), rfl, Lib.hid (fun k y hy => by show toB ((ds.take (k + 1)).map (· + 128)) = toB ((ds.take k).map (· + 128)) ++ _; rw [List.take_add_one, hy]; simp [toB]), Lib.hid (by show toB ((ds.take (K + 1)).map (· + 128)) = _; rw [List.take_of_length_le (by omega)])⟩
  obtain ⟨Av, cv, rfl, hlc, hcm⟩ := own_slice hown
  have hb0 := Box.new w (.slice Av l.length cv) 23
  have hown0 := hown.alloc (.cells #[.slice Av l.length cv] 23)
  have hB0 : Below w.heap.size w (w.alloc (.cells #[.slice Av l.length cv] 23)) := (Below.refl _ _).alloc (Nat.le_refl _) _
  have hs0 : (w.alloc (.cells #[.slice Av l.length cv] 23)).heap.size = w.heap.size + 1 := by simp
  refine (callsIn_wide (n := 9)).1 (callsIn_of_wp_marks Try.func26 rfl trivial ?_ rfl)
  simp only [Try.ntmps26, List.size_toArray, List.length_cons, List.length_nil, Nat.reduceAdd, Nat.reduceSub, Array.replicate_succ, Array.replicate_zero, List.push_toArray, List.append_toArray, List.nil_append, List.cons_append]
  gi_wp2_with fail
  generalize w.alloc (.cells #[.slice Av l.length cv] 23) = W0 at *
  refine ⟨trivial, ?_⟩
  refine (callsIn_wide.2 (digits_any (n : Int) 7 5 true _)).mono ?_
  rintro e w' ⟨rfl, rfl⟩
  rw [hs0]
  have hN := Box.new W0 (.int .i64 n) 3
  have hD := Box.new ((W0.alloc (.cells #[.int .i64 n] 3)).alloc (.cells #[.int .i64 7] 3)) (.int .i64 5) 3
  have hE := Box.new (W0.alloc (.cells #[.int .i64 n] 3)) (.int .i64 7) 3
  have hF := Box.new (((W0.alloc (.cells #[.int .i64 n] 3)).alloc (.cells #[.int .i64 7] 3)).alloc (.cells #[.int .i64 5] 3)) (.bool true) 4
  replace hN := ((hN.alloc (.cells #[.int .i64 7] 3)).alloc (.cells #[.int .i64 5] 3)).alloc (.cells #[.bool true] 4)
  replace hE := (hE.alloc (.cells #[.int .i64 5] 3)).alloc (.cells #[.bool true] 4)
  replace hD := hD.alloc (.cells #[.bool true] 4)
  have hB1 : Below W0.heap.size W0 ((((W0.alloc (.cells #[.int .i64 n] 3)).alloc (.cells #[.int .i64 7] 3)).alloc (.cells #[.int .i64 5] 3)).alloc (.cells #[.bool true] 4)) :=
    ((((Below.refl _ _).alloc (Nat.le_refl _) _).alloc (by simp) _).alloc (by simp; omega) _).alloc (by simp; omega) _
  have hs1 : ((((W0.alloc (.cells #[.int .i64 n] 3)).alloc (.cells #[.int .i64 7] 3)).alloc (.cells #[.int .i64 5] 3)).alloc (.cells #[.bool true] 4)).heap.size = w.heap.size + 1 + 4 := by simp [hs0]
  simp only [World.size_alloc, hs0] at hN hE hD hF
  generalize (((W0.alloc (.cells #[.int .i64 n] 3)).alloc (.cells #[.int .i64 7] 3)).alloc (.cells #[.int .i64 5] 3)).alloc (.cells #[.bool true] 4) = W1 at *
  have hV := hb0.keep (keepT hB1) trivial
  have hown1 := ownsRow_keep' hown0 (keepT hB1)
  have hBB := bTr hB0 (hB1.mono (by omega))
  clear hb0 hown0 hB0 hB1
  gi_wp2
  refine range_law (n₀ := 0) (M := w.heap.size + 1) (xs := ds) (encs := fun d : Nat => #[.int .u8 d]) rfl (enters_of Try.func30 (by kernel_rfl) rfl)
    (hiter.out (w.heap.size + 1) hn W1 hs1 hN hE hD hF) (by omega) (by omega) (fun _ => rfl)
    (fun k W => (∃ v, Box W w.heap.size v ∧ W.ownsRow B 5 1 v (l.length + k) (bvs (l ++ cum k)) ∧ Off v w.heap.size (w.heap.size + 7)) ∧ Below B w W ∧ w.heap.size ≤ W.heap.size) (fun _ _ => False)
    (fun k A B' h hk => ⟨h.1.imp fun v hv => ⟨hv.1.keep hk (by omega), ownsRow_keepO hv.2.1 hk (fun b hb => by have := hv.2.2 b hb; omega), hv.2.2⟩, below_keep h.2.1 hk (Nat.le_trans hBw h.2.2) (fun _ _ => by omega), Nat.le_trans h.2.2 hk.size⟩) (fun _ _ _ h _ => h) ⟨⟨_, hV, by simpa [hc0] using hown1, fun g hg => .inl (hlt0 g hg)⟩, hBB.mono hBw, by omega⟩ ?round ?done (fun _ _ h _ => h.elim)
  case round =>
    intro lr k y A1 hy hI hsz
    have hy5 := hdlt y (List.mem_of_getElem? hy)
    have hkl : k < K + 1 := by have := (List.getElem?_eq_some_iff.1 hy).1; rwa [hdl] at this
    have htk := hcs.out k y hy
    have eO : bits BinOp.or IntKind.u8 (y : Int) 128 = ((y + 128 : Nat) : Int) := or128 y hy5
    have hbz := toB_bv (y + 128) (by omega)
    generalize y + 128 = z at *
    have Hy := Lib.hid htk
    have Hb := Lib.hid hbz
    clear hbz
    clear htk hy hI
    gi_wp2
    refine ⟨KeepB.refl _ _, fun A2 hk2 hI2 => ?_⟩
    obtain ⟨⟨v, hV, hown, hoff⟩, hB, hzz⟩ := hI2
    have hz2 := hk2.size
    have hVl := hV.lt
    obtain ⟨cV, fV⟩ := hV
    have hA3 : Rd (A2.alloc (.cells #[.int .u8 (z : Int)] 5)) (some ⟨A2.heap.size, 0, none⟩) (bvs [UInt8.ofNat z]) := by
      have := Rd.new A2 [.int .u8 (z : Int)] 5
      rw [← Hb.out] at this ⊢
      exact this
    obtain ⟨Av, cv, rfl, _⟩ := own_slice hown
    gi_wp2_with (refine listIn_append_rd (news := bvs [UInt8.ofNat z]) rfl (.tmp 9) (.tmp 12) rfl elemB rfl (hown.alloc _) rfl rfl hA3 (bvs_one _) (by unfold maxLen; omega) (by omega) (by simp; omega) ?_; intro v' w' hown' hg hloc; obtain ⟨A', c', rfl, _⟩ := own_slice hown'; have hkb : KeepB (fun b => b = w.heap.size ∨ (w.heap.size + 1 ≤ b ∧ b < w.heap.size + 7)) A2 w' := ((KeepB.refl _ A2).alloc _).grown hg fun x hx _ hh => Off.out hoff hx hh; have hoff' := Off.loc hoff hloc (by simp; omega); have hB' := Below.grown (hB.alloc (Nat.le_trans hBw hzz) _) hg (Nat.le_trans hBw (by simp; omega)) (fun k hk => (hown.lt k hk).1); clear hloc hg; have cV' := hkb.cell (p := ⟨w.heap.size, 0, none⟩) (.inl rfl) cV; have fV' := (hkb.frozen (p := ⟨w.heap.size, 0, none⟩) hVl (.inl rfl)).trans fV)
    have hk3 : KeepB (fun b => b ≠ w.heap.size) w' (w'.setCell ⟨w.heap.size, 0, none⟩ (.slice A' (l.length + k + 1) c')) := (KeepB.refl _ _).setCell (by simp) _
    refine ⟨(hkb.sub fun _ _ _ => by omega).trans (hk3.sub fun _ _ _ => by omega), ⟨_, Box.set ⟨cV', fV'⟩ _, ?_, hoff'⟩, ?_, ?_⟩
    · rw [Hy.out, ← List.append_assoc, bvs_append]
      refine ownsRow_keepO hown' hk3 fun b hb => ?_
      have := hoff' b hb
      omega
    · exact below_keep hB' hk3 (by have := hkb.size; omega) (fun _ _ => by omega)
    · have := hkb.size; have := hk3.size; omega
  case done =>
    intro A1 hI hD
    rw [hdl] at hI
    obtain ⟨⟨v, ⟨cV, fV⟩, hown, hoff⟩, hB, hzz⟩ := hI
    obtain ⟨g, cap, rfl, hgB, hgl⟩ := hown.form (by omega)
    have hcel := hown.cellAt (l.length + K) (by omega)
    have hfr := hown.frozenAt (l.length + K)
    have hst := hown.stored (l.length + K)
    have hgo := hoff g rfl
    have hlst : (bvs (l ++ cum (K + 1)))[l.length + K]? = some (.int .u8 ((n % 128 + 128 : Nat) : Int)) := by
      rw [hcl.out]
      have h1 := Hlast.out
      have h2 := toB_bv (n % 128 + 128) (by omega)
      have h3 : (l ++ toB (ds.map (· + 128)))[l.length + K]? = some (UInt8.ofNat (n % 128 + 128)) := by
        rw [List.getElem?_append_right (by omega), Nat.add_sub_cancel_left]; simp [toB, h1]
      rw [bvs, List.getElem?_map, h3, Option.map_some, h2]
    rw [hlst] at hcel
    have Hst := Lib.hid hst
    have eA : bits BinOp.and IntKind.u8 (((n % 128 : Nat) : Int) + 128) 127 = ((n % 128 : Nat) : Int) := and127 (n % 128) (by omega)
    clear hst hlst
    have hz : n % 128 < 128 := Nat.mod_lt _ (by omega)
    rw [hcl.out] at Hst
    generalize n % 128 = z at *
    have e5 : (((l.length + (K + 1) : Nat) : Int) - 1).toNat = l.length + K := by omega
    rw [hs1] at hD
    gi_wp2
    obtain ⟨hrow, hgr⟩ := Hst.out (.int .u8 (z : Int))
    have hB2 := Below.grown hB hgr (Nat.le_trans hBw hzz) (fun k hk => by injection hk with hk; omega)
    have hkg : KeepB (fun b => b ≠ g) A1 (A1.setCell ⟨g, l.length + K, none⟩ (.int .u8 (z : Int))) := (KeepB.refl _ _).setCell (by simp) _
    have hD2 := hkg.heap (show w.heap.size + 1 + 4 ≠ g by omega) hD
    have hzk := hkg.size
    rw [set_short l (ds.map (· + 128)) K z hz, ← Hm.out] at hrow
    generalize A1.setCell ⟨g, l.length + K, none⟩ (.int .u8 (z : Int)) = W2 at *
    rw [hs1]
    refine ⟨by simp, .inl ⟨_, _, rfl, run_takeDeferred hD2, ?_⟩⟩
    have hk3 : KeepB (fun k => k ≠ w.heap.size + 1 + 4) W2 (W2.putObj (w.heap.size + 1 + 4) (Obj.deferred none)) := (KeepB.refl _ _).putObj _ _ (by simp)
    refine ⟨_, results_tmp rfl _ _ _, _, rfl, ?_, ?_⟩
    · exact ownsRow_keepO hrow hk3 fun b hb => by have := hoff b hb; omega
    · exact below_keep hB2 hk3 (by omega) (fun _ _ => by omega)
end Go.Proofs.Ytefpagijgiggmab
