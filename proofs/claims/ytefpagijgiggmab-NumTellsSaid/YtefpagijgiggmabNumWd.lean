/- The walks of numbers: a number's long bytes, put behind others. -/
import Derived.Test.YtefpagijgiggmabNumWc
namespace Go.Proofs.Ytefpagijgiggmab
open Go Go.RowKit Go.Shelf
attribute [local go_sem] Oper.semAt_some

theorem ownsRow_keepO {S : Nat → Prop} {w w' : World} {base : Nat} {e : TypeId} {size : Nat} {v : Value} {n : Nat} {xs : List Value} (h : w.ownsRow base e size v n xs) (hk : KeepB S w w') (hs : ∀ b, v.ownBlock = some b → S b) : w'.ownsRow base e size v n xs := by
  obtain ⟨hl, h2⟩ := h
  refine ⟨hl, ?_⟩
  rcases h2 with h2 | ⟨g, cap, cur, rfl, h3, h4, h5, h6, h7⟩
  · exact .inl h2
  · exact .inr ⟨g, cap, cur, rfl, h3, hk.heap (hs g rfl) h4, h5, h6, h7⟩
theorem keepT {w w' : World} (h : Below w.heap.size w w') : KeepB (fun _ => True) w w' := KeepB.of_below h (fun _ hk _ => hk)
theorem ownsRow_keep' {w w' : World} {base : Nat} {e : TypeId} {size : Nat} {v : Value} {n : Nat} {xs : List Value} (h : w.ownsRow base e size v n xs) (hk : KeepB (fun _ => True) w w') : w'.ownsRow base e size v n xs := ownsRow_keepO h hk (fun _ _ => trivial)
/-- The row's block is either below a or from b on. -/
def Off (v : Value) (a b : Nat) : Prop := ∀ g, v.ownBlock = some g → g < a ∨ b ≤ g
theorem Off.out {v : Value} {a : Nat} (h : Off v a (a + 7)) {x : Nat} (hx : v.ownBlock = some x) (hh : x = a ∨ (a + 1 ≤ x ∧ x < a + 7)) : False := by
  have := h x hx; omega
theorem Off.loc {v v' : Value} {a b s : Nat} (h : Off v a b) (hl : v'.ownBlock = v.ownBlock ∨ v'.ownBlock = some s) (hs : b ≤ s) : Off v' a b := fun g hg => by
  rcases hl with hl | hl
  · exact h g (hl.symm.trans hg)
  · obtain rfl : s = g := Option.some.inj (hl.symm.trans hg)
    exact .inr hs

theorem toB_bv (d : Nat) (h : d < 256) : bv (UInt8.ofNat d) = .int .u8 (d : Int) := by
  simp only [bv, UInt8.toNat_ofNat', Nat.reducePow]
  rw [Nat.mod_eq_of_lt h]

set_option maxHeartbeats 4000000 in
theorem longOne_any (n : Nat) (hn : n ≤ 1073741824) (B : Nat) (v : Value) (l : List UInt8) (hl : l.length ≤ 1099511627000) (w : World) (hBw : B ≤ w.heap.size) (hown : w.ownsRow B 5 1 v l.length (bvs l)) :
    Calls Try.prog 24 #[v, .int .i64 n] w fun e w' => ∃ v', e = .returned v' ∧ w'.ownsRow B 5 1 v' (l.length + 5) (bvs (l ++ long1 n)) ∧ Below B w w' := by
  have hlt0 : ∀ g, v.ownBlock = some g → g < w.heap.size := fun g hg => (hown.lt g hg).2
  obtain ⟨Av, cv, rfl, hlc, hcm⟩ := own_slice hown
  have hb0 := Box.new w (.slice Av l.length cv) 23
  have hown0 := hown.alloc (.cells #[.slice Av l.length cv] 23)
  have hB0 : Below w.heap.size w (w.alloc (.cells #[.slice Av l.length cv] 23)) := (Below.refl _ _).alloc (Nat.le_refl _) _
  have hs0 : (w.alloc (.cells #[.slice Av l.length cv] 23)).heap.size = w.heap.size + 1 := by simp
  refine (callsIn_wide (n := 9)).1 (callsIn_of_wp_marks Try.func24 rfl trivial ?_ rfl)
  simp only [Try.ntmps24, List.size_toArray, List.length_cons, List.length_nil, Nat.reduceAdd, Nat.reduceSub, Array.replicate_succ, Array.replicate_zero, List.push_toArray, List.append_toArray, List.nil_append, List.cons_append]
  gi_wp2_with fail
  generalize w.alloc (.cells #[.slice Av l.length cv] 23) = W0 at *
  refine ⟨trivial, ?_⟩
  refine (callsIn_wide.2 (digits_any (n : Int) 8 5 false _)).mono ?_
  rintro e w' ⟨rfl, rfl⟩
  rw [hs0]
  have hN := Box.new W0 (.int .i64 n) 3
  have hD := Box.new ((W0.alloc (.cells #[.int .i64 n] 3)).alloc (.cells #[.int .i64 8] 3)) (.int .i64 5) 3
  have hE := Box.new (W0.alloc (.cells #[.int .i64 n] 3)) (.int .i64 8) 3
  have hF := Box.new (((W0.alloc (.cells #[.int .i64 n] 3)).alloc (.cells #[.int .i64 8] 3)).alloc (.cells #[.int .i64 5] 3)) (.bool false) 4
  replace hN := ((hN.alloc (.cells #[.int .i64 8] 3)).alloc (.cells #[.int .i64 5] 3)).alloc (.cells #[.bool false] 4)
  replace hE := (hE.alloc (.cells #[.int .i64 5] 3)).alloc (.cells #[.bool false] 4)
  replace hD := hD.alloc (.cells #[.bool false] 4)
  have hB1 : Below W0.heap.size W0 ((((W0.alloc (.cells #[.int .i64 n] 3)).alloc (.cells #[.int .i64 8] 3)).alloc (.cells #[.int .i64 5] 3)).alloc (.cells #[.bool false] 4)) :=
    ((((Below.refl _ _).alloc (Nat.le_refl _) _).alloc (by simp) _).alloc (by simp; omega) _).alloc (by simp; omega) _
  have hs1 : ((((W0.alloc (.cells #[.int .i64 n] 3)).alloc (.cells #[.int .i64 8] 3)).alloc (.cells #[.int .i64 5] 3)).alloc (.cells #[.bool false] 4)).heap.size = w.heap.size + 1 + 4 := by simp [hs0]
  simp only [World.size_alloc, hs0] at hN hE hD hF
  generalize (((W0.alloc (.cells #[.int .i64 n] 3)).alloc (.cells #[.int .i64 8] 3)).alloc (.cells #[.int .i64 5] 3)).alloc (.cells #[.bool false] 4) = W1 at *
  have hV := hb0.keep (keepT hB1) trivial
  have hown1 := ownsRow_keep' hown0 (keepT hB1)
  have hBB := bTr hB0 (hB1.mono (by omega))
  clear hb0 hown0 hB0 hB1
  gi_wp2
  refine range_law (n₀ := 0) (M := w.heap.size + 1) (xs := digs 256 4 n) (encs := fun d : Nat => #[.int .u8 d]) rfl (enters_of Try.func30 (by kernel_rfl) rfl)
    (long1_iter n (w.heap.size + 1) hn W1 hs1 hN hE hD hF) (by omega) (by omega) (fun _ => rfl)
    (fun k W => (∃ v, Box W w.heap.size v ∧ W.ownsRow B 5 1 v (l.length + k) (bvs (l ++ toB ((digs 256 4 n).take k))) ∧ Off v w.heap.size (w.heap.size + 7)) ∧ Below B w W ∧ w.heap.size ≤ W.heap.size) (fun _ _ => False)
    (fun k A B' h hk => ⟨h.1.imp fun v hv => ⟨hv.1.keep hk (by omega), ownsRow_keepO hv.2.1 hk (fun b hb => by have := hv.2.2 b hb; omega), hv.2.2⟩, below_keep h.2.1 hk (Nat.le_trans hBw h.2.2) (fun _ _ => by omega), Nat.le_trans h.2.2 hk.size⟩) (fun _ _ _ h _ => h) ⟨⟨_, hV, by simpa [toB] using hown1, fun g hg => .inl (hlt0 g hg)⟩, hBB.mono hBw, by omega⟩ ?round ?done (fun _ _ h _ => h.elim)
  case round =>
    intro lr k y A1 hy hI hsz
    have hy5 := digs_lt 256 4 n (by omega) y (List.mem_of_getElem? hy)
    have hkl : k < 5 := by have := (List.getElem?_eq_some_iff.1 hy).1; rwa [digs_length] at this
    have htk : toB ((digs 256 4 n).take (k + 1)) = toB ((digs 256 4 n).take k) ++ [UInt8.ofNat y] := by
      rw [List.take_add_one]; simp [toB, hy]
    have Hy := Lib.hid htk
    have Hb := Lib.hid (toB_bv y hy5)
    clear htk hy hI
    gi_wp2
    refine ⟨KeepB.refl _ _, fun A2 hk2 hI2 => ?_⟩
    obtain ⟨⟨v, hV, hown, hoff⟩, hB, hzz⟩ := hI2
    have hz2 := hk2.size
    have hVl := hV.lt
    obtain ⟨cV, fV⟩ := hV
    have hA3 : Rd (A2.alloc (.cells #[.int .u8 y] 5)) (some ⟨A2.heap.size, 0, none⟩) (bvs [UInt8.ofNat y]) := by
      have := Rd.new A2 [.int .u8 (y : Int)] 5
      rw [← Hb.out] at this ⊢
      exact this
    obtain ⟨Av, cv, rfl, _⟩ := own_slice hown
    gi_wp2_with (refine listIn_append_rd (news := bvs [UInt8.ofNat y]) rfl (.tmp 9) (.tmp 11) rfl elemB rfl (hown.alloc _) rfl rfl hA3 (bvs_one _) (by unfold maxLen; omega) (by omega) (by simp; omega) ?_; intro v' w' hown' hg hloc; obtain ⟨A', c', rfl, _⟩ := own_slice hown'; have hkb : KeepB (fun b => b = w.heap.size ∨ (w.heap.size + 1 ≤ b ∧ b < w.heap.size + 7)) A2 w' := ((KeepB.refl _ A2).alloc _).grown hg fun x hx _ hh => Off.out hoff hx hh; have hoff' := Off.loc hoff hloc (by simp; omega); have hB' := Below.grown (hB.alloc (Nat.le_trans hBw hzz) _) hg (Nat.le_trans hBw (by simp; omega)) (fun k hk => (hown.lt k hk).1); clear hloc hg; have cV' := hkb.cell (p := ⟨w.heap.size, 0, none⟩) (.inl rfl) cV; have fV' := (hkb.frozen (p := ⟨w.heap.size, 0, none⟩) hVl (.inl rfl)).trans fV)
    have hk3 : KeepB (fun b => b ≠ w.heap.size) w' (w'.setCell ⟨w.heap.size, 0, none⟩ (.slice A' (l.length + k + 1) c')) := (KeepB.refl _ _).setCell (by simp) _
    refine ⟨(hkb.sub fun _ _ _ => by omega).trans (hk3.sub fun _ _ _ => by omega), ⟨_, Box.set ⟨cV', fV'⟩ _, ?_, hoff'⟩, ?_, ?_⟩
    · rw [Hy.out, ← List.append_assoc, bvs_append]
      refine ownsRow_keepO hown' hk3 fun b hb => ?_
      have := hoff' b hb
      omega
    · exact below_keep hB' hk3 (by have := hkb.size; omega) (fun _ _ => by omega)
    · have := hkb.size; have := hk3.size; omega
  case done =>
    intro A1 hI hD
    rw [digs_length] at hI
    obtain ⟨⟨v, ⟨cV, fV⟩, hown, hoff⟩, hB, hzz⟩ := hI
    obtain ⟨Av, cv, rfl, _⟩ := own_slice hown
    gi_wp2
    rw [hs1] at hD ⊢
    refine ⟨by simp, .inl ⟨_, _, rfl, run_takeDeferred hD, ?_⟩⟩
    have hk3 : KeepB (fun k => k ≠ w.heap.size + 1 + 4) A1 (A1.putObj (w.heap.size + 1 + 4) (Obj.deferred none)) := (KeepB.refl _ _).putObj _ _ (by simp)
    refine ⟨_, results_tmp rfl _ _ _, _, rfl, ?_, ?_⟩
    · have e1 : toB ((digs 256 4 n).take (4 + 1)) = long1 n := by rw [List.take_of_length_le (by rw [digs_length]; omega)]; rfl
      rw [e1] at hown
      exact ownsRow_keepO hown hk3 fun b hb => by have := hoff b hb; omega
    · exact below_keep hB hk3 (by omega) (fun _ _ => by omega)
end Go.Proofs.Ytefpagijgiggmab
