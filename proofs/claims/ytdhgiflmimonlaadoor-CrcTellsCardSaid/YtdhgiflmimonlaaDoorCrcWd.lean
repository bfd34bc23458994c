/- The walks of the sum of bytes: the program's Next. -/
import Derived.Test.YtdhgiflmimonlaaDoorCrcWc
namespace Go.Proofs.YtdhgiflmimonlaaDoor
open Go Go.RowKit Go.Shelf
attribute [local go_sem] Oper.semAt_some

theorem runN_halves (l : List UInt8) : ∀ s, runN s l = (halvesN l).foldl stepN s := by
  induction l with
  | nil => intro s; rfl
  | cons c l ih => intro s; rw [halvesN, List.flatMap_cons, List.foldl_append, ← halvesN, ← ih]; rfl
def halfRun (s : Nat) (l : List UInt8) (k : Nat) : Nat := ((halvesN l).take k).foldl stepN s
theorem halfRun_lt (s : Nat) (l : List UInt8) (h : s < 4294967296) (k : Nat) : halfRun s l k < 4294967296 := by
  unfold halfRun
  generalize (halvesN l).take k = xs
  induction xs generalizing s with
  | nil => exact h
  | cons x xs ih => exact ih _ (stepN_lt _ _ h)
theorem halfRun_succ (s : Nat) (l : List UInt8) (k x : Nat) (h : (halvesN l)[k]? = some x) : halfRun s l (k + 1) = stepN (halfRun s l k) x := by
  unfold halfRun
  rw [take_snoc _ k x h, List.foldl_append]; rfl
theorem halvesN_lt (l : List UInt8) (k x : Nat) (h : (halvesN l)[k]? = some x) : x < 16 := by
  have := List.mem_of_getElem? h
  unfold halvesN at this
  rw [List.mem_flatMap] at this
  obtain ⟨c, _, hc⟩ := this
  have := c.toNat_lt
  simp at hc
  omega

theorem RowsOK.below {w w' : World} (h : RowsOK w) (hb : Below w.heap.size w w') : RowsOK w' := fun i hi => by
  have := h i hi
  exact (hb.cell (p := ⟨0, i, none⟩) (World.block_lt_of_cell? w _ this)).trans this
theorem RowsOK.pos {w : World} (h : RowsOK w) : 0 < w.heap.size := World.block_lt_of_cell? w _ (h 0 (by omega))

set_option maxHeartbeats 400000 in
theorem halves_any (A : Option Addr) (n c : Nat) (w : World) :
    Calls Tryd.prog 24 #[.slice A n c] w fun e w' => e = .returned (.func (.func 25) #[] #[.pointer (some ⟨w.heap.size, 0, none⟩)]) ∧ w' = w.alloc (.cells #[.slice A n c] 25) := by
  go_enter Tryd.func24, Tryd.ntmps24
  go_wp2
  go_ret
  exact ⟨rfl, rfl⟩

set_option maxHeartbeats 1000000 in
theorem next_any (s : Nat) (h1 : s < 4294967296) (A : Option Addr) (c : Nat) (l : List UInt8) (hl : l.length ≤ 1099511627776) (w : World) (hA : Rd w A (bvs l)) (hr : RowsOK w) :
    Calls Tryd.prog 11 #[.int .u32 s, .slice A l.length c] w fun e w' => e = .returned (.int .u32 (nextN s l : Nat)) ∧ Below w.heap.size w w' := by
  have e1 := inv_bits s h1
  have hi := inv32_lt s
  have Hfin := Lib.hid (show nextN s l = inv32 (runN (inv32 s) l) from rfl)
  obtain ⟨x, hx⟩ : ∃ x, x = inv32 s := ⟨_, rfl⟩
  rw [← hx] at hi Hfin e1
  clear hx
  refine (callsIn_wide (n := 9)).1 (callsIn_of_wp_marks Tryd.func11 rfl trivial ?_ rfl)
  simp only [Tryd.ntmps11, List.size_toArray, List.length_cons, List.length_nil, Nat.reduceAdd, Nat.reduceSub, Array.replicate_succ, Array.replicate_zero, List.push_toArray, List.append_toArray, List.nil_append, List.cons_append]
  gi_wp2_with (refine ⟨trivial, ?_⟩; gi_at_call 24; refine (callsIn_wide.2 (halves_any A l.length c _)).mono ?_; rintro e w' ⟨rfl, rfl⟩)
  have hB0 : Below w.heap.size w ((w.alloc (.cells #[.int .u32 x] 23)).alloc (.cells #[.slice A l.length c] 25)) := ((Below.refl _ _).alloc (Nat.le_refl _) _).alloc (by simp) _
  have hb1 : Box ((w.alloc (.cells #[.int .u32 x] 23)).alloc (.cells #[.slice A l.length c] 25)) w.heap.size (.int .u32 x) := (Box.new _ _ _).alloc _
  have hb2 : Box ((w.alloc (.cells #[.int .u32 x] 23)).alloc (.cells #[.slice A l.length c] 25)) (w.heap.size + 1) (.slice A l.length c) := by have := Box.new (w.alloc (.cells #[.int .u32 x] 23)) (.slice A l.length c) 25; simpa using this
  have hs0 : ((w.alloc (.cells #[.int .u32 x] 23)).alloc (.cells #[.slice A l.length c] 25)).heap.size = w.heap.size + 2 := by simp
  generalize (w.alloc (.cells #[.int .u32 x] 23)).alloc (.cells #[.slice A l.length c] 25) = W0 at *
  refine range_law (n₀ := w.heap.size) (M := w.heap.size + 1) (xs := halvesN l) (encs := fun h : Nat => #[.int .u8 h]) rfl (enters_of Tryd.func25 (by kernel_rfl) rfl)
    (halves1_iter _ A c l hl w _ W0 hA hB0 (by omega) (by omega) hb2.lt hb2.1) (by omega) (by omega) (fun _ => rfl)
    (fun k W => Box W w.heap.size (.int .u32 (halfRun x l k : Nat)) ∧ Below w.heap.size w W) (fun _ _ => False)
    (fun k A B h hk => ⟨h.1.keep hk (by omega), below_keep h.2 hk h.2.size (fun _ _ => by omega)⟩) (fun _ _ _ h _ => h) ⟨hb1, hB0⟩ ?round ?done (fun _ _ h _ => h.elim)
  case round =>
    intro lr k y A1 hy hI hsz
    gi_wp2
    refine ⟨KeepB.refl _ _, fun A2 _ hI2 => ?_⟩
    obtain ⟨⟨hc, hf⟩, hB⟩ := hI2
    have hlt := halfRun_lt x l hi k
    have hy16 := halvesN_lt l k y hy
    have Hs := Lib.hid (halfRun_succ x l k y hy)
    have hr2 := hr.below hB
    have hBn := hB.size
    clear hy
    gi_wp2_with (refine ⟨trivial, ?_⟩; gi_at_call 16; refine (CallsIn.inRound lr (callsIn_wide.2 (step_i _ _ (halfRun x l k) y rfl rfl hlt (by omega) _ hr2))).mono ?_; rintro e w' ⟨rfl, rfl⟩)
    exact ⟨(KeepB.refl _ _).setCell (by simp) _, by rw [Hs.out]; exact Box.set ⟨hc, hf⟩ _, hB.setCell (Nat.le_refl _) _⟩
  case done =>
    intro A1 hI hD
    obtain ⟨⟨hc, hf⟩, hB⟩ := hI
    have hlt := halfRun_lt x l hi (halvesN l).length
    have e4 := inv_bits _ hlt
    have Hl := Lib.hid (show halfRun x l (halvesN l).length = runN x l from by unfold halfRun; rw [List.take_length, runN_halves])
    gi_wp2
    refine ⟨by simp, .inl ⟨_, _, rfl, run_takeDeferred hD, ?_⟩⟩
    refine ⟨_, results_tmp rfl _ _ _, ?_, ?_⟩
    · rw [Hfin.out, ← Hl.out]; rfl
    · exact below_keep hB ((KeepB.refl (fun k => k ≠ W0.heap.size) _).putObj _ _ (by simp)) hB.size (fun _ _ => by omega)
end Go.Proofs.YtdhgiflmimonlaaDoor
