/- The walks of level: Stages. -/
import Derived.Test.YtoehcmddfpompaaLevWd
import Derived.Test.YtoehcmddfpompaaAlloc
namespace Go.Proofs.Ytoehcmddfpompaa
open Go Go.RowKit Go.Shelf
attribute [local go_sem] Oper.semAt_some

theorem stages_mk (s : St) (A : Option Addr) (n c : Nat) (w : World) :
    Calls Try.prog 24 #[s.v, .slice A n c] w fun e w' => e = .returned (.func (.func 32) #[] #[.pointer (some ⟨w.heap.size, 0, none⟩), .pointer (some ⟨w.heap.size + 1, 0, none⟩)]) ∧
      w' = (w.alloc (.cells #[.int .i64 s.index, .int .i64 s.term, .int .i64 s.sum, .int .i64 s.level, .bool s.final] 23)).alloc (.cells #[.slice A n c] 37) := by
  obtain ⟨a1, a2, a3, a4, a5⟩ := s
  dsimp only [St.v]
  go_enter Try.func24, Try.ntmps24
  go_wp2
  go_ret
  exact ⟨rfl, rfl⟩

set_option maxHeartbeats 4000000 in
theorem stagesL_any (s : St) (A : Option Addr) (n c : Nat) (l : List En) (hn : l.length = n) (hl : n ≤ 1099511627776) (hlc : n ≤ c) (hcm : c ≤ maxLen) (w : World) (hA : Rd w A (ens l)) :
    Calls Try.prog 14 #[s.v, .slice A n c] w fun e w' => ∃ v, e = .returned v ∧ w'.ownsRow w.heap.size 3 1 v (n + 1) (ivs (stagesS s l)) ∧ Below w.heap.size w w' := by
  have Hn := Lib.hid hn
  have HLen := Lib.hid (show (stagesS s l).length = n + 1 by rw [stagesS_len, hn])
  clear hn
  have hs0 := Box5.new w s 23
  have hz0 := Box.new (w.alloc (.cells #[.int .i64 s.index, .int .i64 s.term, .int .i64 s.sum, .int .i64 s.level, .bool s.final] 23)) (.slice none 0 0) 24
  have hB0 : Below w.heap.size w ((w.alloc (.cells #[.int .i64 s.index, .int .i64 s.term, .int .i64 s.sum, .int .i64 s.level, .bool s.final] 23)).alloc (.cells #[.slice none 0 0] 24)) := ((Below.refl _ _).alloc (Nat.le_refl _) _).alloc (by simp) _
  have hsz2 : ((w.alloc (.cells #[.int .i64 s.index, .int .i64 s.term, .int .i64 s.sum, .int .i64 s.level, .bool s.final] 23)).alloc (.cells #[.slice none 0 0] 24)).heap.size = w.heap.size + 2 := by simp
  rw [World.size_alloc] at hz0
  refine (callsIn_wide (n := 9)).1 (callsIn_of_wp_marks Try.func14 rfl trivial ?_ rfl)
  simp only [Try.ntmps14, List.size_toArray, List.length_cons, List.length_nil, Nat.reduceAdd, Nat.reduceSub, Array.replicate_succ, Array.replicate_zero, List.push_toArray, List.append_toArray, List.nil_append, List.cons_append]
  dsimp only [St.v]
  gi_wp2_with fail
  generalize (w.alloc (.cells #[.int .i64 s.index, .int .i64 s.term, .int .i64 s.sum, .int .i64 s.level, .bool s.final] 23)).alloc (.cells #[.slice none 0 0] 24) = W0 at *
  refine ⟨trivial, ?_⟩
  refine (callsIn_wide.2 (stages_mk s A n c _)).mono ?_
  rintro e w' ⟨rfl, rfl⟩
  rw [hsz2]
  have hB1 : Below W0.heap.size W0 ((W0.alloc (.cells #[.int .i64 s.index, .int .i64 s.term, .int .i64 s.sum, .int .i64 s.level, .bool s.final] 23)).alloc (.cells #[.slice A n c] 37)) := ((Below.refl _ _).alloc (Nat.le_refl _) _).alloc (by simp) _
  have hi0 := Box5.new W0 s 23
  have hL0 := Box.new (W0.alloc (.cells #[.int .i64 s.index, .int .i64 s.term, .int .i64 s.sum, .int .i64 s.level, .bool s.final] 23)) (.slice A n c) 37
  replace hi0 := hi0.keep ((KeepB.refl (fun _ => True) _).alloc (.cells #[.slice A n c] 37)) trivial
  rw [World.size_alloc] at hL0
  have hsz3 : ((W0.alloc (.cells #[.int .i64 s.index, .int .i64 s.term, .int .i64 s.sum, .int .i64 s.level, .bool s.final] 23)).alloc (.cells #[.slice A n c] 37)).heap.size = w.heap.size + 4 := by simp [hsz2]
  generalize (W0.alloc (.cells #[.int .i64 s.index, .int .i64 s.term, .int .i64 s.sum, .int .i64 s.level, .bool s.final] 23)).alloc (.cells #[.slice A n c] 37) = W1 at *
  rw [hsz2] at hi0 hL0
  have hz1 := hz0.keep (keepT hB1) trivial
  have hB2 := bTr hB0 (hB1.mono (by omega))
  clear hs0 hz0 hB0 hB1 hsz2
  gi_wp2
  refine range_law (n₀ := w.heap.size) (M := w.heap.size + 2) (xs := stagesS s l) (encs := fun n : Int => #[.int .i64 n]) rfl (enters_of Try.func32 (by kernel_rfl) rfl)
    (stages1_iter (w.heap.size + 2) (w.heap.size + 2 + 1) A n c l Hn.out s hlc hcm w _ W1 hA hB2 (by omega) (by omega) (by omega) (by omega) (by omega) hi0 hL0) (by omega) (by omega) (fun _ => rfl)
    (fun k W => (∃ v, Box W (w.heap.size + 1) v ∧ W.ownsRow (w.heap.size + 6) 3 1 v k (ivs ((stagesS s l).take k))) ∧ Below w.heap.size w W) (fun _ _ => False)
    (fun k A B h hk => ⟨h.1.imp fun v hv => ⟨hv.1.keep hk (by omega), own_keep hv.2 hk (fun b hb => by have := own_row_base hv.2 b hb; omega)⟩, below_keep h.2 hk h.2.size (fun _ _ => by omega)⟩) (fun _ _ _ h _ => h) ⟨⟨_, hz1, World.ownsRow_nil _ _ _ _⟩, hB2⟩ ?round ?done (fun _ _ h _ => h.elim)
  case round =>
    intro lr k y A1 hy hI hsz
    have hkl : k < n + 1 := by have := (List.getElem?_eq_some_iff.1 hy).1; rwa [HLen.out] at this
    have htk : (stagesS s l).take (k + 1) = (stagesS s l).take k ++ [y] := by rw [List.take_add_one]; simp [hy]
    have Hy := Lib.hid htk
    clear htk hy hI
    gi_wp2
    refine ⟨KeepB.refl _ _, fun A2 hk2 hI2 => ?_⟩
    obtain ⟨⟨v, hV, hown⟩, hB⟩ := hI2
    have hz2 := hk2.size
    have hVl := hV.lt
    obtain ⟨cV, fV⟩ := hV
    have hA3 : Rd (A2.alloc (.cells #[.int .i64 y] 3)) (some ⟨A2.heap.size, 0, none⟩) (ivs [y]) := Rd.new A2 _ _
    have hrow := own_row_base hown
    obtain ⟨Av, cv, rfl, _⟩ := own_slice hown
    gi_wp2_with (refine listIn_append_rd (news := ivs [y]) rfl (.tmp 10) (.tmp 12) rfl elemI rfl (hown.alloc _) rfl rfl hA3 (ivs_one _) (by unfold maxLen; omega) (by omega) (by simp; omega) ?_; intro v' w' hown' hg hloc; clear hloc; obtain ⟨A', c', rfl, _⟩ := own_slice hown'; have hkb : KeepB (fun b => b < w.heap.size + 6) A2 w' := ((KeepB.refl _ A2).alloc _).grown hg fun x hx _ hh => Nat.not_lt.2 (hrow x hx) hh; have cV' := hkb.cell (p := ⟨w.heap.size + 1, 0, none⟩) (show w.heap.size + 1 < w.heap.size + 6 by omega) cV; have fV' := (hkb.frozen (p := ⟨w.heap.size + 1, 0, none⟩) hVl (show w.heap.size + 1 < w.heap.size + 6 by omega)).trans fV)
    have hk3 : KeepB (fun b => b ≠ w.heap.size + 1) w' (w'.setCell ⟨w.heap.size + 1, 0, none⟩ (.slice A' (k + 1) c')) := (KeepB.refl _ _).setCell (by simp) _
    refine ⟨(hkb.sub fun _ _ _ => by omega).trans (hk3.sub fun _ _ _ => by omega), ⟨_, Box.set ⟨cV', fV'⟩ _, ?_⟩, below_keep hB ((hkb.sub (T := fun b => b < w.heap.size) fun _ _ h => Nat.lt_of_lt_of_le h (by omega)).trans (hk3.sub fun _ _ _ => by omega)) hB.size (fun _ h => h)⟩
    rw [Hy.out]
    have : ivs ((stagesS s l).take k ++ [y]) = ivs ((stagesS s l).take k) ++ ivs [y] := by simp [ivs]
    rw [this]
    exact own_keep hown' hk3 (fun b hb => by have := own_row_base hown' b hb; omega)
  case done =>
    intro A1 hI hD
    rw [HLen.out] at hI
    obtain ⟨⟨v, ⟨cV, fV⟩, hown⟩, hB⟩ := hI
    obtain ⟨Av, cv, rfl, _⟩ := own_slice hown
    gi_wp2
    have hk2 : KeepB (fun b => b ≠ w.heap.size + 1) A1 (A1.setCell ⟨w.heap.size + 1, 0, none⟩ (.slice Av (n + 1) cv)) := (KeepB.refl _ _).setCell (by simp) _
    have hb2 : Box (A1.setCell ⟨w.heap.size + 1, 0, none⟩ (.slice Av (n + 1) cv)) (w.heap.size + 1) (.slice Av (n + 1) cv) := Box.set ⟨cV, fV⟩ _
    generalize A1.setCell ⟨w.heap.size + 1, 0, none⟩ (.slice Av (n + 1) cv) = W2 at *
    rw [hsz3] at hD
    refine ⟨by simp, .inl ⟨_, _, by rw [hsz3], run_takeDeferred (hk2.heap (by omega) hD), ?_⟩⟩
    have hk3 : KeepB (fun k => k ≠ w.heap.size + 4) W2 (W2.putObj (w.heap.size + 4) (Obj.deferred none)) := (KeepB.refl _ _).putObj _ _ (by simp)
    have hb3 := hb2.keep hk3 (by omega)
    have hB3 := below_keep (below_keep hB hk2 hB.size (fun _ _ => by omega)) hk3 (Nat.le_trans hB.size hk2.size) (fun _ _ => by omega)
    have ho3 := own_keep (own_keep hown hk2 (fun b hb => by have := own_row_base hown b hb; omega)) hk3 (fun b hb => by have := own_row_base hown b hb; omega)
    generalize W2.putObj (w.heap.size + 4) (Obj.deferred none) = W3 at *
    have c3 := hb3.1
    refine ⟨.slice Av (n + 1) cv, by simp [results, Try.results14, go_sem, c3], _, rfl, ?_, hB3⟩
    have e1 : (stagesS s l).take (n + 1) = stagesS s l := List.take_of_length_le (by rw [HLen.out]; omega)
    rw [e1] at ho3
    exact own_base ho3 (by omega)
end Go.Proofs.Ytoehcmddfpompaa
