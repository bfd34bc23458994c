/- The walk of the program's Levels. -/
import Derived.Test.YtefpagijgiggmaaDoorEntWg
namespace Go.Proofs.YtefpagijgiggmaaDoor
open Go Go.RowKit Go.Shelf
attribute [local go_sem] Oper.semAt_some

def levelsS (s : St) (l : List En) : List Int := (scanS s l).map (·.level)
theorem elemI : Elem Tryd.prog 34 3 (.int .i64 0) 1 8 := ⟨Tryd.underlying34, by kernel_rfl, rfl, by omega⟩
theorem ownsRow_keep {S : Nat → Prop} {w w' : World} {base : Nat} {e : TypeId} {size : Nat} {v : Value} {n : Nat} {xs : List Value} (h : w.ownsRow base e size v n xs) (hk : KeepB S w w') (hs : ∀ b, base ≤ b → S b) : w'.ownsRow base e size v n xs := by
  obtain ⟨hl, h2⟩ := h
  refine ⟨hl, ?_⟩
  rcases h2 with h2 | ⟨g, cap, cur, rfl, h3, h4, h5, h6, h7⟩
  · exact .inl h2
  · refine .inr ⟨g, cap, cur, rfl, h3, ?_, h5, h6, ?_⟩
    · exact hk.heap (hs g h3) h4
    · exact h7

set_option maxHeartbeats 2000000 in
theorem levels_any (s : St) (A : Option Addr) (c : Nat) (l : List En) (hl : l.length ≤ 1099511627776) (hlc : l.length ≤ c) (hcm : c ≤ maxLen) (w : World) (hA : Rd w A (ens l)) :
    Calls Tryd.prog 14 #[s.v, .slice A l.length c] w fun e w' => ∃ v, e = .returned v ∧ w'.ownsRow w.heap.size 3 1 v l.length (ivs (levelsS s l)) ∧ Below w.heap.size w w' := by
  have hs0 := Box5.new w s 23
  have hz0 := Box.new (w.alloc (.cells #[.int .i64 s.index, .int .i64 s.term, .int .i64 s.sum, .int .i64 s.level, .bool s.final] 23)) (.slice none 0 0) 34
  have hB0 : Below w.heap.size w ((w.alloc (.cells #[.int .i64 s.index, .int .i64 s.term, .int .i64 s.sum, .int .i64 s.level, .bool s.final] 23)).alloc (.cells #[.slice none 0 0] 34)) := ((Below.refl _ _).alloc (Nat.le_refl _) _).alloc (by simp) _
  have hsz2 : ((w.alloc (.cells #[.int .i64 s.index, .int .i64 s.term, .int .i64 s.sum, .int .i64 s.level, .bool s.final] 23)).alloc (.cells #[.slice none 0 0] 34)).heap.size = w.heap.size + 2 := by simp
  rw [World.size_alloc] at hz0
  refine (callsIn_wide (n := 9)).1 (callsIn_of_wp_marks Tryd.func14 rfl trivial ?_ rfl)
  simp only [Tryd.ntmps14, List.size_toArray, List.length_cons, List.length_nil, Nat.reduceAdd, Nat.reduceSub, Array.replicate_succ, Array.replicate_zero, List.push_toArray, List.append_toArray, List.nil_append, List.cons_append]
  dsimp only [St.v]
  gi_wp2_with fail
  generalize (w.alloc (.cells #[.int .i64 s.index, .int .i64 s.term, .int .i64 s.sum, .int .i64 s.level, .bool s.final] 23)).alloc (.cells #[.slice none 0 0] 34) = W0 at *
  refine ⟨trivial, ?_⟩
  refine (callsIn_wide.2 (states_any s A l.length c _)).mono ?_
  rintro e w' ⟨rfl, rfl⟩
  rw [hsz2]
  have hB1 : Below W0.heap.size W0 ((W0.alloc (.cells #[.int .i64 s.index, .int .i64 s.term, .int .i64 s.sum, .int .i64 s.level, .bool s.final] 23)).alloc (.cells #[.slice A l.length c] 24)) := ((Below.refl _ _).alloc (Nat.le_refl _) _).alloc (by simp) _
  have hi0 := Box5.new W0 s 23
  have hL0 := Box.new (W0.alloc (.cells #[.int .i64 s.index, .int .i64 s.term, .int .i64 s.sum, .int .i64 s.level, .bool s.final] 23)) (.slice A l.length c) 24
  replace hi0 := hi0.keep ((KeepB.refl (fun _ => True) _).alloc (.cells #[.slice A l.length c] 24)) trivial
  rw [World.size_alloc] at hL0
  have hsz3 : ((W0.alloc (.cells #[.int .i64 s.index, .int .i64 s.term, .int .i64 s.sum, .int .i64 s.level, .bool s.final] 23)).alloc (.cells #[.slice A l.length c] 24)).heap.size = w.heap.size + 4 := by simp [hsz2]
  generalize (W0.alloc (.cells #[.int .i64 s.index, .int .i64 s.term, .int .i64 s.sum, .int .i64 s.level, .bool s.final] 23)).alloc (.cells #[.slice A l.length c] 24) = W1 at *
  rw [hsz2] at hi0 hL0
  have hz1 := hz0.keep (keepT hB1) trivial
  have hB2 := bTr hB0 (hB1.mono (by omega))
  clear hs0 hz0 hB0 hB1 hsz2
  gi_wp2
  refine range_law (n₀ := w.heap.size) (M := w.heap.size + 2) (xs := scanS s l) (encs := fun s : St => #[s.v]) rfl (enters_of Tryd.func28 (by kernel_rfl) rfl)
    (states1_iter (w.heap.size + 2) (w.heap.size + 2 + 1) A c l s hlc hcm w _ W1 hA hB2 (by omega) (by omega) (by omega) (by omega) (by omega) hi0 hL0) (by omega) (by omega) (fun _ => rfl)
    (fun k W => (∃ v, Box W (w.heap.size + 1) v ∧ W.ownsRow (w.heap.size + 6) 3 1 v k (ivs ((levelsS s l).take k))) ∧ Below w.heap.size w W) (fun _ _ => False)
    (fun k A B h hk => ⟨h.1.imp fun v hv => ⟨hv.1.keep hk (by omega), ownsRow_keep hv.2 hk (by omega)⟩, below_keep h.2 hk h.2.size (fun _ _ => by omega)⟩) (fun _ _ _ h _ => h) ⟨⟨_, hz1, World.ownsRow_nil _ _ _ _⟩, hB2⟩ ?round ?done (fun _ _ h _ => h.elim)
  case round =>
    intro lr k y A1 hy hI hsz
    have hkl : k < l.length := by have := (List.getElem?_eq_some_iff.1 hy).1; rwa [scanS_length] at this
    have htk : (levelsS s l).take (k + 1) = (levelsS s l).take k ++ [y.level] := by
      rw [List.take_add_one]; simp [levelsS, hy]
    have Hy := Lib.hid htk
    clear htk hy hI
    dsimp only [St.v, Array.zip, Array.foldl]
    gi_wp2
    refine ⟨(KeepB.refl _ _).alloc _, fun A2 hk2 hI2 => ?_⟩
    obtain ⟨⟨v, hV, hown⟩, hB⟩ := hI2
    have hy5 := (Box5.new A1 y 23).keep hk2 (.inr hsz)
    have hlt := hy5.lt
    have hz2 : W1.heap.size + 2 ≤ A2.heap.size := by omega
    obtain ⟨⟨y0, y1, y2, y3, y4⟩, _⟩ := hy5
    have hVl := hV.lt
    obtain ⟨cV, fV⟩ := hV
    have hA3 : Rd (A2.alloc (.cells #[.int .i64 y.level] 3)) (some ⟨A2.heap.size, 0, none⟩) (ivs [y.level]) := Rd.new A2 _ _
    have hrow := own_row_base hown
    obtain ⟨Av, cv, rfl, _⟩ := own_slice hown
    gi_wp2_with (refine listIn_append_rd (news := ivs [y.level]) rfl (.tmp 10) (.tmp 13) rfl elemI rfl (hown.alloc _) rfl rfl hA3 (ivs_one _) (by unfold maxLen; omega) (by omega) (by simp; omega) ?_; intro v' w' hown' hg hloc; clear hloc; obtain ⟨A', c', rfl, _⟩ := own_slice hown'; have hkb : KeepB (fun b => b < w.heap.size + 6) A2 w' := ((KeepB.refl _ A2).alloc _).grown hg fun x hx _ hh => Nat.not_lt.2 (hrow x hx) hh; have cV' := hkb.cell (p := ⟨w.heap.size + 1, 0, none⟩) (show w.heap.size + 1 < w.heap.size + 6 by omega) cV; have fV' := (hkb.frozen (p := ⟨w.heap.size + 1, 0, none⟩) hVl (show w.heap.size + 1 < w.heap.size + 6 by omega)).trans fV)
    have hk3 : KeepB (fun b => b ≠ w.heap.size + 1) w' (w'.setCell ⟨w.heap.size + 1, 0, none⟩ (.slice A' (k + 1) c')) := (KeepB.refl _ _).setCell (by simp) _
    refine ⟨(hkb.sub fun _ _ _ => by omega).trans (hk3.sub fun _ _ _ => by omega), ⟨_, Box.set ⟨cV', fV'⟩ _, ?_⟩, below_keep hB ((hkb.sub (T := fun b => b < w.heap.size) fun _ _ h => Nat.lt_of_lt_of_le h (by omega)).trans (hk3.sub fun _ _ _ => by omega)) hB.size (fun _ h => h)⟩
    rw [Hy.out]
    have : ivs ((levelsS s l).take k ++ [y.level]) = ivs ((levelsS s l).take k) ++ ivs [y.level] := by simp [ivs]
    rw [this]
    exact ownsRow_keep hown' hk3 (by omega)
  case done =>
    intro A1 hI hD
    rw [scanS_length] at hI
    obtain ⟨⟨v, ⟨cV, fV⟩, hown⟩, hB⟩ := hI
    obtain ⟨Av, cv, rfl, _⟩ := own_slice hown
    gi_wp2
    have hk2 : KeepB (fun b => b ≠ w.heap.size + 1) A1 (A1.setCell ⟨w.heap.size + 1, 0, none⟩ (.slice Av l.length cv)) := (KeepB.refl _ _).setCell (by simp) _
    have hb2 : Box (A1.setCell ⟨w.heap.size + 1, 0, none⟩ (.slice Av l.length cv)) (w.heap.size + 1) (.slice Av l.length cv) := Box.set ⟨cV, fV⟩ _
    generalize A1.setCell ⟨w.heap.size + 1, 0, none⟩ (.slice Av l.length cv) = W2 at *
    rw [hsz3] at hD
    refine ⟨by simp, .inl ⟨_, _, by rw [hsz3], run_takeDeferred (hk2.heap (by omega) hD), ?_⟩⟩
    have hk3 : KeepB (fun k => k ≠ w.heap.size + 4) W2 (W2.putObj (w.heap.size + 4) (Obj.deferred none)) := (KeepB.refl _ _).putObj _ _ (by simp)
    have hb3 := hb2.keep hk3 (by omega)
    have hB3 := below_keep (below_keep hB hk2 hB.size (fun _ _ => by omega)) hk3 (Nat.le_trans hB.size hk2.size) (fun _ _ => by omega)
    have ho3 := ownsRow_keep (ownsRow_keep hown hk2 (by omega)) hk3 (by omega)
    generalize W2.putObj (w.heap.size + 4) (Obj.deferred none) = W3 at *
    have c3 := hb3.1
    refine ⟨.slice Av l.length cv, by simp [results, Tryd.results14, go_sem, c3], _, rfl, ?_, hB3⟩
    have e1 : (levelsS s l).take l.length = levelsS s l := List.take_of_length_le (by simp [levelsS, scanS_length])
    rw [e1] at ho3
    exact own_base ho3 (by omega)
end Go.Proofs.YtefpagijgiggmaaDoor
