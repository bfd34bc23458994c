/- The walk of the program's All. -/
import Derived.Test.YtefpagijgiggmaaDoorEntWf
namespace Go.Proofs.YtefpagijgiggmaaDoor
open Go Go.RowKit Go.Shelf
attribute [local go_sem] Oper.semAt_some

theorem states_any (s : St) (A : Option Addr) (n c : Nat) (w : World) :
    Calls Tryd.prog 21 #[s.v, .slice A n c] w fun e w' => e = .returned (.func (.func 28) #[] #[.pointer (some ⟨w.heap.size + 1, 0, none⟩), .pointer (some ⟨w.heap.size, 0, none⟩)]) ∧
      w' = (w.alloc (.cells #[.int .i64 s.index, .int .i64 s.term, .int .i64 s.sum, .int .i64 s.level, .bool s.final] 23)).alloc (.cells #[.slice A n c] 24) := by
  obtain ⟨a1, a2, a3, a4, a5⟩ := s
  dsimp only [St.v]
  go_enter Tryd.func21, Tryd.ntmps21
  go_wp2
  go_ret
  exact ⟨rfl, rfl⟩

/-- A store of all five. -/
theorem Box5.setAll {w : World} {b : Nat} {s : St} (h : Box5 w b s) (n : St) :
    Box5 (((((w.setCell ⟨b, 0, none⟩ (.int .i64 n.index)).setCell ⟨b, 1, none⟩ (.int .i64 n.term)).setCell ⟨b, 2, none⟩ (.int .i64 n.sum)).setCell ⟨b, 3, none⟩ (.int .i64 n.level)).setCell ⟨b, 4, none⟩ (.bool n.final)) b n ∧
    KeepB (fun x => x ≠ b) w (((((w.setCell ⟨b, 0, none⟩ (.int .i64 n.index)).setCell ⟨b, 1, none⟩ (.int .i64 n.term)).setCell ⟨b, 2, none⟩ (.int .i64 n.sum)).setCell ⟨b, 3, none⟩ (.int .i64 n.level)).setCell ⟨b, 4, none⟩ (.bool n.final)) := by
  obtain ⟨a1, a2, a3, a4, a5⟩ := s
  obtain ⟨n1, n2, n3, n4, n5⟩ := n
  refine ⟨?_, (((((KeepB.refl _ _).setCell (by simp) _).setCell (by simp) _).setCell (by simp) _).setCell (by simp) _).setCell (by simp) _⟩
  have g0 := h.set (s' := ⟨n1, a2, a3, a4, a5⟩) 0 (.int .i64 n1) ⟨_, h.1.1⟩ rfl rfl rfl rfl rfl
  have g1 := g0.set (s' := ⟨n1, n2, a3, a4, a5⟩) 1 (.int .i64 n2) ⟨_, g0.1.2.1⟩ rfl rfl rfl rfl rfl
  have g2 := g1.set (s' := ⟨n1, n2, n3, a4, a5⟩) 2 (.int .i64 n3) ⟨_, g1.1.2.2.1⟩ rfl rfl rfl rfl rfl
  have g3 := g2.set (s' := ⟨n1, n2, n3, n4, a5⟩) 3 (.int .i64 n4) ⟨_, g2.1.2.2.2.1⟩ rfl rfl rfl rfl rfl
  exact g3.set (s' := ⟨n1, n2, n3, n4, n5⟩) 4 (.bool n5) ⟨_, g3.1.2.2.2.2⟩ rfl rfl rfl rfl rfl

set_option maxHeartbeats 2000000 in
theorem all_any (s : St) (A : Option Addr) (c : Nat) (l : List En) (hlc : l.length ≤ c) (hcm : c ≤ maxLen) (w : World) (hA : Rd w A (ens l)) :
    Calls Tryd.prog 11 #[s.v, .slice A l.length c] w fun e w' => e = .returned (allS s l).v ∧ Below w.heap.size w w' := by
  obtain ⟨res, hres⟩ : ∃ r, r = (allS s l).v := ⟨_, rfl⟩
  rw [← hres]
  have Hfin := Lib.hid (show res = (allS s (l.take l.length)).v by rw [List.take_length]; exact hres)
  clear hres
  have hs0 := Box5.new w s 23
  have hz0 := Box5.new (w.alloc (.cells #[.int .i64 s.index, .int .i64 s.term, .int .i64 s.sum, .int .i64 s.level, .bool s.final] 23)) ⟨0, 0, 0, 0, false⟩ 23
  have hsz : (w.alloc (.cells #[.int .i64 s.index, .int .i64 s.term, .int .i64 s.sum, .int .i64 s.level, .bool s.final] 23)).heap.size = w.heap.size + 1 := by simp
  rw [hsz] at hz0
  dsimp only at hz0
  replace hs0 := hs0.keep ((KeepB.refl (fun _ => True) _).alloc (.cells #[.int .i64 0, .int .i64 0, .int .i64 0, .int .i64 0, .bool false] 23)) trivial
  have hB0 : Below w.heap.size w ((w.alloc (.cells #[.int .i64 s.index, .int .i64 s.term, .int .i64 s.sum, .int .i64 s.level, .bool s.final] 23)).alloc (.cells #[.int .i64 0, .int .i64 0, .int .i64 0, .int .i64 0, .bool false] 23)) := ((Below.refl _ _).alloc (Nat.le_refl _) _).alloc (by simp) _
  have hsz2 : ((w.alloc (.cells #[.int .i64 s.index, .int .i64 s.term, .int .i64 s.sum, .int .i64 s.level, .bool s.final] 23)).alloc (.cells #[.int .i64 0, .int .i64 0, .int .i64 0, .int .i64 0, .bool false] 23)).heap.size = w.heap.size + 2 := by simp
  clear hsz
  refine (callsIn_wide (n := 9)).1 (callsIn_of_wp_marks Tryd.func11 rfl trivial ?_ rfl)
  simp only [Tryd.ntmps11, List.size_toArray, List.length_cons, List.length_nil, Nat.reduceAdd, Nat.reduceSub, Array.replicate_succ, Array.replicate_zero, List.push_toArray, List.append_toArray, List.nil_append, List.cons_append]
  dsimp only [St.v]
  gi_wp2_with fail
  generalize (w.alloc (.cells #[.int .i64 s.index, .int .i64 s.term, .int .i64 s.sum, .int .i64 s.level, .bool s.final] 23)).alloc (.cells #[.int .i64 0, .int .i64 0, .int .i64 0, .int .i64 0, .bool false] 23) = W0 at *
  refine ⟨trivial, ?_⟩
  refine (callsIn_wide.2 (states_any s A l.length c _)).mono ?_
  rintro e w' ⟨rfl, rfl⟩
  rw [hsz2]
  have hB1 : Below W0.heap.size W0 ((W0.alloc (.cells #[.int .i64 s.index, .int .i64 s.term, .int .i64 s.sum, .int .i64 s.level, .bool s.final] 23)).alloc (.cells #[.slice A l.length c] 24)) := ((Below.refl _ _).alloc (Nat.le_refl _) _).alloc (by simp) _
  have hi0 := Box5.new W0 s 23
  have hL0 := Box.new (W0.alloc (.cells #[.int .i64 s.index, .int .i64 s.term, .int .i64 s.sum, .int .i64 s.level, .bool s.final] 23)) (.slice A l.length c) 24
  replace hi0 := hi0.keep ((KeepB.refl (fun _ => True) _).alloc (.cells #[.slice A l.length c] 24)) trivial
  rw [World.size_alloc] at hL0
  have hsz3 : ((W0.alloc (.cells #[.int .i64 s.index, .int .i64 s.term, .int .i64 s.sum, .int .i64 s.level, .bool s.final] 23)).alloc (.cells #[.slice A l.length c] 24)).heap.size = w.heap.size + 4 := by simp [hsz2]
  generalize (W0.alloc (.cells #[.int .i64 s.index, .int .i64 s.term, .int .i64 s.sum, .int .i64 s.level, .bool s.final] 23)).alloc (.cells #[.slice A l.length c] 24) = W1 at *
  rw [hsz2] at hi0 hL0
  have hs1 := hs0.keep (keepT hB1) trivial
  have hz1 := hz0.keep (keepT hB1) trivial
  have hB2 := bTr hB0 (hB1.mono (by omega))
  clear hs0 hz0 hB0 hB1 hsz2
  gi_wp2
  refine range_law (n₀ := w.heap.size) (M := w.heap.size + 2) (xs := scanS s l) (encs := fun s : St => #[s.v]) rfl (enters_of Tryd.func28 (by kernel_rfl) rfl)
    (states1_iter (w.heap.size + 2) (w.heap.size + 2 + 1) A c l s hlc hcm w _ W1 hA hB2 (by omega) (by omega) (by omega) (by omega) (by omega) hi0 hL0) (by omega) (by omega) (fun _ => rfl)
    (fun k W => Box5 W w.heap.size (allS s (l.take k)) ∧ Box5 W (w.heap.size + 1) ⟨0, 0, 0, 0, false⟩ ∧ Below w.heap.size w W) (fun _ _ => False)
    (fun k A B h hk => ⟨h.1.keep hk (by omega), h.2.1.keep hk (by omega), below_keep h.2.2 hk h.2.2.size (fun _ _ => by omega)⟩) (fun _ _ _ h _ => h) ⟨hs1, hz1, hB2⟩ ?round ?done (fun _ _ h _ => h.elim)
  case round =>
    intro lr k y A1 hy hI hsz
    have hkl : k < l.length := by have := (List.getElem?_eq_some_iff.1 hy).1; rwa [scanS_length] at this
    have hel : l[k]? = some l[k] := List.getElem?_eq_getElem hkl
    have hy2 := scanS_at s l k _ hel
    rw [hy] at hy2
    have htk := allS_take s l k _ hel
    have Hy := Lib.hid (show allS s (l.take (k + 1)) = y from by rw [htk]; exact (Option.some.inj hy2).symm)
    clear hy hy2 htk hel hI
    dsimp only [St.v, Array.zip, Array.foldl]
    gi_wp2
    refine ⟨(KeepB.refl _ _).alloc _, fun A2 hk2 hI2 => ?_⟩
    obtain ⟨hS, hZ, hB⟩ := hI2
    have hy5 := (Box5.new A1 y 23).keep hk2 (.inr hsz)
    obtain ⟨⟨y0, y1, y2, y3, y4⟩, _⟩ := hy5
    have hS' := hS
    obtain ⟨⟨s0, s1, s2, s3, s4⟩, sf⟩ := hS'
    have sf0 := sf 0
    have sf1 := sf 1
    have sf2 := sf 2
    have sf3 := sf 3
    have sf4 := sf 4
    have hset := hS.setAll y
    have HSet := Lib.hid hset
    clear hset sf
    gi_wp2
    obtain ⟨g1, g2⟩ := HSet.out
    refine ⟨g2.sub (fun _ _ _ => by omega), by rw [Hy.out]; exact g1, hZ.keep g2 (by omega), below_keep hB g2 hB.size (fun _ _ => by omega)⟩
  case done =>
    intro A1 hI hD
    rw [scanS_length] at hI
    obtain ⟨hS, hZ, hB⟩ := hI
    obtain ⟨⟨s0, s1, s2, s3, s4⟩, _⟩ := hS
    have hset := hZ.setAll (allS s (l.take l.length))
    have hZ' := hZ
    obtain ⟨⟨z0, z1, z2, z3, z4⟩, zf⟩ := hZ'
    have zf0 := zf 0
    have zf1 := zf 1
    have zf2 := zf 2
    have zf3 := zf 3
    have zf4 := zf 4
    have HSet := Lib.hid hset
    clear hset zf
    generalize allS s (l.take l.length) = fs at *
    gi_wp2
    obtain ⟨g1, g2⟩ := HSet.out
    clear HSet
    generalize ((((A1.setCell ⟨w.heap.size + 1, 0, none⟩ (.int .i64 fs.index)).setCell ⟨w.heap.size + 1, 1, none⟩ (.int .i64 fs.term)).setCell ⟨w.heap.size + 1, 2, none⟩ (.int .i64 fs.sum)).setCell ⟨w.heap.size + 1, 3, none⟩ (.int .i64 fs.level)).setCell ⟨w.heap.size + 1, 4, none⟩ (.bool fs.final) = W2 at *
    rw [hsz3] at hD
    refine ⟨by simp, .inl ⟨_, _, rfl, run_takeDeferred (g2.heap (by omega) hD), ?_⟩⟩
    have hk3 : KeepB (fun k => k ≠ w.heap.size + 4) W2 (W2.putObj (w.heap.size + 4) (Obj.deferred none)) := (KeepB.refl _ _).putObj _ _ (by simp)
    have g3 := g1.keep hk3 (by omega)
    have hB3 := below_keep (below_keep hB g2 hB.size (fun _ _ => by omega)) hk3 (Nat.le_trans hB.size g2.size) (fun _ _ => by omega)
    generalize W2.putObj (w.heap.size + 4) (Obj.deferred none) = W3 at *
    obtain ⟨⟨r0, r1, r2, r3, r4⟩, _⟩ := g3
    refine ⟨.agg #[.int .i64 fs.index, .int .i64 fs.term, .int .i64 fs.sum, .int .i64 fs.level, .bool fs.final], by simp [results, Tryd.results11, go_sem, r0, r1, r2, r3, r4], ?_, hB3⟩
    rw [Hfin.out]; rfl
end Go.Proofs.YtefpagijgiggmaaDoor
