/- The walks of level: what is asked. -/
import Derived.Test.YtoehcmddfpompaaLevWa
import Derived.Deep.DeepCutAuto
namespace Go.Proofs.Ytoehcmddfpompaa
open Go Go.RowKit Go.Shelf

theorem run_store_func {P : Program} {w : World} {a : Addr} (f : Fn) (vs bs : Array Value) (m : Mode) : (store a (.func f vs bs) m).run P w = stored P w a (.func f vs bs) m := run_store P w a _ m rfl
attribute [local go_sem] run_store_func
/-- What is asked, by kind, as the map has it: b is the state's block, g the block of what still tells. -/
def asksL (b g : Nat) : List (Int × Value) :=
  [(1, .func (.func 26) #[] #[]), (2, .func (.func 27) #[] #[.pointer (some ⟨b + 1, 0, none⟩)]), (3, .func (.func 25) #[] #[.pointer (some ⟨b, 0, none⟩)]),
    (4, .func (.func 28) #[] #[.pointer (some ⟨g, 0, none⟩), .pointer (some ⟨b, 0, none⟩)])]
set_option maxHeartbeats 1000000 in
theorem asks_any (s : St) (A : Option Addr) (n c : Nat) (w : World) : Calls Try.prog 20 #[s.v, .slice A n c] w fun e w' => ∃ r, e = .returned (.map (some r)) ∧
    (MapIs w' r (asksL w.heap.size (w.heap.size + 2)) ∧ Box5 w' w.heap.size s ∧ Box w' (w.heap.size + 1) (.slice A n c) ∧ Box w' (w.heap.size + 2) (.func (.func 25) #[] #[.pointer (some ⟨w.heap.size, 0, none⟩)])) ∧ Below w.heap.size w w' := by
  have hmm := @run_makeMap Try.prog
  obtain ⟨a1, a2, a3, a4, a5⟩ := s
  dsimp only [St.v] at *
  have h5 := Box5.new w ⟨a1, a2, a3, a4, a5⟩ 23
  go_enter Try.func20, Try.ntmps20
  go_upto_region 1 with fail
  have hl5 := h5.lt
  have h5' := h5.alloc (.cells #[.slice A n c] 24)
  have hc := Box.new (w.alloc (.cells #[.int .i64 a1, .int .i64 a2, .int .i64 a3, .int .i64 a4, .bool a5] 23)) (.slice A n c) 24
  have hB : Below w.heap.size w ((w.alloc (.cells #[.int .i64 a1, .int .i64 a2, .int .i64 a3, .int .i64 a4, .bool a5] 23)).alloc (.cells #[.slice A n c] 24)) := ((Below.refl _ _).alloc (Nat.le_refl _) _).alloc (by simp) _
  have hs : ((w.alloc (.cells #[.int .i64 a1, .int .i64 a2, .int .i64 a3, .int .i64 a4, .bool a5] 23)).alloc (.cells #[.slice A n c] 24)).heap.size = w.heap.size + 2 := by simp
  rw [World.size_alloc] at hc
  clear h5 hl5
  generalize (w.alloc (.cells #[.int .i64 a1, .int .i64 a2, .int .i64 a3, .int .i64 a4, .bool a5] 23)).alloc (.cells #[.slice A n c] 24) = W at *
  have Hs := Lib.hid hs
  clear hs
  go_upto_region 2 with fail
  have hg := Box.new W (.func (.func 25) #[] #[.pointer (some ⟨w.heap.size, 0, none⟩)]) 47
  have h52 := h5'.alloc (.cells #[.func (.func 25) #[] #[.pointer (some ⟨w.heap.size, 0, none⟩)]] 47)
  have hc2 := hc.alloc (.cells #[.func (.func 25) #[] #[.pointer (some ⟨w.heap.size, 0, none⟩)]] 47)
  have hB2 := hB.alloc hB.size (.cells #[.func (.func 25) #[] #[.pointer (some ⟨w.heap.size, 0, none⟩)]] 47)
  rw [Hs.out] at hg
  clear h5' hc hB
  rw [Hs.out]
  have hs3 : (W.alloc (.cells #[.func (.func 25) #[] #[.pointer (some ⟨w.heap.size, 0, none⟩)]] 47)).heap.size = w.heap.size + 3 := by simp [Hs.out]
  generalize W.alloc (.cells #[.func (.func 25) #[] #[.pointer (some ⟨w.heap.size, 0, none⟩)]] 47) = W3 at *
  have Hs3 := Lib.hid hs3
  clear hs3
  have hgl := hg.lt
  go_wp2_with (refine list_insert rfl _ _ _ rfl Try.underlying49 Try.underlying3 (MapIs.made _) rfl _ rfl rfl ?_)
  intro w1 m1 k1
  go_wp2_with (refine list_insert rfl _ _ _ rfl Try.underlying49 Try.underlying3 m1 rfl _ rfl rfl ?_)
  intro w2 m2 k2
  have hg2 := ((hg.alloc (.map #[] 0)).keep k1 (by omega)).keep k2 (by omega)
  obtain ⟨cg, _⟩ := hg2
  go_wp2_with (refine list_insert rfl _ _ _ rfl Try.underlying49 Try.underlying3 m2 rfl _ rfl rfl ?_)
  intro w3 m3 k3
  go_wp2_with (refine list_insert rfl _ _ _ rfl Try.underlying49 Try.underlying3 m3 rfl _ rfl rfl ?_)
  intro w4 m4 k4
  go_wp2
  go_returns
  have hk := ((k1.trans (k2.sub fun _ _ h => h)).trans (k3.sub fun _ _ h => h)).trans (k4.sub fun _ _ h => h)
  have hk0 : KeepB (fun b => b < W3.heap.size) W3 w4 := ((KeepB.refl _ _).alloc (.map #[] 0)).trans (hk.sub fun _ _ h => by omega)
  have hz := Hs3.out
  exact ⟨_, rfl, ⟨m4, h52.keep hk0 (by omega), hc2.keep hk0 (by omega), hg.keep hk0 hgl⟩, below_keep hB2 hk0 hB2.size fun k hk => by omega⟩
end Go.Proofs.Ytoehcmddfpompaa
