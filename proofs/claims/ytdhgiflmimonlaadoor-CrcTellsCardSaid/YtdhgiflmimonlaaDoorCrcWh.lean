/- The walk of the laws' common part, 'wakes'. -/
import Derived.Test.YtdhgiflmimonlaaDoorCrcWg
import Derived.Lib.SlBytesConst
namespace Go.Proofs.YtdhgiflmimonlaaDoor
open Go Go.RowKit

def d9 : List UInt8 := [49, 50, 51, 52, 53, 54, 55, 56, 57]
def d4 : List UInt8 := [49, 50, 51, 52]
def d5 : List UInt8 := [53, 54, 55, 56, 57]
def z32 : List UInt8 := List.replicate 32 0
theorem d9_put : putN d9 = [49, 50, 51, 52, 53, 54, 55, 56, 57, 131, 146, 6, 227] := by decide +kernel
theorem d9_take : takeN (putN d9) = some d9 := by decide +kernel
theorem d3_take : takeN [1, 2, 3] = none := by decide +kernel
theorem d45_sum : sumN [d4, [], d5] = 3808858755 := by decide +kernel
theorem z32_sum : sumN [z32] = 2324772522 := by decide +kernel
theorem step08 : stepN 0 8 = 2197175160 := by decide +kernel


set_option maxHeartbeats 2000000 in
theorem wakes_any (w : World) (hr : RowsOK w) : Calls Tryd.prog 8 #[] w fun e w' => e = .returned (.bool true) ∧ Below w.heap.size w w' := by
  have hcv := fun (w : World) (C : Array Value) (n c : Nat) => Lib.run_convert_bytes_const (P := Tryd.prog) w 25 5 C n c Tryd.underlying25 Tryd.underlying5
  have hcv2 : ∀ (w : World) (D : Obj) (C : Array Value) (n c : Nat), (convert 25 25 (.slice (some ⟨w.heap.size + 1, 0, none⟩) n c)).run Tryd.prog ((w.alloc D).alloc (.cells C 5)) = .ok (.slice (some ⟨w.heap.size + 1, 0, none⟩) n c) ((w.alloc D).alloc (.cells C 5 (C.size, C.size + 1))) := fun w D C n c => by
    have := hcv (w.alloc D) C n c
    simpa using this
  have hmk : ∀ w : World, (Instr.makeSlice 25 (.int .i64 32) (.int .i64 32)).run Tryd.prog w = .ok (.slice (some ⟨w.heap.size, 0, none⟩) 32 32) (w.alloc (.cells (bvs z32).toArray 5)) := fun _ => by kernel_rfl
  go_enter Tryd.func8, Tryd.ntmps8
  go_wp2_with fail
  have hb1 : Below w.heap.size w (w.alloc (.cells (bvs d9).toArray 5 (9, 10))) := (Below.refl _ _).alloc (Nat.le_refl _) _
  refine (put_any _ _ d9 (by decide) (by decide) (by decide) _ (Rd.newF w (bvs d9) 5 (9, 10)) (hr.below hb1)).mono ?_
  rintro e w1 ⟨v1, rfl, hown1, hB1⟩
  have hs1 := bTr hb1 hB1
  have hown1 : w1.ownsRow _ 5 1 v1 13 (bvs (putN d9)) := hown1
  obtain ⟨A1, c1, rfl, hc1, hm1⟩ := own_sl hown1
  have hrd1 := Rd.of_own hown1
  go_wp2_with fail
  refine (take_any A1 c1 (putN d9) (by decide) hc1 hm1 w1 hrd1 (hr.below hs1)).mono ?_
  rintro e w2 ⟨v2, rfl, hown2, hB2⟩
  have hs2 := bTr hs1 hB2
  rw [d9_take] at hown2 ⊢
  have hown2 : w2.ownsRow _ 5 1 v2 9 (bvs d9) := hown2
  obtain ⟨A2, c2, rfl, hc2, hm2⟩ := own_sl hown2
  have hrd2 := Rd.of_own hown2
  go_wp2_with fail
  have hb3 : Below w.heap.size w (w2.alloc (.cells (bvs [1, 2, 3]).toArray 5)) := hs2.alloc hs2.size _
  refine (take_any _ 3 [1, 2, 3] (by decide) (by decide) (by decide) _ (Rd.new w2 (bvs [1, 2, 3]) 5) (hr.below hb3)).mono ?_
  rintro e w3 ⟨v3, rfl, _, hB3⟩
  have hs3 := bTr hb3 hB3
  rw [d3_take]
  go_wp2_with fail
  have hx1 : Below w.heap.size w (w3.alloc (.cells (bvs d4).toArray 5 (4, 5))) := hs3.alloc hs3.size _
  have hx2 : Below w.heap.size w ((w3.alloc (.cells (bvs d4).toArray 5 (4, 5))).alloc (.cells (bvs d5).toArray 5 (5, 6))) := hx1.alloc hx1.size _
  have hx3 : Below w.heap.size w (((w3.alloc (.cells (bvs d4).toArray 5 (4, 5))).alloc (.cells (bvs d5).toArray 5 (5, 6))).alloc (.cells #[.slice (some ⟨w3.heap.size, 0, none⟩) 4 4, .slice none 0 0, .slice (some ⟨w3.heap.size + 1, 0, none⟩) 5 5] 25)) := hx2.alloc hx2.size _
  have hr4 := Rd.newF w3 (bvs d4) 5 (4, 5)
  have hr5 := Rd.newF (w3.alloc (.cells (bvs d4).toArray 5 (4, 5))) (bvs d5) 5 (5, 6)
  have hrv := Rd.new ((w3.alloc (.cells (bvs d4).toArray 5 (4, 5))).alloc (.cells (bvs d5).toArray 5 (5, 6))) [.slice (some ⟨w3.heap.size, 0, none⟩) 4 4, .slice none 0 0, .slice (some ⟨w3.heap.size + 1, 0, none⟩) 5 5] 25
  have hr5' := hr5.below ((Below.refl _ _).alloc (Nat.le_refl _) (.cells #[.slice (some ⟨w3.heap.size, 0, none⟩) 4 4, .slice none 0 0, .slice (some ⟨w3.heap.size + 1, 0, none⟩) 5 5] 25))
  have hr4' := (hr4.below ((Below.refl _ _).alloc (Nat.le_refl _) (.cells (bvs d5).toArray 5 (5, 6)))).below ((Below.refl _ _).alloc (Nat.le_refl _) (.cells #[.slice (some ⟨w3.heap.size, 0, none⟩) 4 4, .slice none 0 0, .slice (some ⟨w3.heap.size + 1, 0, none⟩) 5 5] 25))
  simp only [World.size_alloc] at hr5' hrv
  have hrows : IsRows (((w3.alloc (.cells (bvs d4).toArray 5 (4, 5))).alloc (.cells (bvs d5).toArray 5 (5, 6))).alloc (.cells #[.slice (some ⟨w3.heap.size, 0, none⟩) 4 4, .slice none 0 0, .slice (some ⟨w3.heap.size + 1, 0, none⟩) 5 5] 25)) (some ⟨w3.heap.size + 1 + 1, 0, none⟩) [d4, [], d5] := by
    refine ⟨_, rfl, hrv, fun i v l h1 h2 => ?_⟩
    match i, h1, h2 with
    | 0, h1, h2 => simp at h1 h2; subst h1; subst h2; exact ⟨_, 4, rfl, by decide, hr4'⟩
    | 1, h1, h2 => simp at h1 h2; subst h1; subst h2; exact ⟨_, 0, rfl, by decide, Rd.nil _ _⟩
    | 2, h1, h2 => simp at h1 h2; subst h1; subst h2; exact ⟨_, 5, rfl, by decide, hr5'⟩
    | i + 3, h1, h2 => simp at h1
  refine (sum_any _ 3 [d4, [], d5] (by decide) _ hrows (hr.below hx3)).mono ?_
  rintro e w4 ⟨rfl, hB4⟩
  have hs4 := bTr hx3 hB4
  rw [d45_sum]
  clear hr4 hr5 hrv hr5' hr4' hrows hx1 hx2
  go_wp2_with fail
  have hy1 : Below w.heap.size w (w4.alloc (.cells (bvs z32).toArray 5)) := hs4.alloc hs4.size _
  have hy2 : Below w.heap.size w ((w4.alloc (.cells (bvs z32).toArray 5)).alloc (.cells #[.slice (some ⟨w4.heap.size, 0, none⟩) 32 32] 25)) := hy1.alloc hy1.size _
  have hrz := (Rd.new w4 (bvs z32) 5).below ((Below.refl _ _).alloc (Nat.le_refl _) (.cells #[.slice (some ⟨w4.heap.size, 0, none⟩) 32 32] 25))
  refine (sum_any _ 1 [z32] (by decide) _ (IsRows.one _ 32 (by decide) (by simp) (by simp; rfl) hrz) (hr.below hy2)).mono ?_
  rintro e w5 ⟨rfl, hB5⟩
  have hs5 := bTr hy2 hB5
  rw [z32_sum]
  clear hrz hy1 hmk
  go_wp2_with fail
  refine (sum_any none 0 [] (by decide) _ ⟨[], rfl, Rd.nil _ _, fun i v l h => by simp at h⟩ (hr.below hs5)).mono ?_
  rintro e w6 ⟨rfl, hB6⟩
  have hs6 := bTr hs5 hB6
  have k3 := bTr (hB2.alloc hB2.size (.cells (bvs [1, 2, 3]).toArray 5)) hB3
  have k3' := k3.alloc k3.size (.cells (bvs d4).toArray 5 (4, 5))
  have k3'' := k3'.alloc k3'.size (.cells (bvs d5).toArray 5 (5, 6))
  have k4 := bTr (k3''.alloc k3''.size _) hB4
  have k4' := k4.alloc k4.size (.cells (bvs z32).toArray 5)
  have k6 := bTr (bTr (k4'.alloc k4'.size _) hB5) hB6
  obtain ⟨g, o, rfl, hg, hc9⟩ := hrd1.at_ (k := 9) (u := .int .u8 131) rfl
  have hc12 := (hrd1.at_ (k := 12) (u := .int .u8 227) rfl)
  obtain ⟨g', o', e', _, hc12⟩ := hc12
  injection e' with e'
  injection e' with e1 e2
  subst e1; subst e2
  have hc9 := (k6.cell (p := ⟨g, o + 9, none⟩) hg).trans hc9
  have hc12 := (k6.cell (p := ⟨g, o + 12, none⟩) hg).trans hc12
  have l3 := bTr ((Below.refl w2.heap.size w2).alloc (Nat.le_refl _) (.cells (bvs [1, 2, 3]).toArray 5)) hB3
  have l3' := l3.alloc l3.size (.cells (bvs d4).toArray 5 (4, 5))
  have l3'' := l3'.alloc l3'.size (.cells (bvs d5).toArray 5 (5, 6))
  have l4 := bTr (l3''.alloc l3''.size _) hB4
  have l4' := l4.alloc l4.size (.cells (bvs z32).toArray 5)
  have l6 := bTr (bTr (l4'.alloc l4'.size _) hB5) hB6
  have hrd6 := hrd2.below l6
  rw [show sumN [] = 0 from rfl]
  clear k3 k3' k3'' k4 k4' k6 l3 l3' l3'' l4 l4' l6 hB2 hB3 hB4 hB5 hB6 hB1 hrd1 hrd2 hcv2 hs1 hs2 hs3 hs4 hs5 hx3 hy2 hb3 hb1
  go_wp2_with fail
  have hz1 : Below w.heap.size w (w6.alloc (.cells (bvs d9).toArray 5 (9, 10))) := hs6.alloc hs6.size _
  refine (same_any A2 _ c2 9 d9 d9 _ (hrd6.below ((Below.refl _ _).alloc (Nat.le_refl _) _)) (Rd.newF w6 (bvs d9) 5 (9, 10))).mono ?_
  rintro e w7 ⟨rfl, rfl⟩
  rw [show decide (d9 = d9) = true from rfl]
  go_wp2_with fail
  refine (step_i 0 8 0 8 rfl rfl (by omega) (by omega) _ (hr.below hz1)).mono ?_
  rintro e w8 ⟨rfl, rfl⟩
  rw [step08]
  go_wp2
  go_returns
  exact ⟨rfl, hz1⟩
end Go.Proofs.YtdhgiflmimonlaaDoor
