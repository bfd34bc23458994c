/- Texts of one claim put together: what its walks share. -/
import Derived.Test.YtamjlcaoieliaaaMo1
import Derived.Test.YtamjlcaoieliaaaMo0
import Derived.Deep.DeepCutAuto
/- The walks of tuples: Save, Cut, Install, Hard. -/
namespace Go.Proofs.Ytamjlcaoieliaaa
open Go Go.RowKit
set_option maxRecDepth 100000
set_option maxHeartbeats 1000000

/-- Hard's change. -/
def hardR (x : Tu) (t v : Int) : Option Tu := if x.term < t ∨ t = x.term ∧ (x.vote = 0 ∨ x.vote = v) then some { x with term := t, vote := v } else none
theorem hard1_does (bf bg : Nat) (t v : Int) (w0 : World) (hbf : w0.heap[bf]? = some (.cells #[.int .i64 t] 3)) (hbg : w0.heap[bg]? = some (.cells #[.int .i64 v] 3)) (x : Tu) (hx : tupB x = true) :
    Does 86 #[.pointer (some ⟨bf, 0, none⟩), .pointer (some ⟨bg, 0, none⟩)] w0 x (hardR x t v) := by
  intro W bo A' c' hB hbo hT hLI hA'
  have hxb := tupB_bd x hx
  have hol : bo < W.heap.size := (Array.getElem?_eq_some_iff.1 hT).1
  have hle := hLI.le
  have hcp := hLI.cap
  have hAn := fun a ha => (hA' a ha).1
  have hbfl : bf < w0.heap.size := (Array.getElem?_eq_some_iff.1 hbf).1
  have hbfW : W.heap[bf]? = some (.cells #[.int .i64 t] 3) := (hB.block bf hbfl).trans hbf
  have hbfn : bf ≠ bo := by omega
  have hbgl : bg < w0.heap.size := (Array.getElem?_eq_some_iff.1 hbg).1
  have hbgW : W.heap[bg]? = some (.cells #[.int .i64 v] 3) := (hB.block bg hbgl).trans hbg
  have hbgn : bg ≠ bo := by omega
  show Calls _ _ #[_, _, _] _ _
  refine gw_enter3 Try.func86 rfl Try.ntmps86 rfl ?_
  have hS := St0.old (w := W) (fun k => k ≠ bo) (e := .box bo [.int .i64 x.snap.index, .int .i64 x.snap.term, .int .i64 x.snap.sum, .int .i64 x.snap.level, .bool x.snap.final, .slice A' x.log.length c', .int .i64 x.term, .int .i64 x.vote] 26) hT (fun k hk => by subst hk; exact ⟨hol, by simp⟩)
  by_cases h0 : x.term < t ∨ t = x.term ∧ (x.vote = 0 ∨ x.vote = v)
  · have e1 : hardR x t v = some { x with term := t, vote := v } := if_pos h0
    rw [e1]
    have hfin : ∀ w, KeepB (fun k => k ≠ bo) W w → w.heap[bo]? = some (.cells #[.int .i64 x.snap.index, .int .i64 x.snap.term, .int .i64 x.snap.sum, .int .i64 x.snap.level, .bool x.snap.final, .slice A' x.log.length c', .int .i64 t, .int .i64 v] 26) → (KeepB (fun k => k ≠ bo) W w ∧ ((∃ y A2 c2, some ({ x with term := t, vote := v } : Tu) = some y ∧ (Ending.returned (.tuple #[])) = .returned (.tuple #[]) ∧ TB w bo y A2 c2 ∧ LI w A2 y.log.length c2 y.log ∧ (∀ a, A2 = some a → a.block < w.heap.size ∧ ((∃ a', A' = some a' ∧ a.block = a'.block) ∨ W.heap.size ≤ a.block))) ∨ (some ({ x with term := t, vote := v } : Tu) = none ∧ (Ending.returned (.tuple #[])) = .panicked badP ∧ TB8 w bo))) :=
      fun w hk ho => ⟨hk, .inl ⟨_, A', c', rfl, rfl, ho, hLI.keep hk hAn, fun a ha => ⟨Nat.lt_of_lt_of_le (hA' a ha).2 hk.size, .inl ⟨a, ha, rfl⟩⟩⟩⟩
    by_cases h1 : x.term < t
    · repeat (first | (apply wpC_seq_k; intro K hK))
      refine wpC_draw 30 [] (fun _ _ => True) ⟨by kernel_rfl, by kernel_rfl⟩ hS (fun w hS hB => ?_)
      refine wpR_batch [true, true, true, true, true, true, true, true, true, true, true, true, true, true, true, true, true, true, true, true, true, true, true, true, true, true, true, true, true] (by decide +kernel) (by repeat (first | exact PF.body | apply PF.then)) ?_
      repeat (first | refine LtK.put rfl rfl rfl (by first | exact yv_move rfl | exact yv_fieldAddr (by first | exact fo_23_0 | exact fo_26_2 | exact fo_26_3) rfl | (apply yv_g_load; first | exact yv_load_box (by first | exact sc_1 | exact sc_3) rfl (RW.below _) hS (by repeat (first | exact Has.head | apply Has.tail)) (by first | trivial) (by repeat (first | exact Seg.here (Pre.succ Pre.zero) | apply Seg.succ)) | exact yv_load_ob (by first | exact sc_1 | exact sc_3) rfl (RW.below _) hS (by first | trivial) (by first | trivial) (by assumption) (by repeat (first | exact Seg.here (Pre.succ Pre.zero)))) | (apply yv_g_bin; first | exact yv_gtr_t rfl rfl (by omega)) | (apply yv_g_pick; first | exact yv_pick_t rfl rfl rfl) | exact yv_nilCheck rfl) ?_ | refine LtK.skip rfl rfl rfl ?_)
      refine LtK.nil ?_
      refine wpR_call [false, false, false, false, false, false, false, false, false, false, false, false, false, false, false, false, false, false, false, false, false, false, false, false, false, false, false, false, false, true] 29 ⟨by decide, by kernel_rfl, by kernel_rfl⟩ rfl rfl ?_
      dsimp only [pickL]
      repeat (first | apply wpS_nil | (apply wpS_g_call; first | refine wpS_callP rfl rfl rfl (by kernel_rfl) rfl (must_t _) hS (fun w hS hB => ?_)))
      refine QH_step (by first | assumption) ?_
      refine wpR_end (by kernel_rfl) ?_
      repeat (first | (apply QH_seq_k; assumption))
      refine wpC_draw 10 [6, 9] (fun i b => (i = 6 → b ≠ bo) ∧ (i = 9 → b ≠ bo)) ⟨by kernel_rfl, by kernel_rfl⟩ hS (fun w hS hB => ?_)
      refine wpR_batch [true, false, true] (by decide +kernel) (by repeat (first | exact PF.body)) ?_
      repeat (first | refine LtK.put rfl rfl rfl (by first | exact yv_move rfl | (apply yv_g_load; first | exact yv_load_ob (by first | exact sc_1 | exact sc_3) rfl (RW.below _) hS (by first | trivial) (by first | trivial) (by assumption) (by repeat (first | exact Seg.here (Pre.succ Pre.zero))))) ?_)
      refine LtK.nil ?_
      refine wpR_batchG [false, true, false, true, true] [6] (fun b => b ≠ bo) (by decide +kernel) (by intro j hj b hb; simp only [List.mem_cons, List.not_mem_nil, or_false] at hj; (try rcases hj with rfl | rfl) <;> simp_all) (by repeat (first | exact PF.body)) ?_
      repeat (first | refine LtK.put rfl rfl rfl (by first | exact yv_move rfl | (apply yv_g_load; first | exact yv_load_ob (by first | exact sc_1 | exact sc_3) rfl (RW.keepB _ _) hS (by first | trivial) (by first | trivial) (by assumption) (by repeat (first | exact Seg.here (Pre.succ Pre.zero)))) | exact yv_nilCheck rfl) ?_)
      refine LtK.nil ?_
      refine wpR_batch [false, false, false, false, false, true] (by decide +kernel) (by repeat (first | exact PF.body)) ?_
      repeat (first | refine LtK.put rfl rfl rfl (by first | exact yv_fieldAddr (by first | exact fo_23_0 | exact fo_26_2) rfl) ?_)
      refine LtK.nil ?_
      refine wpR_seal [false, false, false, false, false, false, true] 6 ⟨by decide, by kernel_rfl, by kernel_rfl⟩ rfl rfl ?_
      dsimp only [pickL]
      repeat (first | apply wpS_nil | (apply wpS_g_store; refine wpS_store rfl rfl rfl (by first | exact CellsOf.int) hS (by repeat (first | exact Pos.head)) (by repeat (first | exact SetC.here (by repeat (first | exact Ovr.nil | apply Ovr.cons)) | apply SetC.succ)) (by kernel_rfl) rfl (fun w hS hB => ?_)))
      refine QH_stepG (by first | exact hB.sub (fun _ _ h => by simpa using h)) ?_
      refine wpR_batchG [false, false, false, false, false, false, false, true] [9] (fun b => b ≠ bo) (by decide +kernel) (by intro j hj b hb; simp only [List.mem_cons, List.not_mem_nil, or_false] at hj; (try rcases hj with rfl | rfl) <;> simp_all) (by repeat (first | exact PF.body)) ?_
      repeat (first | refine LtK.put rfl rfl rfl (by first | exact yv_nilCheck rfl) ?_)
      refine LtK.nil ?_
      refine wpR_batch [false, false, false, false, false, false, false, false, true] (by decide +kernel) (by repeat (first | exact PF.body)) ?_
      repeat (first | refine LtK.put rfl rfl rfl (by first | exact yv_fieldAddr (by first | exact fo_23_0 | exact fo_26_3) rfl) ?_)
      refine LtK.nil ?_
      refine wpR_seal [false, false, false, false, false, false, false, false, false, true] 9 ⟨by decide, by kernel_rfl, by kernel_rfl⟩ rfl rfl ?_
      dsimp only [pickL]
      repeat (first | apply wpS_nil | (apply wpS_g_store; refine wpS_store rfl rfl rfl (by first | exact CellsOf.int) hS (by repeat (first | exact Pos.head)) (by repeat (first | exact SetC.here (by repeat (first | exact Ovr.nil | apply Ovr.cons)) | apply SetC.succ)) (by kernel_rfl) rfl (fun w hS hB => ?_)))
      refine QH_stepG (by first | exact hB.sub (fun _ _ h => by simpa using h)) ?_
      refine wpR_end (by kernel_rfl) ?_
      refine QH_end rfl (by first | exact RV.nil) rfl ?_
      exact hfin _ hS.base (hS.ok (.box bo [.int .i64 x.snap.index, .int .i64 x.snap.term, .int .i64 x.snap.sum, .int .i64 x.snap.level, .bool x.snap.final, .slice A' x.log.length c', .int .i64 t, .int .i64 v] 26) (Has.mem (by repeat (first | exact Has.head))))
    · have h2 : t = x.term := by omega
      by_cases h3 : x.vote = 0
      · repeat (first | (apply wpC_seq_k; intro K hK))
        refine wpC_draw 30 [] (fun _ _ => True) ⟨by kernel_rfl, by kernel_rfl⟩ hS (fun w hS hB => ?_)
        refine wpR_batch [true, true, true, true, true, true, true, true, true, true, true, true, true, true, true, true, true, true, true, true, true, true, true, true, true, true, true, true, true] (by decide +kernel) (by repeat (first | exact PF.body | apply PF.then)) ?_
        repeat (first | refine LtK.put rfl rfl rfl (by first | exact yv_move rfl | exact yv_fieldAddr (by first | exact fo_23_0 | exact fo_26_2 | exact fo_26_3) rfl | (apply yv_g_load; first | exact yv_load_box (by first | exact sc_1 | exact sc_3) rfl (RW.below _) hS (by repeat (first | exact Has.head | apply Has.tail)) (by first | trivial) (by repeat (first | exact Seg.here (Pre.succ Pre.zero) | apply Seg.succ)) | exact yv_load_ob (by first | exact sc_1 | exact sc_3) rfl (RW.below _) hS (by first | trivial) (by first | trivial) (by assumption) (by repeat (first | exact Seg.here (Pre.succ Pre.zero)))) | (apply yv_g_bin; first | exact yv_gtr_f rfl rfl (by omega) | exact yv_eql_t rfl rfl (by omega)) | (apply yv_g_pick; first | exact yv_pick_t rfl rfl rfl | exact yv_pick_f rfl rfl rfl) | exact yv_nilCheck rfl) ?_ | refine LtK.skip rfl rfl rfl ?_)
        refine LtK.nil ?_
        refine wpR_call [false, false, false, false, false, false, false, false, false, false, false, false, false, false, false, false, false, false, false, false, false, false, false, false, false, false, false, false, false, true] 29 ⟨by decide, by kernel_rfl, by kernel_rfl⟩ rfl rfl ?_
        dsimp only [pickL]
        repeat (first | apply wpS_nil | (apply wpS_g_call; first | refine wpS_callP rfl rfl rfl (by kernel_rfl) rfl (must_t _) hS (fun w hS hB => ?_)))
        refine QH_step (by first | assumption) ?_
        refine wpR_end (by kernel_rfl) ?_
        repeat (first | (apply QH_seq_k; assumption))
        refine wpC_draw 10 [6, 9] (fun i b => (i = 6 → b ≠ bo) ∧ (i = 9 → b ≠ bo)) ⟨by kernel_rfl, by kernel_rfl⟩ hS (fun w hS hB => ?_)
        refine wpR_batch [true, false, true] (by decide +kernel) (by repeat (first | exact PF.body)) ?_
        repeat (first | refine LtK.put rfl rfl rfl (by first | exact yv_move rfl | (apply yv_g_load; first | exact yv_load_ob (by first | exact sc_1 | exact sc_3) rfl (RW.below _) hS (by first | trivial) (by first | trivial) (by assumption) (by repeat (first | exact Seg.here (Pre.succ Pre.zero))))) ?_)
        refine LtK.nil ?_
        refine wpR_batchG [false, true, false, true, true] [6] (fun b => b ≠ bo) (by decide +kernel) (by intro j hj b hb; simp only [List.mem_cons, List.not_mem_nil, or_false] at hj; (try rcases hj with rfl | rfl) <;> simp_all) (by repeat (first | exact PF.body)) ?_
        repeat (first | refine LtK.put rfl rfl rfl (by first | exact yv_move rfl | (apply yv_g_load; first | exact yv_load_ob (by first | exact sc_1 | exact sc_3) rfl (RW.keepB _ _) hS (by first | trivial) (by first | trivial) (by assumption) (by repeat (first | exact Seg.here (Pre.succ Pre.zero)))) | exact yv_nilCheck rfl) ?_)
        refine LtK.nil ?_
        refine wpR_batch [false, false, false, false, false, true] (by decide +kernel) (by repeat (first | exact PF.body)) ?_
        repeat (first | refine LtK.put rfl rfl rfl (by first | exact yv_fieldAddr (by first | exact fo_23_0 | exact fo_26_2) rfl) ?_)
        refine LtK.nil ?_
        refine wpR_seal [false, false, false, false, false, false, true] 6 ⟨by decide, by kernel_rfl, by kernel_rfl⟩ rfl rfl ?_
        dsimp only [pickL]
        repeat (first | apply wpS_nil | (apply wpS_g_store; refine wpS_store rfl rfl rfl (by first | exact CellsOf.int) hS (by repeat (first | exact Pos.head)) (by repeat (first | exact SetC.here (by repeat (first | exact Ovr.nil | apply Ovr.cons)) | apply SetC.succ)) (by kernel_rfl) rfl (fun w hS hB => ?_)))
        refine QH_stepG (by first | exact hB.sub (fun _ _ h => by simpa using h)) ?_
        refine wpR_batchG [false, false, false, false, false, false, false, true] [9] (fun b => b ≠ bo) (by decide +kernel) (by intro j hj b hb; simp only [List.mem_cons, List.not_mem_nil, or_false] at hj; (try rcases hj with rfl | rfl) <;> simp_all) (by repeat (first | exact PF.body)) ?_
        repeat (first | refine LtK.put rfl rfl rfl (by first | exact yv_nilCheck rfl) ?_)
        refine LtK.nil ?_
        refine wpR_batch [false, false, false, false, false, false, false, false, true] (by decide +kernel) (by repeat (first | exact PF.body)) ?_
        repeat (first | refine LtK.put rfl rfl rfl (by first | exact yv_fieldAddr (by first | exact fo_23_0 | exact fo_26_3) rfl) ?_)
        refine LtK.nil ?_
        refine wpR_seal [false, false, false, false, false, false, false, false, false, true] 9 ⟨by decide, by kernel_rfl, by kernel_rfl⟩ rfl rfl ?_
        dsimp only [pickL]
        repeat (first | apply wpS_nil | (apply wpS_g_store; refine wpS_store rfl rfl rfl (by first | exact CellsOf.int) hS (by repeat (first | exact Pos.head)) (by repeat (first | exact SetC.here (by repeat (first | exact Ovr.nil | apply Ovr.cons)) | apply SetC.succ)) (by kernel_rfl) rfl (fun w hS hB => ?_)))
        refine QH_stepG (by first | exact hB.sub (fun _ _ h => by simpa using h)) ?_
        refine wpR_end (by kernel_rfl) ?_
        refine QH_end rfl (by first | exact RV.nil) rfl ?_
        exact hfin _ hS.base (hS.ok (.box bo [.int .i64 x.snap.index, .int .i64 x.snap.term, .int .i64 x.snap.sum, .int .i64 x.snap.level, .bool x.snap.final, .slice A' x.log.length c', .int .i64 t, .int .i64 v] 26) (Has.mem (by repeat (first | exact Has.head))))
      · have h4 : x.vote = v := by omega
        repeat (first | (apply wpC_seq_k; intro K hK))
        refine wpC_draw 30 [] (fun _ _ => True) ⟨by kernel_rfl, by kernel_rfl⟩ hS (fun w hS hB => ?_)
        refine wpR_batch [true, true, true, true, true, true, true, true, true, true, true, true, true, true, true, true, true, true, true, true, true, true, true, true, true, true, true, true, true] (by decide +kernel) (by repeat (first | exact PF.body | apply PF.then)) ?_
        repeat (first | refine LtK.put rfl rfl rfl (by first | exact yv_move rfl | exact yv_fieldAddr (by first | exact fo_23_0 | exact fo_26_2 | exact fo_26_3) rfl | (apply yv_g_load; first | exact yv_load_box (by first | exact sc_1 | exact sc_3) rfl (RW.below _) hS (by repeat (first | exact Has.head | apply Has.tail)) (by first | trivial) (by repeat (first | exact Seg.here (Pre.succ Pre.zero) | apply Seg.succ)) | exact yv_load_ob (by first | exact sc_1 | exact sc_3) rfl (RW.below _) hS (by first | trivial) (by first | trivial) (by assumption) (by repeat (first | exact Seg.here (Pre.succ Pre.zero)))) | (apply yv_g_bin; first | exact yv_gtr_f rfl rfl (by omega) | exact yv_eql_t rfl rfl (by omega) | exact yv_eql_f rfl rfl (by omega)) | (apply yv_g_pick; first | exact yv_pick_t rfl rfl rfl | exact yv_pick_f rfl rfl rfl) | exact yv_nilCheck rfl) ?_)
        refine LtK.nil ?_
        refine wpR_call [false, false, false, false, false, false, false, false, false, false, false, false, false, false, false, false, false, false, false, false, false, false, false, false, false, false, false, false, false, true] 29 ⟨by decide, by kernel_rfl, by kernel_rfl⟩ rfl rfl ?_
        dsimp only [pickL]
        repeat (first | apply wpS_nil | (apply wpS_g_call; first | refine wpS_callP rfl rfl rfl (by kernel_rfl) rfl (must_t _) hS (fun w hS hB => ?_)))
        refine QH_step (by first | assumption) ?_
        refine wpR_end (by kernel_rfl) ?_
        repeat (first | (apply QH_seq_k; assumption))
        refine wpC_draw 10 [6, 9] (fun i b => (i = 6 → b ≠ bo) ∧ (i = 9 → b ≠ bo)) ⟨by kernel_rfl, by kernel_rfl⟩ hS (fun w hS hB => ?_)
        refine wpR_batch [true, false, true] (by decide +kernel) (by repeat (first | exact PF.body)) ?_
        repeat (first | refine LtK.put rfl rfl rfl (by first | exact yv_move rfl | (apply yv_g_load; first | exact yv_load_ob (by first | exact sc_1 | exact sc_3) rfl (RW.below _) hS (by first | trivial) (by first | trivial) (by assumption) (by repeat (first | exact Seg.here (Pre.succ Pre.zero))))) ?_)
        refine LtK.nil ?_
        refine wpR_batchG [false, true, false, true, true] [6] (fun b => b ≠ bo) (by decide +kernel) (by intro j hj b hb; simp only [List.mem_cons, List.not_mem_nil, or_false] at hj; (try rcases hj with rfl | rfl) <;> simp_all) (by repeat (first | exact PF.body)) ?_
        repeat (first | refine LtK.put rfl rfl rfl (by first | exact yv_move rfl | (apply yv_g_load; first | exact yv_load_ob (by first | exact sc_1 | exact sc_3) rfl (RW.keepB _ _) hS (by first | trivial) (by first | trivial) (by assumption) (by repeat (first | exact Seg.here (Pre.succ Pre.zero)))) | exact yv_nilCheck rfl) ?_)
        refine LtK.nil ?_
        refine wpR_batch [false, false, false, false, false, true] (by decide +kernel) (by repeat (first | exact PF.body)) ?_
        repeat (first | refine LtK.put rfl rfl rfl (by first | exact yv_fieldAddr (by first | exact fo_23_0 | exact fo_26_2) rfl) ?_)
        refine LtK.nil ?_
        refine wpR_seal [false, false, false, false, false, false, true] 6 ⟨by decide, by kernel_rfl, by kernel_rfl⟩ rfl rfl ?_
        dsimp only [pickL]
        repeat (first | apply wpS_nil | (apply wpS_g_store; refine wpS_store rfl rfl rfl (by first | exact CellsOf.int) hS (by repeat (first | exact Pos.head)) (by repeat (first | exact SetC.here (by repeat (first | exact Ovr.nil | apply Ovr.cons)) | apply SetC.succ)) (by kernel_rfl) rfl (fun w hS hB => ?_)))
        refine QH_stepG (by first | exact hB.sub (fun _ _ h => by simpa using h)) ?_
        refine wpR_batchG [false, false, false, false, false, false, false, true] [9] (fun b => b ≠ bo) (by decide +kernel) (by intro j hj b hb; simp only [List.mem_cons, List.not_mem_nil, or_false] at hj; (try rcases hj with rfl | rfl) <;> simp_all) (by repeat (first | exact PF.body)) ?_
        repeat (first | refine LtK.put rfl rfl rfl (by first | exact yv_nilCheck rfl) ?_)
        refine LtK.nil ?_
        refine wpR_batch [false, false, false, false, false, false, false, false, true] (by decide +kernel) (by repeat (first | exact PF.body)) ?_
        repeat (first | refine LtK.put rfl rfl rfl (by first | exact yv_fieldAddr (by first | exact fo_23_0 | exact fo_26_3) rfl) ?_)
        refine LtK.nil ?_
        refine wpR_seal [false, false, false, false, false, false, false, false, false, true] 9 ⟨by decide, by kernel_rfl, by kernel_rfl⟩ rfl rfl ?_
        dsimp only [pickL]
        repeat (first | apply wpS_nil | (apply wpS_g_store; refine wpS_store rfl rfl rfl (by first | exact CellsOf.int) hS (by repeat (first | exact Pos.head)) (by repeat (first | exact SetC.here (by repeat (first | exact Ovr.nil | apply Ovr.cons)) | apply SetC.succ)) (by kernel_rfl) rfl (fun w hS hB => ?_)))
        refine QH_stepG (by first | exact hB.sub (fun _ _ h => by simpa using h)) ?_
        refine wpR_end (by kernel_rfl) ?_
        refine QH_end rfl (by first | exact RV.nil) rfl ?_
        exact hfin _ hS.base (hS.ok (.box bo [.int .i64 x.snap.index, .int .i64 x.snap.term, .int .i64 x.snap.sum, .int .i64 x.snap.level, .bool x.snap.final, .slice A' x.log.length c', .int .i64 t, .int .i64 v] 26) (Has.mem (by repeat (first | exact Has.head))))
  · have e1 : hardR x t v = none := if_neg h0
    rw [e1]
    have h1 : ¬ x.term < t := fun h => h0 (.inl h)
    by_cases h2 : t = x.term
    · have h3 : x.vote ≠ 0 := fun h => h0 (.inr ⟨h2, .inl h⟩)
      have h4 : x.vote ≠ v := fun h => h0 (.inr ⟨h2, .inr h⟩)
      repeat (first | (apply wpC_seq_k; intro K hK))
      refine wpC_draw 30 [] (fun _ _ => True) ⟨by kernel_rfl, by kernel_rfl⟩ hS (fun w hS hB => ?_)
      refine wpR_batch [true, true, true, true, true, true, true, true, true, true, true, true, true, true, true, true, true, true, true, true, true, true, true, true, true, true, true, true, true] (by decide +kernel) (by repeat (first | exact PF.body | apply PF.then)) ?_
      repeat (first | refine LtK.put rfl rfl rfl (by first | exact yv_move rfl | exact yv_fieldAddr (by first | exact fo_23_0 | exact fo_26_2 | exact fo_26_3) rfl | (apply yv_g_load; first | exact yv_load_box (by first | exact sc_1 | exact sc_3) rfl (RW.below _) hS (by repeat (first | exact Has.head | apply Has.tail)) (by first | trivial) (by repeat (first | exact Seg.here (Pre.succ Pre.zero) | apply Seg.succ)) | exact yv_load_ob (by first | exact sc_1 | exact sc_3) rfl (RW.below _) hS (by first | trivial) (by first | trivial) (by assumption) (by repeat (first | exact Seg.here (Pre.succ Pre.zero)))) | (apply yv_g_bin; first | exact yv_gtr_f rfl rfl (by omega) | exact yv_eql_t rfl rfl (by omega) | exact yv_eql_f rfl rfl (by omega)) | (apply yv_g_pick; first | exact yv_pick_t rfl rfl rfl | exact yv_pick_f rfl rfl rfl) | exact yv_nilCheck rfl) ?_)
      refine LtK.nil ?_
      refine wpR_call [false, false, false, false, false, false, false, false, false, false, false, false, false, false, false, false, false, false, false, false, false, false, false, false, false, false, false, false, false, true] 29 ⟨by decide, by kernel_rfl, by kernel_rfl⟩ rfl rfl ?_
      dsimp only [pickL]
      repeat (first | (apply wpS_g_call; first | (refine wpS_callPanic rfl rfl (by kernel_rfl) rfl (must_f _) ?_; rintro e w2 ⟨rfl, hB2⟩; refine ⟨_, rfl, ?_⟩)) | apply QH_then_panic)
      exact QH_panic rfl ⟨(hS.below hB2).base, .inr ⟨rfl, rfl, TB.eight (x := x) (A := A') (c := c') ((hS.below hB2).ok (.box bo [.int .i64 x.snap.index, .int .i64 x.snap.term, .int .i64 x.snap.sum, .int .i64 x.snap.level, .bool x.snap.final, .slice A' x.log.length c', .int .i64 x.term, .int .i64 x.vote] 26) (Has.mem (by repeat (first | exact Has.head))))⟩⟩
    · repeat (first | (apply wpC_seq_k; intro K hK))
      refine wpC_draw 30 [] (fun _ _ => True) ⟨by kernel_rfl, by kernel_rfl⟩ hS (fun w hS hB => ?_)
      refine wpR_batch [true, true, true, true, true, true, true, true, true, true, true, true, true, true, true, true, true, true, true, true, true, true, true, true, true, true, true, true, true] (by decide +kernel) (by repeat (first | exact PF.body | apply PF.then)) ?_
      repeat (first | refine LtK.put rfl rfl rfl (by first | exact yv_move rfl | exact yv_fieldAddr (by first | exact fo_23_0 | exact fo_26_2 | exact fo_26_3) rfl | (apply yv_g_load; first | exact yv_load_box (by first | exact sc_1 | exact sc_3) rfl (RW.below _) hS (by repeat (first | exact Has.head | apply Has.tail)) (by first | trivial) (by repeat (first | exact Seg.here (Pre.succ Pre.zero) | apply Seg.succ)) | exact yv_load_ob (by first | exact sc_1 | exact sc_3) rfl (RW.below _) hS (by first | trivial) (by first | trivial) (by assumption) (by repeat (first | exact Seg.here (Pre.succ Pre.zero)))) | (apply yv_g_bin; first | exact yv_gtr_f rfl rfl (by omega) | exact yv_eql_f rfl rfl (by omega)) | (apply yv_g_pick; first | exact yv_pick_f rfl rfl rfl) | exact yv_nilCheck rfl) ?_ | refine LtK.skip rfl rfl rfl ?_)
      refine LtK.nil ?_
      refine wpR_call [false, false, false, false, false, false, false, false, false, false, false, false, false, false, false, false, false, false, false, false, false, false, false, false, false, false, false, false, false, true] 29 ⟨by decide, by kernel_rfl, by kernel_rfl⟩ rfl rfl ?_
      dsimp only [pickL]
      repeat (first | (apply wpS_g_call; first | (refine wpS_callPanic rfl rfl (by kernel_rfl) rfl (must_f _) ?_; rintro e w2 ⟨rfl, hB2⟩; refine ⟨_, rfl, ?_⟩)) | apply QH_then_panic)
      exact QH_panic rfl ⟨(hS.below hB2).base, .inr ⟨rfl, rfl, TB.eight (x := x) (A := A') (c := c') ((hS.below hB2).ok (.box bo [.int .i64 x.snap.index, .int .i64 x.snap.term, .int .i64 x.snap.sum, .int .i64 x.snap.level, .bool x.snap.final, .slice A' x.log.length c', .int .i64 x.term, .int .i64 x.vote] 26) (Has.mem (by repeat (first | exact Has.head))))⟩⟩
theorem hard_any (x : Tu) (A : Option Addr) (c : Nat) (t v : Int) (w0 : World) (hx : LI w0 A x.log.length c x.log) (hA : ∀ a, A = some a → a.block < w0.heap.size) :
    Calls Try.prog 49 #[.agg #[.int .i64 x.snap.index, .int .i64 x.snap.term, .int .i64 x.snap.sum, .int .i64 x.snap.level, .bool x.snap.final, .slice A x.log.length c, .int .i64 x.term, .int .i64 x.vote], .int .i64 t, .int .i64 v] w0 (Chg w0 x (hardR x t v)) := by
  refine gw_enter3 Try.func49 rfl Try.ntmps49 rfl ?_
  have hS := St0.start All w0
  repeat (first | (apply wpC_seq_k; intro K hK) | apply wpC_region)
  first | (apply wpS_g_box; refine wpS_box rfl rfl rfl (by first | exact CellsOf.agg) hS (fun bt w hS hB => ?_))
  first | (apply wpS_g_box; refine wpS_box rfl rfl rfl (by first | exact CellsOf.int) hS (fun bf w hS hB => ?_))
  first | (apply wpS_g_box; refine wpS_box rfl rfl rfl (by first | exact CellsOf.int) hS (fun bg w hS hB => ?_))
  repeat (first | apply wpS_nil | (apply QH_seq_k; assumption) | (apply wpC_seq_k; intro K hK) | apply wpC_region | (apply wpS_g_alloc; refine wpS_alloc rfl rfl (by first | exact zc_26) hS (fun b w hS hB => ?_)) | (apply wpS_g; refine wpS_put rfl rfl rfl (by first | exact yv_assign rfl | (apply yv_g_load; first | exact yv_load_boxA (by first | exact ag_26) rfl (RW.here _) hS (by repeat (first | exact Has.head | apply Has.tail)) (by first | trivial) (by repeat (first | exact Seg.here (by repeat (first | exact Pre.zero | apply Pre.succ))))) | exact yv_makeFunc rfl rfl) ?_))
  have hbf := (hS.box_ge (b := bf) (by repeat (first | exact Has.head | apply Has.tail)))
  have hbg := (hS.box_ge (b := bg) (by repeat (first | exact Has.head | apply Has.tail)))
  refine wpS_call rfl rfl rfl rfl (by kernel_rfl) rfl (changed_any x (hardR x t v) A c 86 #[.pointer (some ⟨bf, 0, none⟩), .pointer (some ⟨bg, 0, none⟩)] _ (by kernel_rfl) (hx.below hS.pure) (fun a ha => Nat.lt_of_lt_of_le (hA a ha) hS.size)
    (fun hT => hard1_does bf bg t v _ hbf.2.2 hbg.2.2 x hT)) ?_
  rintro e w1 ⟨A2, c2, ⟨rfl, hs⟩, hB⟩
  refine ⟨_, rfl, ?_⟩
  replace hS := hS.slice hs hB
  repeat (first | apply wpS_nil | (apply QH_seq_k; assumption) | (apply wpS_g_store; refine wpS_store rfl rfl rfl (by first | exact CellsOf.agg) hS (by repeat (first | exact Pos.head | apply Pos.tail)) (by repeat (first | exact SetC.here (by repeat (first | exact Ovr.nil | apply Ovr.cons)))) (by kernel_rfl) rfl (fun w hS hB => ?_)) | (apply wpS_g; refine wpS_put rfl rfl rfl (by first | exact yv_assign rfl | exact yv_extract rfl rfl) ?_) | apply wpC_ret)
  refine QH_ret rfl (by first | exact RV.cell rfl (load_boxA (by first | exact ag_26) hS (by repeat (first | exact Has.head | apply Has.tail)) (by repeat (first | exact Seg.here (by repeat (first | exact Pre.zero | apply Pre.succ))))) (RV.tmp rfl RV.nil)) rfl ?_
  exact ⟨A2, c2, ⟨rfl, hS.giveS (by repeat (first | exact Has.head)) hs.len hs.le hs.cap⟩, hS.pure⟩

end Go.Proofs.Ytamjlcaoieliaaa
/- The walks of tuples: State, First. -/
namespace Go.Proofs.Ytamjlcaoieliaaa
open Go Go.RowKit
set_option maxRecDepth 100000

theorem next_p (s : St) (e : En) (w : World) : PureC Try.prog 100 #[.agg #[.int .i64 s.index, .int .i64 s.term, .int .i64 s.sum, .int .i64 s.level, .bool s.final], .agg #[.int .i64 e.term, .int .i64 e.kind, .int .i64 e.value]] w (.agg #[.int .i64 (nextS s e).index, .int .i64 (nextS s e).term, .int .i64 (nextS s e).sum, .int .i64 (nextS s e).level, .bool (nextS s e).final]) := ⟨next_any s e w⟩
/-- Where State's loop is. -/
structure SX where
  bt : Nat
  bs : Nat
  A : Option Addr
  c : Nat
  j : Nat
  n : Nat
theorem state_yes (x : Tu) (A : Option Addr) (c : Nat) (k : Nat) (w0 : World) (h : -2000000000000 ≤ x.snap.index ∧ x.snap.index ≤ 2000000000000) (hl : LI w0 A x.log.length c x.log) (i : Int) (hi : i = x.snap.index + k) (hk : k ≤ x.log.length) :
    PureC Try.prog 63 #[.agg #[.int .i64 x.snap.index, .int .i64 x.snap.term, .int .i64 x.snap.sum, .int .i64 x.snap.level, .bool x.snap.final, .slice A x.log.length c, .int .i64 x.term, .int .i64 x.vote], .int .i64 i] w0 (.tuple #[.agg #[.int .i64 (allS x.snap (x.log.take k)).index, .int .i64 (allS x.snap (x.log.take k)).term, .int .i64 (allS x.snap (x.log.take k)).sum, .int .i64 (allS x.snap (x.log.take k)).level, .bool (allS x.snap (x.log.take k)).final], .bool true]) := by
  refine PureC.mk ?_
  have hsm := hl.small
  have hle := hl.le
  have hcp := hl.cap
  have hkl : (x.log.take k).length = k := by rw [List.length_take]; omega
  have hrd : Rd w0 A (ens (x.log.take k)) := by
    have := hl.rd.take (3 * k)
    have e2 : (ens x.log).take (3 * k) = ens (x.log.take k) := by
      have := ens_app (x.log.take k) (x.log.drop k)
      rw [List.take_append_drop] at this
      rw [this, List.take_left' (by rw [ens_length, hkl])]
    rwa [e2] at this
  refine gw_enter2 Try.func63 rfl Try.ntmps63 rfl ?_
  have hS := St0.start All w0
  repeat (first | (apply wpC_seq_k; intro K hK) | apply wpC_region)
  first | (apply wpS_g_box; refine wpS_box rfl rfl rfl (by first | exact CellsOf.agg) hS (fun bt w hS hB => ?_))
  first | (apply wpS_g_alloc; refine wpS_alloc rfl rfl (by first | exact zc_23) hS (fun bs w hS hB => ?_))
  repeat (first | apply wpS_nil | (apply QH_seq_k; assumption) | (apply wpS_g; refine wpS_put rfl rfl rfl (by first | exact yv_assign rfl) ?_))
  refine wpC_scope 0 (fun y : SX => [(6, .slice y.A y.n y.c), (5, .bool false), (4, .pointer (some ⟨y.bs, 0, none⟩)), (2, .pointer (some ⟨y.bt, 0, none⟩)), (1, .int .i64 i)])
    (fun y w => y.j + y.n = k ∧ y.n ≤ y.c ∧ y.c ≤ maxLen ∧ Rd w0 y.A (ens ((x.log.take k).drop y.j)) ∧ St0 All w0 w [.box y.bs [.int .i64 (allS x.snap (x.log.take y.j)).index, .int .i64 (allS x.snap (x.log.take y.j)).term, .int .i64 (allS x.snap (x.log.take y.j)).sum, .int .i64 (allS x.snap (x.log.take y.j)).level, .bool (allS x.snap (x.log.take y.j)).final] 23, .box y.bt [.int .i64 x.snap.index, .int .i64 x.snap.term, .int .i64 x.snap.sum, .int .i64 x.snap.level, .bool x.snap.final, .slice A x.log.length c, .int .i64 x.term, .int .i64 x.vote] 26])
    (fun y => y.n) rfl ?_ ?_
  · rintro ⟨bt, bs, Aj, cj, j, n⟩ w ⟨hj, hcj, hcm, hrj, hS⟩
    dsimp only at hj hcj hcm hrj hS ⊢
    rcases Nat.eq_zero_or_pos n with rfl | hn
    · obtain rfl : j = k := by omega
      repeat (first | apply wpS_nil | (apply QH_seq_k; assumption) | (apply wpC_seq_k; intro K hK) | apply wpC_region | (apply wpS_g_store; refine wpS_store rfl rfl rfl (by first | exact CellsOf.agg) hS (by repeat (first | exact Pos.head)) (by repeat (first | exact SetC.here (by repeat (first | exact Ovr.nil | apply Ovr.cons)))) (by kernel_rfl) rfl (fun w hS hB => ?_)) | (apply wpS_g; refine wpS_put rfl rfl rfl (by first | exact yv_move rfl | exact yv_assign rfl | (apply yv_g_load; first | exact yv_load_boxA (by first | exact ag_23) rfl (RW.here _) hS (by repeat (first | exact Has.head)) (by first | trivial) (by repeat (first | exact Seg.here (by repeat (first | exact Pre.zero | apply Pre.succ))))) | (apply yv_g_bin; first | exact yv_gtr_f rfl rfl (by omega)) | (apply yv_g_bi; first | exact yv_len (by first | exact el_24) rfl)) ?_) | apply wpC_cond_f rfl rfl | apply wpC_skip | apply wpC_ret | apply QH_jmp_ret)
      refine QH_ret rfl (by first | exact RV.cell rfl (load_boxA (by first | exact ag_23) hS (by repeat (first | exact Has.head)) (by repeat (first | exact Seg.here (by repeat (first | exact Pre.zero | apply Pre.succ))))) (RV.tmp rfl RV.nil)) rfl ?_
      exact ⟨rfl, hS.pure⟩
    · obtain ⟨e, he⟩ : ∃ e, ((x.log.take k).drop j)[0]? = some e := ⟨_, List.getElem?_eq_getElem (by rw [List.length_drop]; omega)⟩
      obtain ⟨b1, o1, hA1, hb1, hr1⟩ := hrj.entR he
      subst hA1
      have htk : x.log.take (j + 1) = x.log.take j ++ [e] := by
        rw [List.getElem?_drop, List.getElem?_take] at he
        split at he
        · rw [List.take_add_one]; rw [show x.log[j]? = some e from by simpa using he]; rfl
        · cases he
      repeat (first | (apply QH_seq_k; assumption) | (apply wpC_seq_k; intro K hK) | apply wpC_skip)
      apply wpC_region
      repeat (first | apply wpS_nil | (apply QH_seq_k; assumption) | (apply wpC_seq_k; intro K hK) | (apply wpS_g; refine wpS_put rfl rfl rfl (by first | exact yv_move rfl | (apply yv_g_bin; first | exact yv_gtr_t rfl rfl (by omega)) | (apply yv_g_bi; first | exact yv_len (by first | exact el_24) rfl)) ?_) | apply wpC_cond_t rfl rfl)
      refine wpC_draw 9 [7] (fun i b => (i = 7 → b ≠ bs)) ⟨by kernel_rfl, by kernel_rfl⟩ hS (fun w hS hB => ?_)
      refine wpR_batch [true, true, true, true] (by decide +kernel) (by repeat (first | exact PF.body | apply PF.then | apply PF.jump)) ?_
      repeat (first | refine LtK.put rfl rfl rfl (by first | exact yv_indexAddr (j := 0) (by first | exact el_24) rfl rfl rfl (by omega) | exact yv_move rfl | (apply yv_g_load; first | exact yv_load_boxA (by first | exact ag_23 | exact ag_56) rfl (RW.below _) hS (by repeat (first | exact Has.head | apply Has.tail)) (by first | trivial) (by repeat (first | exact Seg.here (by repeat (first | exact Pre.zero | apply Pre.succ)))) | exact yv_loadA_old (by first | exact ag_23 | exact ag_56) rfl (RW.below _) hS (by first | trivial) (by first | trivial) (by assumption) (by rfl))) ?_)
      refine LtK.nil ?_
      refine wpR_batchG [false, false, false, false, false, true, true] [7] (fun b => b ≠ bs) (by decide +kernel) (by intro j hj b hb; simp only [List.mem_cons, List.not_mem_nil, or_false] at hj; (try rcases hj with rfl | rfl) <;> simp_all) (by repeat (first | exact PF.body | apply PF.then | apply PF.jump)) ?_
      repeat (first | refine LtK.put rfl rfl rfl (by first | exact yv_slice_l (l := 1) (by first | exact el_24) rfl rfl rfl (by omega) | exact yv_move rfl) ?_)
      refine LtK.nil ?_
      refine wpR_call [false, false, false, false, true] 4 ⟨by decide, by kernel_rfl, by kernel_rfl⟩ rfl rfl ?_
      dsimp only [pickL]
      repeat (first | apply wpS_nil | (apply wpS_g_call; first | refine wpS_callP rfl rfl rfl (by kernel_rfl) rfl (next_p _ _ _) hS (fun w hS hB => ?_)))
      refine QH_step (by first | assumption) ?_
      refine wpR_seal [false, false, false, false, false, false, false, true] 7 ⟨by decide, by kernel_rfl, by kernel_rfl⟩ rfl rfl ?_
      dsimp only [pickL]
      repeat (first | apply wpS_nil | (apply wpS_g_store; refine wpS_store rfl rfl rfl (by first | exact CellsOf.agg) hS (by repeat (first | exact Pos.head)) (by repeat (first | exact SetC.here (by repeat (first | exact Ovr.nil | apply Ovr.cons)))) (by kernel_rfl) rfl (fun w hS hB => ?_)))
      refine QH_stepG (by first | exact hB.sub (fun _ _ h => by simpa using h)) ?_
      refine wpR_batch [false, false, false, false, false, false, false, false, true] (by decide +kernel) (by repeat (first | exact PF.body | apply PF.then | apply PF.jump)) ?_
      repeat (first | refine LtK.put rfl rfl rfl (by first | exact yv_assign rfl) ?_)
      refine LtK.nil ?_
      refine wpR_end (by kernel_rfl) ?_
      repeat (first | (apply QH_seq_k; assumption) | apply wpC_goto | apply QH_then_goto)
      refine QH_jump ⟨bt, bs, _, _, j + 1, n - 1⟩ (by repeat (first | exact Sub.nil | refine Sub.cons rfl ?_)) ⟨by dsimp only; omega, by dsimp only; omega, by dsimp only; omega, ?_, ?_⟩ (by dsimp only; omega)
      · dsimp only
        have h3 := hrj.cutE (k := 1) (c := cj) (by rw [List.length_drop, hkl]; omega)
        rwa [List.drop_drop] at h3
      · dsimp only
        rw [htk, allS_snoc]
        exact hS
  · intro hpass
    repeat (first | apply wpS_nil | (apply QH_seq_k; assumption) | (apply wpC_seq_k; intro K hK) | apply wpC_region | (apply wpS_g_store; refine wpS_store rfl rfl rfl (by first | exact CellsOf.agg) hS (by repeat (first | exact Pos.head)) (by repeat (first | exact SetC.here (by repeat (first | exact Ovr.nil | apply Ovr.cons)))) (by kernel_rfl) rfl (fun w hS hB => ?_)) | (apply wpS_g_call; first | refine wpS_callP rfl rfl rfl (by kernel_rfl) rfl (last_any _ _ _ _ _ _ _ (by omega) (by omega)) hS (fun w hS hB => ?_)) | (apply wpS_g; refine wpS_put rfl rfl rfl (by first | exact yv_slice_h (h := k) (by first | exact el_24) rfl rfl (by omega) (by omega) | exact yv_move rfl | exact yv_assign rfl | exact yv_fieldAddr (by first | exact fo_23_0 | exact fo_26_0 | exact fo_26_1) rfl | (apply yv_g_load; first | exact yv_load_box (by first | exact sc_3 | exact sc_24) rfl (RW.here _) hS (by repeat (first | exact Has.head | apply Has.tail)) (by first | trivial) (by repeat (first | exact Seg.here (Pre.succ Pre.zero) | apply Seg.succ)) | exact yv_load_boxA (by first | exact ag_23 | exact ag_26) rfl (RW.here _) hS (by repeat (first | exact Has.head | apply Has.tail)) (by first | trivial) (by repeat (first | exact Seg.here (by repeat (first | exact Pre.zero | apply Pre.succ))))) | (apply yv_g_bin; first | exact yv_lss_f rfl rfl (by omega) | exact yv_gtr_f rfl rfl (by omega) | exact yv_sub rfl rfl (by omega)) | (apply yv_g_pick; first | exact yv_pick_f rfl rfl rfl)) ?_) | apply wpC_cond_f rfl rfl | apply wpC_skip)
    apply wpC_label
    apply QH_seq_k
    assumption
    rcases Nat.eq_zero_or_pos k with hk0 | hn
    · repeat (first | apply wpS_nil | (apply QH_seq_k; assumption) | (apply wpC_seq_k; intro K hK) | apply wpC_region | (apply wpS_g_store; refine wpS_store rfl rfl rfl (by first | exact CellsOf.agg) hS (by repeat (first | exact Pos.head)) (by repeat (first | exact SetC.here (by repeat (first | exact Ovr.nil | apply Ovr.cons)))) (by kernel_rfl) rfl (fun w hS hB => ?_)) | (apply wpS_g; refine wpS_put rfl rfl rfl (by first | exact yv_move rfl | exact yv_assign rfl | (apply yv_g_load; first | exact yv_load_boxA (by first | exact ag_23) rfl (RW.here _) hS (by repeat (first | exact Has.head)) (by first | trivial) (by repeat (first | exact Seg.here (by repeat (first | exact Pre.zero | apply Pre.succ))))) | (apply yv_g_bin; first | exact yv_gtr_f rfl rfl (by omega)) | (apply yv_g_bi; first | exact yv_len (by first | exact el_24) rfl)) ?_) | apply wpC_cond_f rfl rfl | apply wpC_skip | apply wpC_ret | apply QH_jmp_ret)
      refine QH_ret rfl (by first | exact RV.cell rfl (load_boxA (by first | exact ag_23) hS (by repeat (first | exact Has.head)) (by repeat (first | exact Seg.here (by repeat (first | exact Pre.zero | apply Pre.succ))))) (RV.tmp rfl RV.nil)) rfl ?_
      subst hk0
      exact ⟨rfl, hS.pure⟩
    · obtain ⟨e, he⟩ : ∃ e, (x.log.take k)[0]? = some e := ⟨_, List.getElem?_eq_getElem (by omega)⟩
      obtain ⟨b1, o1, hA1, hb1, hr1⟩ := hrd.entR he
      subst hA1
      have htk : x.log.take 1 = [e] := by
        rw [List.getElem?_take, if_pos hn] at he
        rw [List.take_add_one, he]; rfl
      repeat (first | (apply wpC_seq_k; intro K hK))
      apply wpC_region
      repeat (first | apply wpS_nil | (apply QH_seq_k; assumption) | (apply wpC_seq_k; intro K hK) | (apply wpS_g; refine wpS_put rfl rfl rfl (by first | exact yv_move rfl | (apply yv_g_bin; first | exact yv_gtr_t rfl rfl (by omega)) | (apply yv_g_bi; first | exact yv_len (by first | exact el_24) rfl)) ?_) | apply wpC_cond_t rfl rfl)
      refine wpC_draw 9 [7] (fun i b => (i = 7 → b ≠ bs)) ⟨by kernel_rfl, by kernel_rfl⟩ hS (fun w hS hB => ?_)
      refine wpR_batch [true, true, true, true] (by decide +kernel) (by repeat (first | exact PF.body | apply PF.then | apply PF.jump)) ?_
      repeat (first | refine LtK.put rfl rfl rfl (by first | exact yv_indexAddr (j := 0) (by first | exact el_24) rfl rfl rfl (by omega) | exact yv_move rfl | (apply yv_g_load; first | exact yv_load_boxA (by first | exact ag_23 | exact ag_56) rfl (RW.below _) hS (by repeat (first | exact Has.head | apply Has.tail)) (by first | trivial) (by repeat (first | exact Seg.here (by repeat (first | exact Pre.zero | apply Pre.succ)))) | exact yv_loadA_old (by first | exact ag_23 | exact ag_56) rfl (RW.below _) hS (by first | trivial) (by first | trivial) (by assumption) (by rfl))) ?_)
      refine LtK.nil ?_
      refine wpR_batchG [false, false, false, false, false, true, true] [7] (fun b => b ≠ bs) (by decide +kernel) (by intro j hj b hb; simp only [List.mem_cons, List.not_mem_nil, or_false] at hj; (try rcases hj with rfl | rfl) <;> simp_all) (by repeat (first | exact PF.body | apply PF.then | apply PF.jump)) ?_
      repeat (first | refine LtK.put rfl rfl rfl (by first | exact yv_slice_l (l := 1) (by first | exact el_24) rfl rfl rfl (by omega) | exact yv_move rfl) ?_)
      refine LtK.nil ?_
      refine wpR_call [false, false, false, false, true] 4 ⟨by decide, by kernel_rfl, by kernel_rfl⟩ rfl rfl ?_
      dsimp only [pickL]
      repeat (first | apply wpS_nil | (apply wpS_g_call; first | refine wpS_callP rfl rfl rfl (by kernel_rfl) rfl (next_p _ _ _) hS (fun w hS hB => ?_)))
      refine QH_step (by first | assumption) ?_
      refine wpR_seal [false, false, false, false, false, false, false, true] 7 ⟨by decide, by kernel_rfl, by kernel_rfl⟩ rfl rfl ?_
      dsimp only [pickL]
      repeat (first | apply wpS_nil | (apply wpS_g_store; refine wpS_store rfl rfl rfl (by first | exact CellsOf.agg) hS (by repeat (first | exact Pos.head)) (by repeat (first | exact SetC.here (by repeat (first | exact Ovr.nil | apply Ovr.cons)))) (by kernel_rfl) rfl (fun w hS hB => ?_)))
      refine QH_stepG (by first | exact hB.sub (fun _ _ h => by simpa using h)) ?_
      refine wpR_batch [false, false, false, false, false, false, false, false, true] (by decide +kernel) (by repeat (first | exact PF.body | apply PF.then | apply PF.jump)) ?_
      repeat (first | refine LtK.put rfl rfl rfl (by first | exact yv_assign rfl) ?_)
      refine LtK.nil ?_
      refine wpR_end (by kernel_rfl) ?_
      repeat (first | (apply QH_seq_k; assumption) | apply wpC_goto | apply QH_then_goto)
      refine QH_jump0 ⟨bt, bs, _, _, 1, k - 1⟩ (by repeat (first | exact Sub.nil | refine Sub.cons rfl ?_)) ⟨by dsimp only; omega, by dsimp only; omega, by dsimp only; omega, ?_, ?_⟩
      · dsimp only
        exact hrd.cutE (k := 1) (c := c) (by omega)
      · dsimp only
        rw [htk]
        exact hS
theorem state_no (x : Tu) (A : Option Addr) (c : Nat) (w0 : World) (h : -2000000000000 ≤ x.snap.index ∧ x.snap.index ≤ 2000000000000) (hsm : x.log.length ≤ 1000000) (i : Int) (hi : i < x.snap.index ∨ x.snap.index + x.log.length < i) :
    PureC Try.prog 63 #[.agg #[.int .i64 x.snap.index, .int .i64 x.snap.term, .int .i64 x.snap.sum, .int .i64 x.snap.level, .bool x.snap.final, .slice A x.log.length c, .int .i64 x.term, .int .i64 x.vote], .int .i64 i] w0 (.tuple #[.agg #[.int .i64 0, .int .i64 0, .int .i64 0, .int .i64 0, .bool false], .bool false]) := by
  refine PureC.mk ?_
  refine gw_enter2 Try.func63 rfl Try.ntmps63 rfl ?_
  have hS := St0.start All w0
  repeat (first | apply wpS_nil | (apply QH_seq_k; assumption) | (apply wpC_seq_k; intro K hK) | apply wpC_region | (apply wpS_g_box; refine wpS_box rfl rfl rfl (by first | exact CellsOf.agg) hS (fun b w hS hB => ?_)) | (apply wpS_g_alloc; refine wpS_alloc rfl rfl (by first | exact zc_23) hS (fun b w hS hB => ?_)) | (apply wpS_g; refine wpS_put rfl rfl rfl (by first | exact yv_assign rfl) ?_))
  refine wpC_scope 0 (X := Unit) (fun _ => []) (fun _ _ => False) (fun _ => 0) rfl (fun _ _ h => h.elim) ?_
  intro hpass
  by_cases h1 : i < x.snap.index
  · repeat (first | apply wpS_nil | (apply QH_seq_k; assumption) | (apply wpC_seq_k; intro K hK) | apply wpC_region | (apply wpS_g; refine wpS_skip rfl rfl rfl ?_) | (apply wpS_g_store; refine wpS_store rfl rfl rfl (by first | exact CellsOf.agg) hS (by repeat (first | exact Pos.head)) (by repeat (first | exact SetC.here (by repeat (first | exact Ovr.nil | apply Ovr.cons)))) (by kernel_rfl) rfl (fun w hS hB => ?_)) | (apply wpS_g; refine wpS_put rfl rfl rfl (by first | exact yv_move rfl | exact yv_assign rfl | exact yv_fieldAddr (by first | exact fo_23_0 | exact fo_26_0) rfl | (apply yv_g_load; first | exact yv_load_box (by first | exact sc_3) rfl (RW.here _) hS (by repeat (first | exact Has.head | apply Has.tail)) (by first | trivial) (by repeat (first | exact Seg.here (Pre.succ Pre.zero))) | exact yv_load_boxA (by first | exact ag_23) rfl (RW.here _) hS (by repeat (first | exact Has.head)) (by first | trivial) (by repeat (first | exact Seg.here (by repeat (first | exact Pre.zero | apply Pre.succ))))) | (apply yv_g_bin; first | exact yv_lss_t rfl rfl (by omega)) | (apply yv_g_pick; first | exact yv_pick_t rfl rfl rfl)) ?_) | apply wpC_cond_t rfl rfl | apply wpC_ret | apply QH_then_ret | apply QH_jmp_ret)
    refine QH_ret rfl (by first | exact RV.cell rfl (load_boxA (by first | exact ag_23) hS (by repeat (first | exact Has.head)) (by repeat (first | exact Seg.here (by repeat (first | exact Pre.zero | apply Pre.succ))))) (RV.tmp rfl RV.nil)) rfl ?_
    exact ⟨rfl, hS.pure⟩
  · have h2 : x.snap.index + x.log.length < i := by omega
    repeat (first | apply wpS_nil | (apply QH_seq_k; assumption) | (apply wpC_seq_k; intro K hK) | apply wpC_region | (apply wpS_g_store; refine wpS_store rfl rfl rfl (by first | exact CellsOf.agg) hS (by repeat (first | exact Pos.head)) (by repeat (first | exact SetC.here (by repeat (first | exact Ovr.nil | apply Ovr.cons)))) (by kernel_rfl) rfl (fun w hS hB => ?_)) | (apply wpS_g_call; first | refine wpS_callP rfl rfl rfl (by kernel_rfl) rfl (last_any _ _ _ _ _ _ _ (by omega) (by omega)) hS (fun w hS hB => ?_)) | (apply wpS_g; refine wpS_put rfl rfl rfl (by first | exact yv_move rfl | exact yv_assign rfl | exact yv_fieldAddr (by first | exact fo_23_0 | exact fo_26_0) rfl | (apply yv_g_load; first | exact yv_load_box (by first | exact sc_3) rfl (RW.here _) hS (by repeat (first | exact Has.head | apply Has.tail)) (by first | trivial) (by repeat (first | exact Seg.here (Pre.succ Pre.zero))) | exact yv_load_boxA (by first | exact ag_23 | exact ag_26) rfl (RW.here _) hS (by repeat (first | exact Has.head | apply Has.tail)) (by first | trivial) (by repeat (first | exact Seg.here (by repeat (first | exact Pre.zero | apply Pre.succ))))) | (apply yv_g_bin; first | exact yv_lss_f rfl rfl (by omega) | exact yv_gtr_t rfl rfl (by omega)) | (apply yv_g_pick; first | exact yv_pick_f rfl rfl rfl)) ?_) | apply wpC_cond_t rfl rfl | apply wpC_ret | apply QH_then_ret | apply QH_jmp_ret)
    refine QH_ret rfl (by first | exact RV.cell rfl (load_boxA (by first | exact ag_23) hS (by repeat (first | exact Has.head)) (by repeat (first | exact Seg.here (by repeat (first | exact Pre.zero | apply Pre.succ))))) (RV.tmp rfl RV.nil)) rfl ?_
    exact ⟨rfl, hS.pure⟩
end Go.Proofs.Ytamjlcaoieliaaa
/- What the functions of entries and tuples compute that are walked by hand, in the form of the printed contracts. -/
namespace Go.Proofs.Ytamjlcaoieliaaa
open Go Go.RowKit
set_option maxRecDepth 100000
theorem SlI.li {w : World} {A : Option Addr} {c : Nat} {l : List En} (h : SlI w enE A c l) (hn : l.length ≤ 1000000) : LI w A l.length c l := ⟨rfl, hn, h.le, h.cap, h.rd⟩
theorem Sl.st0 {w w' : World} {A : Option Addr} {n c k : Nat} {xs : List Value} (hs : Sl w w' A n c k xs) (hB : Below w.heap.size w w') : St0 All w w' [.rd A xs] := (St0.start All w).slice hs hB
theorem PureC.st0 {P : Program} {f : Nat} {args : Array Value} {w : World} {v : Value} (h : PureC P f args w v) : Calls P f args w fun e w' => e = .returned v ∧ St0 All w w' [] := h.run.mono fun _ _ h => ⟨h.1, (St0.start All w).below h.2⟩
theorem calls_st0 {P : Program} {f : Nat} {args : Array Value} {w : World} {v : Value} (h : Calls P f args w fun e w' => e = .returned v ∧ Below w.heap.size w w') : Calls P f args w fun e w' => e = .returned v ∧ St0 All w w' [] := h.mono fun _ _ h => ⟨h.1, (St0.start All w).below h.2⟩
/-- Tuples whose numbers can be reckoned with. -/
def okT (x : Tu) : Bool := decide (x.log.length ≤ 1000000 ∧ -2000000000000 ≤ x.snap.index ∧ x.snap.index ≤ 2000000000000)
theorem okT_iff {x : Tu} : okT x = true ↔ x.log.length ≤ 1000000 ∧ -2000000000000 ≤ x.snap.index ∧ x.snap.index ≤ 2000000000000 := decide_eq_true_iff

def m_entry_Right (e : En) : Option Bool := some (rightB e)
theorem c_entry_Right (x0 : En) (w0 : World) {r : Bool} (H : m_entry_Right x0 = some r) : Calls Try.prog 117 #[.agg #[.int .i64 x0.term, .int .i64 x0.kind, .int .i64 x0.value]] w0 fun e w' => e = .returned (.bool r) ∧ St0 All w0 w' [] := by
  obtain rfl := Option.some.inj H
  exact calls_st0 (right_any x0 w0)
def m_tuple_Right (x : Tu) : Option Bool := cond (okT x) (some (tupB x)) none
theorem c_tuple_Right (x0 : Tu) (A0 : Option Addr) (c0 : Nat) (w0 : World) (s0 : SlI w0 enE A0 c0 x0.log) {r : Bool} (H : m_tuple_Right x0 = some r) : Calls Try.prog 76 #[.agg #[.int .i64 x0.snap.index, .int .i64 x0.snap.term, .int .i64 x0.snap.sum, .int .i64 x0.snap.level, .bool x0.snap.final, .slice A0 x0.log.length c0, .int .i64 x0.term, .int .i64 x0.vote]] w0 fun e w' => e = .returned (.bool r) ∧ St0 All w0 w' [] := by
  unfold m_tuple_Right at H
  cases hb : okT x0 with
  | false => rw [hb] at H; cases H
  | true =>
    rw [hb] at H
    obtain rfl := Option.some.inj H
    have h := okT_iff.1 hb
    exact (right_any2 x0.snap A0 x0.log.length c0 x0.log x0.term x0.vote w0 (s0.li h.1) h.2 s0.blk).st0
def m_tuple_State (x : Tu) (i : Int) : Option (St × Bool) := cond (okT x) (cond (decide (x.snap.index ≤ i ∧ i ≤ x.snap.index + x.log.length)) (some (allS x.snap (x.log.take (i - x.snap.index).toNat), true)) (some (⟨0, 0, 0, 0, false⟩, false))) none
theorem c_tuple_State (x0 : Tu) (x1 : Int) (A0 : Option Addr) (c0 : Nat) (w0 : World) (s0 : SlI w0 enE A0 c0 x0.log) {r : St × Bool} (H : m_tuple_State x0 x1 = some r) : Calls Try.prog 63 #[.agg #[.int .i64 x0.snap.index, .int .i64 x0.snap.term, .int .i64 x0.snap.sum, .int .i64 x0.snap.level, .bool x0.snap.final, .slice A0 x0.log.length c0, .int .i64 x0.term, .int .i64 x0.vote], .int .i64 x1] w0 fun e w' => e = .returned (.tuple #[.agg #[.int .i64 r.1.index, .int .i64 r.1.term, .int .i64 r.1.sum, .int .i64 r.1.level, .bool r.1.final], .bool r.2]) ∧ St0 All w0 w' [] := by
  unfold m_tuple_State at H
  cases hb : okT x0 with
  | false => rw [hb] at H; cases H
  | true =>
    rw [hb] at H
    have h := okT_iff.1 hb
    by_cases hi : x0.snap.index ≤ x1 ∧ x1 ≤ x0.snap.index + x0.log.length
    · rw [decide_eq_true hi] at H
      obtain rfl := Option.some.inj H
      exact (state_yes x0 A0 c0 (x1 - x0.snap.index).toNat w0 h.2 (s0.li h.1) x1 (by omega) (by omega)).st0
    · rw [decide_eq_false hi] at H
      obtain rfl := Option.some.inj H
      exact (state_no x0 A0 c0 w0 h.2 h.1 x1 (by omega)).st0
def m_chg (x : Tu) (res : Option Tu) : Tu × Int := (chgS x res, chgE x res)
theorem chg_st0 {w0 : World} {x : Tu} {res : Option Tu} {e : Ending} {w' : World} (h : Chg w0 x res e w') : ∃ (A0 : Option Addr) (c0 : Nat), e = .returned (.tuple #[.agg #[.int .i64 (m_chg x res).1.snap.index, .int .i64 (m_chg x res).1.snap.term, .int .i64 (m_chg x res).1.snap.sum, .int .i64 (m_chg x res).1.snap.level, .bool (m_chg x res).1.snap.final, .slice A0 (m_chg x res).1.log.length c0, .int .i64 (m_chg x res).1.term, .int .i64 (m_chg x res).1.vote], .int .i64 (m_chg x res).2]) ∧ ((m_chg x res).1.log.length ≤ c0 ∧ c0 ≤ maxLen) ∧ St0 All w0 w' [.rd A0 (encs enE (m_chg x res).1.log)] := by
  obtain ⟨A, c, ⟨rfl, hs⟩, hB⟩ := h
  exact ⟨A, c, rfl, ⟨hs.le, hs.cap⟩, hs.st0 hB⟩
def m_tuple_Append (x : Tu) (l : List En) : Option (Tu × Int) := cond (decide (x.log.length ≤ 1000000 ∧ l.length ≤ 300)) (some (m_chg x (some { x with log := x.log ++ l }))) none
theorem c_tuple_Append (x0 : Tu) (x1 : List En) (A0 : Option Addr) (c0 : Nat) (A1 : Option Addr) (c1 : Nat) (w0 : World) (s0 : SlI w0 enE A0 c0 x0.log) (s1 : SlI w0 enE A1 c1 x1) {r : Tu × Int} (H : m_tuple_Append x0 x1 = some r) : Calls Try.prog 53 #[.agg #[.int .i64 x0.snap.index, .int .i64 x0.snap.term, .int .i64 x0.snap.sum, .int .i64 x0.snap.level, .bool x0.snap.final, .slice A0 x0.log.length c0, .int .i64 x0.term, .int .i64 x0.vote], .slice A1 x1.length c1] w0 fun e w' => ∃ (A0 : Option Addr) (c0 : Nat), e = .returned (.tuple #[.agg #[.int .i64 r.1.snap.index, .int .i64 r.1.snap.term, .int .i64 r.1.snap.sum, .int .i64 r.1.snap.level, .bool r.1.snap.final, .slice A0 r.1.log.length c0, .int .i64 r.1.term, .int .i64 r.1.vote], .int .i64 r.2]) ∧ (r.1.log.length ≤ c0 ∧ c0 ≤ maxLen) ∧ St0 All w0 w' [.rd A0 (encs enE r.1.log)] := by
  unfold m_tuple_Append at H
  by_cases h : x0.log.length ≤ 1000000 ∧ x1.length ≤ 300
  · rw [decide_eq_true h] at H
    obtain rfl := Option.some.inj H
    exact (append_any x0 A0 A1 c0 x1.length c1 x1 w0 (s0.li h.1) s0.blk (s1.li (by omega)) h.2).mono fun _ _ h => chg_st0 h
  · rw [decide_eq_false h] at H; cases H
def m_tuple_Hard (x : Tu) (t v : Int) : Option (Tu × Int) := cond (decide (x.log.length ≤ 1000000)) (some (m_chg x (hardR x t v))) none
theorem c_tuple_Hard (x0 : Tu) (x1 x2 : Int) (A0 : Option Addr) (c0 : Nat) (w0 : World) (s0 : SlI w0 enE A0 c0 x0.log) {r : Tu × Int} (H : m_tuple_Hard x0 x1 x2 = some r) : Calls Try.prog 49 #[.agg #[.int .i64 x0.snap.index, .int .i64 x0.snap.term, .int .i64 x0.snap.sum, .int .i64 x0.snap.level, .bool x0.snap.final, .slice A0 x0.log.length c0, .int .i64 x0.term, .int .i64 x0.vote], .int .i64 x1, .int .i64 x2] w0 fun e w' => ∃ (A0 : Option Addr) (c0 : Nat), e = .returned (.tuple #[.agg #[.int .i64 r.1.snap.index, .int .i64 r.1.snap.term, .int .i64 r.1.snap.sum, .int .i64 r.1.snap.level, .bool r.1.snap.final, .slice A0 r.1.log.length c0, .int .i64 r.1.term, .int .i64 r.1.vote], .int .i64 r.2]) ∧ (r.1.log.length ≤ c0 ∧ c0 ≤ maxLen) ∧ St0 All w0 w' [.rd A0 (encs enE r.1.log)] := by
  unfold m_tuple_Hard at H
  by_cases h : x0.log.length ≤ 1000000
  · rw [decide_eq_true h] at H
    obtain rfl := Option.some.inj H
    exact (hard_any x0 A0 c0 x1 x2 w0 (s0.li h) s0.blk).mono fun _ _ h => chg_st0 h
  · rw [decide_eq_false h] at H; cases H
end Go.Proofs.Ytamjlcaoieliaaa
/- Sums of data, as plain numbers. -/
namespace Go.Proofs.Ytamjlcaoieliaaa
open Go Go.RowKit
set_option maxRecDepth 100000

theorem FineP.bounds {s : St} (h : FineP s) : 0 ≤ s.index ∧ s.index ≤ 1073741824 ∧ 0 ≤ s.sum ∧ s.sum ≤ 1073741824 := by
  rcases h with rfl | h
  · simp [firstS]
  · omega
theorem next_data (s : St) (hf : FineP s) (hi : s.index < 1073741824) (v : Int) (h0 : 0 ≤ v) (h1 : v ≤ 1073741824) : nextS s ⟨1, 1, v⟩ = ⟨s.index + 1, 1, (31 * s.sum + v + 1) % 1073741824, s.level, s.final⟩ := by
  unfold nextS
  rw [if_pos ⟨by simp [rightB, h0, h1], (fineB_iff s).2 hf, hi⟩]
  rfl
def SumInv (l : List Int) (q : Nat) (value : Int) (s : St) (k : Nat) (a b : St) : Prop :=
  FineP a ∧ FineP b ∧ a.index = s.index + k ∧ b.index = s.index + k ∧ (k ≤ q → a = b) ∧
    (q < k → a.sum < 1073741824 ∧ b.sum < 1073741824 ∧ ∃ x, l[q]? = some x ∧ 0 ≤ x ∧ x ≤ 999 ∧
      ((k = q + 1 ∧ (a.sum - b.sum - (x - value)) % 1073741824 = 0) ∨ (k = q + 2 ∧ (a.sum - b.sum - 31 * (x - value)) % 1073741824 = 0) ∨ (k = q + 3 ∧ (a.sum - b.sum - 961 * (x - value)) % 1073741824 = 0)))
theorem SumInv.start (l : List Int) (q : Nat) (value : Int) (s : St) (h : FineP s) : SumInv l q value s 0 s s := ⟨h, h, by simp, by simp, fun _ => rfl, fun h => by omega⟩
theorem SumInv.step {l : List Int} {q : Nat} {value : Int} {s : St} {k : Nat} {a b : St} (h : SumInv l q value s k a b) (hs : s.index ≤ 1073741624) (hk : k < 3) (v : Int) (hv : l[k]? = some v) (h0 : 0 ≤ v) (h1 : v ≤ 999) (g0 : 0 ≤ value) (g1 : value ≤ 999) :
    SumInv l q value s (k + 1) (nextS a ⟨1, 1, v⟩) (nextS b ⟨1, 1, if k = q then value else v⟩) := by
  obtain ⟨fa, fb, ia, ib, he, hd⟩ := h
  refine ⟨nextS_fine _ _ fa, nextS_fine _ _ fb, ?_⟩
  have va : 0 ≤ (if k = q then value else v) ∧ (if k = q then value else v) ≤ 999 := by split <;> omega
  rw [next_data a fa (by omega) v h0 (by omega), next_data b fb (by omega) _ va.1 (by omega)]
  refine ⟨by show a.index + 1 = _; omega, by show b.index + 1 = _; omega, fun hkq => ?_, fun hkq => ?_⟩
  · rw [if_neg (by omega), he (by omega)]
  · refine ⟨by show _ % _ < _; omega, by show _ % _ < _; omega, ?_⟩
    by_cases e : k = q
    · subst e
      refine ⟨v, hv, h0, h1, .inl ⟨rfl, ?_⟩⟩
      rw [if_pos rfl, he (by omega)]
      show ((31 * b.sum + v + 1) % 1073741824 - (31 * b.sum + value + 1) % 1073741824 - (v - value)) % 1073741824 = 0
      omega
    · obtain ⟨_, _, x, hx, x0, x1, hh⟩ := hd (by omega)
      refine ⟨x, hx, x0, x1, ?_⟩
      rw [if_neg e]
      have goal : ∀ c : Int, (a.sum - b.sum - c) % 1073741824 = 0 → ((31 * a.sum + v + 1) % 1073741824 - (31 * b.sum + v + 1) % 1073741824 - 31 * c) % 1073741824 = 0 := fun c hc => by omega
      rcases hh with ⟨rfl, hh⟩ | ⟨rfl, hh⟩ | ⟨rfl, hh⟩
      · exact .inr (.inl ⟨rfl, goal _ hh⟩)
      · refine .inr (.inr ⟨rfl, ?_⟩)
        have := goal _ hh
        show ((31 * a.sum + v + 1) % 1073741824 - (31 * b.sum + v + 1) % 1073741824 - 961 * (x - value)) % 1073741824 = 0
        omega
      · omega
theorem SumInv.last {l : List Int} {q : Nat} {value : Int} {s : St} {k : Nat} {a b : St} (h : SumInv l q value s k a b) (hq : q < k) (g0 : 0 ≤ value) (g1 : value ≤ 999) {x : Int} (hx : l[q]? = some x) :
    ((a.sum == b.sum) == (x == value)) = true := by
  obtain ⟨fa, fb, _, _, _, hd⟩ := h
  obtain ⟨la, lb, x', hx', x0, x1, hh⟩ := hd hq
  rw [hx] at hx'
  obtain rfl := Option.some.inj hx'
  have ba := fa.bounds
  have bb := fb.bounds
  rw [beq_iff_eq, Bool.eq_iff_iff, beq_iff_eq, beq_iff_eq]
  omega
end Go.Proofs.Ytamjlcaoieliaaa
/- What comes behind an entry, as the law of layer 6 asks for it. -/
namespace Go.Proofs.Ytamjlcaoieliaaa
open Go Go.RowKit
set_option maxRecDepth 100000
end Go.Proofs.Ytamjlcaoieliaaa
/- Stages, formats, what is asked: in plain Lean. -/
namespace Go.Proofs.Ytamjlcaoieliaaa

end Go.Proofs.Ytamjlcaoieliaaa
/- slices.ContainsFunc over ints, with whatever predicate is kept by a contract. -/
namespace Go.Proofs.Ytamjlcaoieliaaa
open Go Go.RowKit
set_option maxRecDepth 100000

end Go.Proofs.Ytamjlcaoieliaaa
/- The walks of level: Stage, Known, Entry, Format. -/
namespace Go.Proofs.Ytamjlcaoieliaaa
open Go Go.RowKit Go.Shelf
set_option maxRecDepth 100000
attribute [local go_sem] Oper.semAt_some

end Go.Proofs.Ytamjlcaoieliaaa
/- The walks of level: what is asked. -/
namespace Go.Proofs.Ytamjlcaoieliaaa
open Go Go.RowKit Go.Shelf
set_option maxRecDepth 100000

theorem run_store_func {P : Program} {w : World} {a : Addr} (f : Fn) (vs bs : Array Value) (m : Mode) : (store a (.func f vs bs) m).run P w = stored P w a (.func f vs bs) m := run_store P w a _ m rfl
attribute [local go_sem] run_store_func
end Go.Proofs.Ytamjlcaoieliaaa
/- The walks of level: Check. -/
namespace Go.Proofs.Ytamjlcaoieliaaa
open Go Go.RowKit Go.Shelf
set_option maxRecDepth 100000

end Go.Proofs.Ytamjlcaoieliaaa
/- What the functions of levels compute that are walked by hand, in the form of the printed contracts. -/
namespace Go.Proofs.Ytamjlcaoieliaaa
open Go Go.RowKit
set_option maxRecDepth 100000
theorem ivs_encs (l : List Int) : ivs l = encs enI l := by
  induction l with
  | nil => rfl
  | cons x l ih => rw [encs_cons, ← ih]; rfl
end Go.Proofs.Ytamjlcaoieliaaa
/- Plain laws of what printed functions compute: small numbers, places of lists. -/
namespace Go.Proofs.Ytamjlcaoieliaaa
open Go Go.RowKit
set_option maxRecDepth 100000
theorem w64i {n : Int} (h : -9223372036854775808 ≤ n ∧ n ≤ 9223372036854775807) : IntKind.wrap .i64 n = n := i64_in' h
theorem idx_nat {α : Type} (l : List α) (k : Nat) : idx l (k : Int) = l[k]? := by unfold idx; simp
theorem fewI_ok {α : Type} (l : List α) (h : l.length ≤ 1000000000) : fewI l = some l := if_pos h
theorem remI_ok (m n : Int) (h : n ≠ 0) : remI m n = some (m.tmod n) := if_pos h
theorem makeI_nat {α : Type} (z : α) (n : Nat) (h : n ≤ 1000000000) : makeI z (n : Int) = some (List.replicate n z) := by unfold makeI; rw [if_pos (by omega)]; simp
theorem drop_step {α : Type} {l : List α} {k : Nat} (h : k < l.length) : ∃ e, l[k]? = some e ∧ l.drop k = e :: l.drop (k + 1) := ⟨l[k], List.getElem?_eq_getElem h, List.drop_eq_getElem_cons h⟩
theorem snap_eq (a b : St) : (decide (a.index = b.index) && (decide (a.term = b.term) && (decide (a.sum = b.sum) && (decide (a.level = b.level) && decide (a.final = b.final))))) = decide (a = b) := by
  obtain ⟨a1, a2, a3, a4, a5⟩ := a; obtain ⟨b1, b2, b3, b4, b5⟩ := b
  rw [Bool.eq_iff_iff]; simp
end Go.Proofs.Ytamjlcaoieliaaa
/- Iterators: the others, who has an index. -/
namespace Go.Proofs.Ytamjlcaoieliaaa
open Go Go.RowKit
set_option maxRecDepth 100000
def othersL (id : Int) : Nat → Nat → List Int
  | _, 0 => []
  | k, m + 1 => if (k : Int) ≠ id then (k : Int) :: othersL id (k + 1) m else othersL id (k + 1) m
def m_it_others (x0 : Co) : Option (List Int) := some (othersL x0.id 1 (min x0.n 5).toNat)
theorem it_others (x0 : Co) {A0 A1 A2 A3 A4 : Option Addr} {c0 c1 c2 c3 c4 : Nat} (wB wM w : World) (hB0 : Below wB.heap.size wB wM) (b : Nat) (hN : St0 All wM w [.box b [.int .i64 x0.id, .int .i64 x0.n, .int .u8 x0.role, .int .i64 x0.binary, .int .i64 x0.tuple.snap.index, .int .i64 x0.tuple.snap.term, .int .i64 x0.tuple.snap.sum, .int .i64 x0.tuple.snap.level, .bool x0.tuple.snap.final, .slice A0 x0.tuple.log.length c0, .int .i64 x0.tuple.term, .int .i64 x0.tuple.vote, .int .i64 x0.commit, .int .i64 x0.applied.index, .int .i64 x0.applied.term, .int .i64 x0.applied.sum, .int .i64 x0.applied.level, .bool x0.applied.final, .slice A1 x0.votes.length c1, .slice A2 x0.next.length c2, .slice A3 x0.mtch.length c3, .slice A4 x0.caps.length c4] 30]) {xs : List Int} (H : m_it_others x0 = some xs) :
    IterP Try.prog 110 #[.pointer (some ⟨b, 0, none⟩)] (fun p : Int => [Value.int .i64 p].toArray) xs wB.heap.size wM.heap.size w := by
  obtain rfl := Option.some.inj H
  obtain ⟨hb, hbM, hbl⟩ := hN.cap
  intro lo J Jx Jp W hW hJ hJx hJp hy h0
  have hbW : W.heap[b]? = some (.cells #[.int .i64 x0.id, .int .i64 x0.n, .int .u8 x0.role, .int .i64 x0.binary, .int .i64 x0.tuple.snap.index, .int .i64 x0.tuple.snap.term, .int .i64 x0.tuple.snap.sum, .int .i64 x0.tuple.snap.level, .bool x0.tuple.snap.final, .slice A0 x0.tuple.log.length c0, .int .i64 x0.tuple.term, .int .i64 x0.tuple.vote, .int .i64 x0.commit, .int .i64 x0.applied.index, .int .i64 x0.applied.term, .int .i64 x0.applied.sum, .int .i64 x0.applied.level, .bool x0.applied.final, .slice A1 x0.votes.length c1, .slice A2 x0.next.length c2, .slice A3 x0.mtch.length c3, .slice A4 x0.caps.length c4] 30) := (hW.block b hbl).trans hb
  show Calls _ _ #[_, _] _ _
  refine gw_enter2 Try.func110 rfl Try.ntmps110 rfl ?_
  have hS := St0.start All W
  obtain ⟨M, hM⟩ : ∃ M, M = (min x0.n 5).toNat := ⟨_, rfl⟩
  rw [← hM] at hy
  try rw [← hM]
  repeat (first | apply wpS_nil | (apply QH_seq_k; assumption) | (apply wpC_seq_k; intro K hK) | apply wpC_region | (apply wpS_g; refine wpS_put rfl rfl rfl (by first | exact yv_assign rfl) ?_) | apply wpC_block)
  refine wpC_loop (X := Nat × List Int) (fun z => [(3, .int .i64 z.1), (1, .pointer (some ⟨b, 0, none⟩)), (0, .func (.yield lo) #[] #[])])
    (fun z B => (1 ≤ z.1 ∧ z.1 ≤ M + 1) ∧ othersL x0.id 1 M = z.2 ++ othersL x0.id z.1 (M + 1 - z.1) ∧ J z.2.length B ∧ B.heap[b]? = some (.cells #[.int .i64 x0.id, .int .i64 x0.n, .int .u8 x0.role, .int .i64 x0.binary, .int .i64 x0.tuple.snap.index, .int .i64 x0.tuple.snap.term, .int .i64 x0.tuple.snap.sum, .int .i64 x0.tuple.snap.level, .bool x0.tuple.snap.final, .slice A0 x0.tuple.log.length c0, .int .i64 x0.tuple.term, .int .i64 x0.tuple.vote, .int .i64 x0.commit, .int .i64 x0.applied.index, .int .i64 x0.applied.term, .int .i64 x0.applied.sum, .int .i64 x0.applied.level, .bool x0.applied.final, .slice A1 x0.votes.length c1, .slice A2 x0.next.length c2, .slice A3 x0.mtch.length c3, .slice A4 x0.caps.length c4] 30) ∧ w.heap.size ≤ B.heap.size) (fun z => M + 1 - z.1) (1, []) (by repeat (first | exact Sub.nil | refine Sub.cons rfl ?_)) ⟨by dsimp only; omega, by simp, h0, hbW, hW.size⟩ ?_
  rintro ⟨k, done⟩ B ⟨⟨hk1, hk2⟩, hxs, hJk, hbB, hz⟩
  dsimp only at hk1 hk2 hxs hJk
  dsimp only
  clear hbW hS h0
  have hS := St0.start All B
  rcases Nat.lt_or_ge M k with hge | hlt
  · obtain rfl : k = M + 1 := by omega
    have e0 : M + 1 - (M + 1) = 0 := by omega
    rw [e0] at hxs
    rw [show othersL x0.id (M + 1) 0 = [] from rfl, List.append_nil] at hxs
    repeat (first | apply wpS_nil | (apply QH_seq_k; assumption) | (apply wpC_seq_k; intro K hK) | apply wpC_region | (apply wpS_g; refine wpS_put rfl rfl rfl (by first | exact yv_move rfl | exact yv_fieldAddr (by first | exact fo_23_0 | exact fo_30_1) rfl | (apply yv_g_load; first | exact yv_load_ob (by first | exact sc_3) rfl (RW.here _) hS (by first | trivial) (by first | trivial) (by assumption) (by repeat (first | exact Seg.here (Pre.succ Pre.zero) | apply Seg.succ))) | (apply yv_g_bin; first | exact yv_leq_f rfl rfl (by omega)) | (apply yv_g_bi; first | exact yv_min rfl rfl)) ?_) | apply wpC_cond_f rfl rfl | apply wpC_exit | apply QH_then_exit | apply QH_block_hit)
    refine QH_end rfl (by first | exact RV.nil) rfl ?_
    refine .inl ⟨⟨_, rfl⟩, .inl ?_⟩
    rw [hxs]
    exact hJ _ _ _ hJk (hS.base.sub fun _ _ _ => trivial)
  · have hkn : (k : Int) ≤ min x0.n 5 := by omega
    have e0 : M + 1 - k = (M + 1 - (k + 1)) + 1 := by omega
    rw [e0, othersL] at hxs
    by_cases hid : (k : Int) ≠ x0.id
    · rw [if_pos hid] at hxs
      repeat (first | (apply wpC_seq_k; intro K hK))
      apply wpC_region
      repeat (first | apply wpS_nil | (apply QH_seq_k; assumption) | (apply wpC_seq_k; intro K hK) | (apply wpS_g; refine wpS_put rfl rfl rfl (by first | exact yv_move rfl | exact yv_fieldAddr (by first | exact fo_23_0 | exact fo_30_1) rfl | (apply yv_g_load; first | exact yv_load_ob (by first | exact sc_3) rfl (RW.here _) hS (by first | trivial) (by first | trivial) (by assumption) (by repeat (first | exact Seg.here (Pre.succ Pre.zero) | apply Seg.succ))) | (apply yv_g_bin; first | exact yv_leq_t rfl rfl (by omega)) | (apply yv_g_bi; first | exact yv_min rfl rfl)) ?_) | apply wpC_cond_t rfl rfl | apply wpC_skip | apply wpC_block)
      refine wpC_regionY 7 (by repeat (first | exact NL.body (by intro _ h; simp at h) | apply NL.then | apply NL.inBlock)) (by kernel_rfl) ?_
      dsimp only [List.take, List.drop]
      repeat (first | apply wpS_nil | (apply wpS_g; refine wpS_put rfl rfl rfl (by first | exact yv_move rfl | exact yv_fieldAddr (by first | exact fo_23_0 | exact fo_30_0) rfl | (apply yv_g_load; first | exact yv_load_ob (by first | exact sc_3) rfl (RW.here _) hS (by first | trivial) (by first | trivial) (by assumption) (by repeat (first | exact Seg.here (Pre.succ Pre.zero)))) | (apply yv_g_bin; first | exact yv_neq_t rfl rfl (by omega))) ?_))
      refine QH_Y ?_
      have hk1' : KeepB All B B := hS.base
      refine wpSI_yield rfl rfl rfl rfl (hy done.length (k : Int) B (by rw [hxs]; simp) (hJ _ B B hJk (hk1'.sub fun _ _ _ => trivial)) hz) ?_
      rintro ex w2 (⟨rfl, hJ2, hk2'⟩ | ⟨rfl, hJ2, hk2'⟩ | ⟨ch, rfl, hJ2⟩)
      · refine .inl ⟨_, rfl, wpSI_rest (by repeat (first | exact NL.body (by intro _ h; simp at h) | apply NL.then | apply NL.inBlock)) (by kernel_rfl) ?_⟩
        have hS := St0.start All w2
        repeat (first | apply wpS_nil | (apply QH_seq_k; assumption) | apply wpC_region | (apply wpS_g; refine wpS_put rfl rfl rfl (by first | exact yv_move rfl | exact yv_assign rfl | (apply yv_g_bin; first | exact yv_add rfl rfl (by omega)) | (apply yv_g_pick; first | exact yv_pick_t rfl rfl rfl) | exact yv_not rfl) ?_) | apply wpC_cond_f rfl rfl | apply wpC_skip | apply QH_block_normal)
        refine QH_again (k + 1, done ++ [(k : Int)]) (by repeat (first | exact Sub.nil | refine Sub.cons rfl ?_)) ⟨by dsimp only; omega, by dsimp only; rw [hxs]; simp, ?_, ?_, ?_⟩ (by dsimp only; omega)
        · dsimp only; rw [List.length_append]; exact hJ2
        · exact (hk2'.block b (Nat.lt_of_lt_of_le hbl hz) (.inr ⟨hbM, hbl⟩)).trans hbB
        · exact Nat.le_trans hz hk2'.size
      · refine .inl ⟨_, rfl, wpSI_rest (by repeat (first | exact NL.body (by intro _ h; simp at h) | apply NL.then | apply NL.inBlock)) (by kernel_rfl) ?_⟩
        have hS := St0.start All w2
        repeat (first | apply wpS_nil | (apply QH_seq_k; assumption) | (apply wpS_g; refine wpS_put rfl rfl rfl (by first | (apply yv_g_pick; first | exact yv_pick_t rfl rfl rfl) | exact yv_not rfl) ?_) | apply wpC_cond_t rfl rfl | apply wpC_ret | apply QH_then_ret | apply QH_block_ret)
        refine QH_ret rfl (by first | exact RV.nil) rfl ?_
        exact .inl ⟨⟨_, rfl⟩, .inr hJ2⟩
      · refine .inr ⟨ch, rfl, ?_⟩
        repeat (first | apply QH_then_panic | apply QH_block_panic)
        exact QH_panic rfl (.inr ⟨ch, rfl, hJ2⟩)
    · rw [if_neg hid] at hxs
      have hid' : (k : Int) = x0.id := by omega
      repeat (first | apply wpS_nil | (apply QH_seq_k; assumption) | (apply wpC_seq_k; intro K hK) | apply wpC_region | (apply wpS_g; refine wpS_skip rfl rfl rfl ?_) | (apply wpS_g; refine wpS_put rfl rfl rfl (by first | exact yv_move rfl | exact yv_assign rfl | exact yv_fieldAddr (by first | exact fo_23_0 | exact fo_30_0 | exact fo_30_1) rfl | (apply yv_g_load; first | exact yv_load_ob (by first | exact sc_3) rfl (RW.here _) hS (by first | trivial) (by first | trivial) (by assumption) (by repeat (first | exact Seg.here (Pre.succ Pre.zero) | apply Seg.succ))) | (apply yv_g_bin; first | exact yv_leq_t rfl rfl (by omega) | exact yv_neq_f rfl rfl (by omega) | exact yv_add rfl rfl (by omega)) | (apply yv_g_pick; first | exact yv_pick_f rfl rfl rfl) | (apply yv_g_bi; first | exact yv_min rfl rfl)) ?_) | apply wpC_cond_t rfl rfl | apply wpC_cond_f rfl rfl | apply wpC_skip | apply wpC_block | apply QH_block_normal)
      refine QH_again (k + 1, done) (by repeat (first | exact Sub.nil | refine Sub.cons rfl ?_)) ⟨by dsimp only; omega, by dsimp only; exact hxs, ?_, ?_, ?_⟩ (by dsimp only; omega)
      · exact hJ _ _ _ hJk (hS.base.sub fun _ _ _ => trivial)
      · exact (hS.base.block b (Nat.lt_of_lt_of_le hbl hz) trivial).trans hbB
      · exact Nat.le_trans hz hS.base.size
end Go.Proofs.Ytamjlcaoieliaaa
/- Iterators: what was heard. -/
namespace Go.Proofs.Ytamjlcaoieliaaa
open Go Go.RowKit
set_option maxRecDepth 100000
end Go.Proofs.Ytamjlcaoieliaaa
/- Iterators: who voted. -/
namespace Go.Proofs.Ytamjlcaoieliaaa
open Go Go.RowKit
set_option maxRecDepth 100000
def votesL : Nat → List Bool → List Int
  | _, [] => []
  | k, h :: t => if h = true then (k : Int) :: votesL (k + 1) t else votesL (k + 1) t
def m_it_votes (x0 : List Bool) : Option (List Int) := if x0.length ≤ 1000000 then some (votesL 0 x0) else none
theorem it_votes (x0 : List Bool) {A0 : Option Addr} {c0 : Nat} (wB wM w : World) (s0 : SlI wB enO A0 c0 x0) (hB0 : Below wB.heap.size wB wM) (b : Nat) (hN : St0 All wM w [.box b [.slice A0 x0.length c0] 27]) {xs : List Int} (H : m_it_votes x0 = some xs) :
    IterP Try.prog 102 #[.pointer (some ⟨b, 0, none⟩)] (fun p : Int => [Value.int .i64 p].toArray) xs wB.heap.size wM.heap.size w := by
  unfold m_it_votes at H
  split at H
  case isFalse => cases H
  rename_i hl9
  obtain rfl := Option.some.inj H
  obtain ⟨hb, hbM, hbl⟩ := hN.cap
  have hA : Rd w A0 (encs enO x0) := (s0.rd.below hB0).below hN.pure
  have hAn := s0.blk
  have hlc := s0.k
  intro lo J Jx Jp W hW hJ hJx hJp hy h0
  have hbW : W.heap[b]? = some (.cells #[.slice A0 x0.length c0] 27) := (hW.block b hbl).trans hb
  have hAW := hA.below hW
  show Calls _ _ #[_, _] _ _
  refine gw_enter2 Try.func102 rfl Try.ntmps102 rfl ?_
  have hS := St0.start All W
  repeat (first | apply wpS_nil | (apply QH_seq_k; assumption) | (apply wpC_seq_k; intro K hK) | apply wpC_region | (apply wpS_g; refine wpS_put rfl rfl rfl (by first | exact yv_move rfl | (apply yv_g_load; first | exact yv_load_ob (by first | exact sc_27) rfl (RW.here _) hS (by first | trivial) (by first | trivial) (by assumption) (by repeat (first | exact Seg.here (Pre.succ Pre.zero)))) | (apply yv_g_bi; first | exact yv_len (by first | exact el_27) rfl)) ?_) | apply wpC_block)
  refine wpC_loop (X := Nat × List Int) (fun z => [(7, .int .i64 z.1), (6, .int .i64 x0.length), (5, .slice A0 x0.length c0), (1, .pointer (some ⟨b, 0, none⟩)), (0, .func (.yield lo) #[] #[])])
    (fun z B => z.1 ≤ x0.length ∧ votesL 0 x0 = z.2 ++ votesL z.1 (x0.drop z.1) ∧ J z.2.length B ∧ Rd B A0 (encs enO x0) ∧ w.heap.size ≤ B.heap.size) (fun z => x0.length - z.1) (0, []) (by repeat (first | exact Sub.nil | refine Sub.cons rfl ?_)) ⟨Nat.zero_le _, by simp, h0, hAW, hW.size⟩ ?_
  rintro ⟨k, done⟩ B ⟨hk, hxs, hJk, hAB, hz⟩
  dsimp only at hk hxs hJk
  dsimp only
  clear hbW hAW hS h0
  have hS := St0.start All B
  rcases Nat.lt_or_ge k x0.length with hlt | hge
  · obtain ⟨e, he, hd⟩ := drop_step hlt
    rw [hd, votesL] at hxs
    have hEl := Rd.el hAB he_enO he
    cases e with
    | true =>
      rw [if_pos rfl] at hxs
      repeat (first | (apply wpC_seq_k; intro K hK))
      apply wpC_region
      repeat (first | apply wpS_nil | (apply QH_seq_k; assumption) | (apply wpC_seq_k; intro K hK) | (apply wpS_g; refine wpS_put rfl rfl rfl (by first | (apply yv_g_bin; first | exact yv_lss_t rfl rfl (by omega))) ?_) | apply wpC_cond_t rfl rfl | apply wpC_skip | apply wpC_block)
      apply wpC_region
      repeat (first | apply wpS_nil | (apply QH_seq_k; assumption) | (apply wpC_seq_k; intro K hK) | (apply wpS_g; refine wpS_put rfl rfl rfl (by first | exact yx_idx (by first | exact el_27) rfl rfl rfl hlt hEl | exact yx_ld0 (by first | exact sc_1 | exact sc_4) rfl (RW.here _) hEl rfl | exact yv_move rfl | exact yv_assign rfl) ?_))
      refine wpC_regionY 4 (by repeat (first | exact NL.body (by intro _ h; simp at h) | apply NL.then | apply NL.inBlock)) (by kernel_rfl) ?_
      dsimp only [List.take, List.drop]
      repeat (first | apply wpS_nil | (apply wpS_g; refine wpS_put rfl rfl rfl (by first | exact yv_move rfl) ?_))
      refine QH_Y ?_
      have hk1 : KeepB All B B := hS.base
      refine wpSI_yield rfl rfl rfl rfl (hy done.length (k : Int) B (by rw [hxs]; simp) (hJ _ B B hJk (hk1.sub fun _ _ _ => trivial)) hz) ?_
      rintro ex w2 (⟨rfl, hJ2, hk2⟩ | ⟨rfl, hJ2, hk2⟩ | ⟨ch, rfl, hJ2⟩)
      · refine .inl ⟨_, rfl, wpSI_rest (by repeat (first | exact NL.body (by intro _ h; simp at h) | apply NL.then | apply NL.inBlock)) (by kernel_rfl) ?_⟩
        have hS := St0.start All w2
        repeat (first | apply wpS_nil | (apply QH_seq_k; assumption) | apply wpC_region | (apply wpS_g; refine wpS_put rfl rfl rfl (by first | exact yv_move rfl | (apply yv_g_bin; first | exact yv_add rfl rfl (by omega)) | (apply yv_g_pick; first | exact yv_pick_t rfl rfl rfl) | exact yv_not rfl) ?_) | apply wpC_cond_f rfl rfl | apply wpC_skip | apply QH_block_normal)
        refine QH_again (k + 1, done ++ [(k : Int)]) (by repeat (first | exact Sub.nil | refine Sub.cons rfl ?_)) ⟨hlt, by dsimp only; rw [hxs]; simp, ?_, ?_, ?_⟩ (by dsimp only; omega)
        · dsimp only; rw [List.length_append]; exact hJ2
        · exact hk2.rd hAB (fun p hp => .inl (hAn p hp))
        · exact Nat.le_trans hz hk2.size
      · refine .inl ⟨_, rfl, wpSI_rest (by repeat (first | exact NL.body (by intro _ h; simp at h) | apply NL.then | apply NL.inBlock)) (by kernel_rfl) ?_⟩
        have hS := St0.start All w2
        repeat (first | apply wpS_nil | (apply QH_seq_k; assumption) | (apply wpS_g; refine wpS_put rfl rfl rfl (by first | (apply yv_g_pick; first | exact yv_pick_t rfl rfl rfl) | exact yv_not rfl) ?_) | apply wpC_cond_t rfl rfl | apply wpC_ret | apply QH_then_ret | apply QH_block_ret)
        refine QH_ret rfl (by first | exact RV.nil) rfl ?_
        exact .inl ⟨⟨_, rfl⟩, .inr hJ2⟩
      · refine .inr ⟨ch, rfl, ?_⟩
        repeat (first | apply QH_then_panic | apply QH_block_panic)
        exact QH_panic rfl (.inr ⟨ch, rfl, hJ2⟩)
    | false =>
      rw [if_neg (by decide)] at hxs
      repeat (first | (apply wpC_seq_k; intro K hK))
      apply wpC_region
      repeat (first | apply wpS_nil | (apply QH_seq_k; assumption) | (apply wpC_seq_k; intro K hK) | (apply wpS_g; refine wpS_put rfl rfl rfl (by first | (apply yv_g_bin; first | exact yv_lss_t rfl rfl (by omega))) ?_) | apply wpC_cond_t rfl rfl | apply wpC_skip | apply wpC_block)
      apply wpC_region
      repeat (first | apply wpS_nil | (apply QH_seq_k; assumption) | (apply wpC_seq_k; intro K hK) | (apply wpS_g; refine wpS_put rfl rfl rfl (by first | exact yx_idx (by first | exact el_27) rfl rfl rfl hlt hEl | exact yx_ld0 (by first | exact sc_1 | exact sc_4) rfl (RW.here _) hEl rfl | exact yv_move rfl | exact yv_assign rfl) ?_))
      refine wpC_regionY 4 (by repeat (first | exact NL.body (by intro _ h; simp at h) | apply NL.then | apply NL.inBlock)) (by kernel_rfl) ?_
      dsimp only [List.take, List.drop]
      repeat (first | apply wpS_nil | (apply wpS_g; refine wpS_skip rfl rfl rfl ?_) | (apply wpS_g; refine wpS_put rfl rfl rfl (by first | exact yv_move rfl) ?_))
      refine QH_Y ?_
      refine wpSI_rest (by repeat (first | exact NL.body (by intro _ h; simp at h) | apply NL.then | apply NL.inBlock)) (by kernel_rfl) ?_
      repeat (first | apply wpS_nil | (apply QH_seq_k; assumption) | apply wpC_region | (apply wpS_g; refine wpS_skip rfl rfl rfl ?_) | (apply wpS_g; refine wpS_put rfl rfl rfl (by first | exact yv_move rfl | (apply yv_g_bin; first | exact yv_add rfl rfl (by omega)) | (apply yv_g_pick; first | exact yv_pick_f rfl rfl rfl)) ?_) | apply wpC_cond_f rfl rfl | apply wpC_skip | apply QH_block_normal)
      refine QH_again (k + 1, done) (by repeat (first | exact Sub.nil | refine Sub.cons rfl ?_)) ⟨hlt, hxs, ?_, ?_, ?_⟩ (by dsimp only; omega)
      · exact hJ _ _ _ hJk (hS.base.sub fun _ _ _ => trivial)
      · exact hAB
      · exact hz
  · obtain rfl : k = x0.length := by omega
    rw [List.drop_length, votesL, List.append_nil] at hxs
    repeat (first | apply wpS_nil | (apply QH_seq_k; assumption) | (apply wpC_seq_k; intro K hK) | apply wpC_region | (apply wpS_g; refine wpS_put rfl rfl rfl (by first | (apply yv_g_bin; first | exact yv_lss_f rfl rfl (by omega))) ?_) | apply wpC_cond_f rfl rfl | apply wpC_exit | apply QH_then_exit | apply QH_block_hit)
    refine QH_end rfl (by first | exact RV.nil) rfl ?_
    refine .inl ⟨⟨_, rfl⟩, .inl ?_⟩
    rw [hxs]
    exact hJ _ _ _ hJk (hS.base.sub fun _ _ _ => trivial)
end Go.Proofs.Ytamjlcaoieliaaa
/- Two ways that meet again: what comes behind is walked once. -/
namespace Go.Proofs.Ytamjlcaoieliaaa
open Go Go.RowKit
set_option maxRecDepth 100000
section
variable {P : Program} {N : FS} {L : List (Nat × Value)} {w : World} {Q : Exit → Act → World → Prop}
theorem wpC_join {ro : Option Nat} {x y : Code} (LJ : List (Nat × Value)) (kx : ∀ K : Act → World → Prop, (∀ a, Fr N LJ a → K a w) → wpC P ro x (Exit.then K Q) N L w) (k : wpC P ro y Q N LJ w) : wpC P ro (.seq x y) Q N L w := .mk fun a hF => wpo_seq ((kx _ (fun a h => k.go a h)).go a hF)
theorem QH_join {K : Act → World → Prop} {Q' : Exit → Act → World → Prop} {LJ : List (Nat × Value)} (hK : ∀ a, Fr N LJ a → K a w) (hs : Sub LJ L) : QH (Exit.then K Q') .normal N L w := .mk fun a hF => hK a (hF.sub hs)
end
end Go.Proofs.Ytamjlcaoieliaaa
/- What functions compute, in plain terms; printed. -/
namespace Go.Proofs.Ytamjlcaoieliaaa
open Go Go.RowKit
set_option maxRecDepth 100000
def m_ref06_First : Option (St) :=
  some (⟨0, 0, 0, 1, false⟩ : St)
def m_ref12_Last (x0 : Tu) : Option (Int) :=
  some (IntKind.wrap .i64 (x0.snap.index + (x0.log.length : Int)))
def m_ref12_First : Option (Tu) :=
  (m_ref06_First).bind fun r5 =>
  some (⟨r5, [], 0, 0⟩ : Tu)
def m_ref12_Own (x0 : Tu) : Option (Tu) :=
  (fewI ([] ++ x0.log)).bind fun l9 =>
  some (⟨x0.snap, l9, x0.term, x0.vote⟩ : Tu)
def m_ref20_New_l1 (x0 : Int) (x1 : Int) (x2 : Int) (x3 : Tu) (r21 : Tu) : Nat → Int → List Bool → List Int → List Int → List Int → Option (Co)
  | 0, _, _, _, _, _ => none
  | n + 1, v32, v33, v38, v43, v48 =>
      cond (decide (v32 ≤ x1))
       (
        (fewI (v33 ++ ([false] : List Bool))).bind fun l60 =>
        (m_ref12_Last x3).bind fun r66 =>
        (fewI (v38 ++ ([(IntKind.wrap .i64 (r66 + 1))] : List Int))).bind fun l70 =>
        (fewI (v43 ++ ([0] : List Int))).bind fun l78 =>
        (fewI (v48 ++ ([0] : List Int))).bind fun l85 =>
        m_ref20_New_l1 x0 x1 x2 x3 r21 n (IntKind.wrap .i64 (v32 + 1)) l60 l70 l78 l85)
       (
        (idx v48 (IntKind.wrap .i64 (x0 - 1))).bind fun e92 =>
        some (⟨x0, x1, 0, x2, r21, x3.snap.index, x3.snap, v33, v38, v43, (setI v48 (IntKind.wrap .i64 (x0 - 1)) x2)⟩ : Co))
def m_ref20_New (x0 : Int) (x1 : Int) (x2 : Int) (x3 : Tu) : Option (Co) :=
  cond (decide (x1 < 0))
   (
    some (⟨0, 0, 0, 0, (⟨(⟨0, 0, 0, 0, false⟩ : St), [], 0, 0⟩ : Tu), 0, (⟨0, 0, 0, 0, false⟩ : St), [], [], [], []⟩ : Co))
   (
    cond (decide (5 < x1))
     (
      some (⟨0, 0, 0, 0, (⟨(⟨0, 0, 0, 0, false⟩ : St), [], 0, 0⟩ : Tu), 0, (⟨0, 0, 0, 0, false⟩ : St), [], [], [], []⟩ : Co))
     (
      cond (decide (x0 < 1))
       (
        some (⟨0, 0, 0, 0, (⟨(⟨0, 0, 0, 0, false⟩ : St), [], 0, 0⟩ : Tu), 0, (⟨0, 0, 0, 0, false⟩ : St), [], [], [], []⟩ : Co))
       (
        cond (decide (x1 < x0))
         (
          some (⟨0, 0, 0, 0, (⟨(⟨0, 0, 0, 0, false⟩ : St), [], 0, 0⟩ : Tu), 0, (⟨0, 0, 0, 0, false⟩ : St), [], [], [], []⟩ : Co))
         (
          (m_ref12_Own x3).bind fun r21 =>
          m_ref20_New_l1 x0 x1 x2 x3 r21 fuelN 1 [] [] [] []))))
def m_slices_Clone___api_Entry_api_Entry_ (x0 : List En) : Option (List En) := fewI x0
def m_tuple_Own (x0 : Tu) : Option (Tu) :=
  (m_slices_Clone___api_Entry_api_Entry_ x0.log).bind fun r7 =>
  some (⟨x0.snap, r7, x0.term, x0.vote⟩ : Tu)
def m_slices_Clone___bool_bool_ (x0 : List Bool) : Option (List Bool) := fewI x0
def m_slices_Clone___int_int_ (x0 : List Int) : Option (List Int) := fewI x0
def m_msg_Own (x0 : Co) : Option (Co) :=
  (m_tuple_Own x0.tuple).bind fun r7 =>
  (m_slices_Clone___bool_bool_ x0.votes).bind fun r14 =>
  (m_slices_Clone___int_int_ x0.next).bind fun r20 =>
  (m_slices_Clone___int_int_ x0.mtch).bind fun r26 =>
  (m_slices_Clone___int_int_ x0.caps).bind fun r32 =>
  some (⟨x0.id, x0.n, x0.role, x0.binary, r7, x0.commit, x0.applied, r14, r20, r26, r32⟩ : Co)
def m_tuple_Last (x0 : Tu) : Option (Int) :=
  some (IntKind.wrap .i64 (x0.snap.index + (x0.log.length : Int)))
def m_msg_within (x0 : Int) (x1 : Int) (x2 : Int) : Option (Bool) :=
  cond (decide (x1 ≤ x0))
   (
    some (decide (x0 ≤ x2)))
   (
    some false)
def m_entry_First : Option (St) :=
  some (⟨0, 0, 0, 1, false⟩ : St)
def m_entry_number (x0 : Int) : Option (Bool) :=
  cond (decide (0 ≤ x0))
   (
    some (decide (x0 ≤ 1073741824)))
   (
    some false)
def m_entry_Fine (x0 : St) : Option (Bool) :=
  cond (decide (x0.index = 0))
   (
    (m_entry_First).bind fun r8 =>
    some (decide (x0.index = r8.index) && (decide (x0.term = r8.term) && (decide (x0.sum = r8.sum) && (decide (x0.level = r8.level) && (decide (x0.final = r8.final)))))))
   (
    cond x0.final
     (
      cond (decide (x0.level = 2))
       (
        (m_entry_number x0.index).bind fun r15 =>
        cond r15
         (
          cond (decide (0 < x0.term))
           (
            (m_entry_number x0.term).bind fun r19 =>
            cond r19
             (
              (m_entry_number x0.sum).bind fun r22 =>
              some r22)
             (
              some false))
           (
            some false))
         (
          some false))
       (
        some false))
     (
      cond (decide (x0.level = 1))
       (
        (m_entry_number x0.index).bind fun r31 =>
        cond r31
         (
          cond (decide (0 < x0.term))
           (
            (m_entry_number x0.term).bind fun r35 =>
            cond r35
             (
              (m_entry_number x0.sum).bind fun r38 =>
              some r38)
             (
              some false))
           (
            some false))
         (
          some false))
       (
        cond (decide (x0.level = 2))
         (
          (m_entry_number x0.index).bind fun r45 =>
          cond r45
           (
            cond (decide (0 < x0.term))
             (
              (m_entry_number x0.term).bind fun r49 =>
              cond r49
               (
                (m_entry_number x0.sum).bind fun r52 =>
                some r52)
               (
                some false))
             (
              some false))
           (
            some false))
         (
          some false))))
def m_msg_each_l1 (x0 : List Int) (x2 : Int) (x3 : Int) : Nat → Int → Int → Option (Bool)
  | 0, _, _ => none
  | n + 1, v13, v14 =>
      cond (decide (v14 < (x0.length : Int)))
       (
        (idx x0 v14).bind fun e21 =>
        (m_msg_within e21 x2 x3).bind fun r26 =>
        cond (!r26)
         (
          some (!(decide (0 ≤ v14))))
         (
          m_msg_each_l1 x0 x2 x3 n v13 (IntKind.wrap .i64 (v14 + 1))))
       (
        some (!(decide (0 ≤ (-1)))))
def m_msg_each (x0 : List Int) (x1 : Int) (x2 : Int) (x3 : Int) : Option (Bool) :=
  cond (decide ((x0.length : Int) = x1))
   (
    m_msg_each_l1 x0 x2 x3 fuelN 0 0)
   (
    some false)
def m_msg_Right (x0 : Co) : Option (Bool) :=
  (m_tuple_Last x0.tuple).bind fun r5 =>
  (m_msg_within x0.n 1 5).bind fun r18 =>
  cond r18
   (
    (m_msg_within x0.id 1 x0.n).bind fun r21 =>
    cond (!r21)
     (
      some false)
     (
      cond (decide (x0.role ≤ 2))
       (
        (m_msg_within x0.binary 1 2).bind fun r34 =>
        cond r34
         (
          (m_tuple_Right x0.tuple).bind fun r37 =>
          cond (!r37)
           (
            some false)
           (
            (m_tuple_State x0.tuple x0.commit).bind fun r49 =>
            cond r49.2
             (
              cond (!(decide (r49.1.index = x0.applied.index) && (decide (r49.1.term = x0.applied.term) && (decide (r49.1.sum = x0.applied.sum) && (decide (r49.1.level = x0.applied.level) && (decide (r49.1.final = x0.applied.final)))))))
               (
                some false)
               (
                cond (decide ((x0.votes.length : Int) = x0.n))
                 (
                  (m_msg_each x0.next x0.n 1 (IntKind.wrap .i64 (r5 + 1))).bind fun r66 =>
                  cond r66
                   (
                    (m_msg_each x0.mtch x0.n 0 r5).bind fun r69 =>
                    cond (!r69)
                     (
                      some false)
                     (
                      (m_msg_each x0.caps x0.n 0 2).bind fun r81 =>
                      cond r81
                       (
                        (idx x0.caps (IntKind.wrap .i64 (x0.id - 1))).bind fun e84 =>
                        cond (!(decide (e84 = x0.binary)))
                         (
                          some false)
                         (
                          cond (decide (x0.role = 0))
                           (
                            some true)
                           (
                            cond (decide (0 < x0.tuple.term))
                             (
                              cond (!(decide (x0.tuple.vote = x0.id)))
                               (
                                some false)
                               (
                                some true))
                             (
                              some false))))
                       (
                        some false)))
                   (
                    some false))
                 (
                  some false)))
             (
              some false)))
         (
          some false))
       (
        some false)))
   (
    some false)

def m_elect_Half_r1 (x0 : List Bool) : List (Int) → Int → Option (Bool)
  | [], v12 =>
      some (decide ((x0.length : Int) < (IntKind.wrap .i64 (2 * v12))))
  | e11 :: l0, v12 =>
      m_elect_Half_r1 x0 l0 (IntKind.wrap .i64 (v12 + 1))
def m_elect_Half (x0 : List Bool) : Option (Bool) :=
  (m_it_votes x0).bind fun xs13 =>
  m_elect_Half_r1 x0 xs13 0
def m_elect_Lead_l1 (r7 : Co) (r42 : Tu × Int) (r58 : Int) : Nat → Int → List Int → List Int → Option (Co)
  | 0, _, _, _ => none
  | n + 1, v62, v63, v66 =>
      cond (decide (v62 < r7.n))
       (
        (idx v63 v62).bind fun e74 =>
        (idx v66 v62).bind fun e78 =>
        m_elect_Lead_l1 r7 r42 r58 n (IntKind.wrap .i64 (v62 + 1)) (setI v63 v62 (IntKind.wrap .i64 (r58 + 1))) (setI v66 v62 0))
       (
        (idx v66 (IntKind.wrap .i64 (r7.id - 1))).bind fun e84 =>
        some (⟨r7.id, r7.n, 2, r7.binary, r42.1, r7.commit, r7.applied, r7.votes, v63, (setI v66 (IntKind.wrap .i64 (r7.id - 1)) r58), r7.caps⟩ : Co))
def m_elect_Lead (x0 : Co) : Option (Co) :=
  (m_msg_Own x0).bind fun r7 =>
  cond (decide (r7.role ≠ 1))
   (
    some r7)
   (
    (m_msg_Right r7).bind fun r34 =>
    cond (!r34)
     (
      some r7)
     (
      (m_tuple_Append r7.tuple ([(⟨r7.tuple.term, 0, 0⟩ : En)] : List En)).bind fun r42 =>
      cond (decide (r42.2 ≠ 0))
       (
        some (⟨r7.id, r7.n, 0, r7.binary, r7.tuple, r7.commit, r7.applied, r7.votes, r7.next, r7.mtch, r7.caps⟩ : Co))
       (
        (m_tuple_Last r42.1).bind fun r58 =>
        m_elect_Lead_l1 r7 r42 r58 fuelN 0 r7.next r7.mtch)))
def m_tuple_At (x0 : Tu) (x1 : Int) : Option (En × Bool) :=
  cond (decide (x1 ≤ x0.snap.index))
   (
    some ((⟨0, 0, 0⟩ : En), false))
   (
    (m_tuple_Last x0).bind fun r11 =>
    cond (decide (r11 < x1))
     (
      some ((⟨0, 0, 0⟩ : En), false))
     (
      (idx x0.log (IntKind.wrap .i64 ((IntKind.wrap .i64 (x1 - x0.snap.index)) - 1))).bind fun e17 =>
      some (e17, true)))
def m_tuple_TermAt (x0 : Tu) (x1 : Int) : Option (Int × Bool) :=
  cond (decide (x1 = x0.snap.index))
   (
    some (x0.snap.term, true))
   (
    (m_tuple_At x0 x1).bind fun r10 =>
    some (r10.1.term, r10.2))
def m_elect_end (x0 : Co) : Option (Int × Int) :=
  (m_tuple_Last x0.tuple).bind fun r5 =>
  (m_tuple_TermAt x0.tuple r5).bind fun r8 =>
  some (r5, r8.1)

def m_msg_Others_r1 (x0 : Co) (x1 : Ms) : List (Int) → List Ms → Option (List Ms)
  | [], v15 =>
      some v15
  | e14 :: l0, v15 =>
      (m_slices_Clone___api_Entry_api_Entry_ x1.entries).bind fun r30 =>
      (fewI (v15 ++ [(⟨x1.kind, x0.id, e14, x0.tuple.term, x0.binary, x1.last, x1.lastTerm, x1.commit, x1.okk, r30, x1.snap⟩ : Ms)])).bind fun l38 =>
      m_msg_Others_r1 x0 x1 l0 l38
def m_msg_Others (x0 : Co) (x1 : Ms) : Option (List Ms) :=
  (m_it_others x0).bind fun xs24 =>
  m_msg_Others_r1 x0 x1 xs24 []
def m_elect_Timeout (x0 : Co) : Option (Co × List Ms) :=
  (m_msg_Own x0).bind fun r7 =>
  (m_msg_Right r7).bind fun r31 =>
  cond (!r31)
   (
    some (r7, []))
   (
    cond (decide (r7.role = 2))
     (
      some (r7, []))
     (
      cond (decide (r7.tuple.term = 1073741824))
       (
        some (r7, []))
       (
        (m_tuple_Hard r7.tuple (IntKind.wrap .i64 (r7.tuple.term + 1)) r7.id).bind fun r51 =>
        (makeI false r7.n).bind fun l58 =>
        (idx ([r7.id] : List Int) 0).bind fun e70 =>
        (idx l58 (IntKind.wrap .i64 (e70 - 1))).bind fun e73 =>
        (m_elect_Half (setI l58 (IntKind.wrap .i64 (e70 - 1)) true)).bind fun r82 =>
        cond r82
         (
          (m_elect_Lead (⟨r7.id, r7.n, 1, r7.binary, r51.1, r7.commit, r7.applied, (setI l58 (IntKind.wrap .i64 (e70 - 1)) true), r7.next, r7.mtch, r7.caps⟩ : Co)).bind fun r86 =>
          some (r86, []))
         (
          (m_elect_end (⟨r7.id, r7.n, 1, r7.binary, r51.1, r7.commit, r7.applied, (setI l58 (IntKind.wrap .i64 (e70 - 1)) true), r7.next, r7.mtch, r7.caps⟩ : Co)).bind fun r110 =>
          (m_msg_Others (⟨r7.id, r7.n, 1, r7.binary, r51.1, r7.commit, r7.applied, (setI l58 (IntKind.wrap .i64 (e70 - 1)) true), r7.next, r7.mtch, r7.caps⟩ : Co) (⟨1, 0, 0, 0, 0, r110.1, r110.2, 0, false, [], (⟨0, 0, 0, 0, false⟩ : St)⟩ : Ms)).bind fun r113 =>
          some ((⟨r7.id, r7.n, 1, r7.binary, r51.1, r7.commit, r7.applied, (setI l58 (IntKind.wrap .i64 (e70 - 1)) true), r7.next, r7.mtch, r7.caps⟩ : Co), r113)))))
def m_msg_entries_l1 (x0 : Ms) : Nat → Bool → Int → Int → Option (Bool)
  | 0, _, _, _ => none
  | n + 1, v7, v8, v9 =>
      cond (decide (v9 < (x0.entries.length : Int)))
       (
        (idx x0.entries v9).bind fun e15 =>
        (m_entry_Right e15).bind fun r22 =>
        cond (!r22)
         (
          some false)
         (
          (m_msg_within e15.term v8 x0.term).bind fun r27 =>
          cond (!r27)
           (
            some false)
           (
            m_msg_entries_l1 x0 n v7 e15.term (IntKind.wrap .i64 (v9 + 1)))))
       (
        some (decide ((x0.entries.length : Int) ≤ 4)))
def m_msg_entries (x0 : Ms) : Option (Bool) :=
  m_msg_entries_l1 x0 fuelN false x0.lastTerm 0
def m_msg_Fine (x0 : Ms) (x1 : Int) : Option (Bool) :=
  (m_msg_within x1 1 5).bind fun r6 =>
  cond (!r6)
   (
    some false)
   (
    (m_msg_each ([x0.frm, x0.dst] : List Int) 2 1 x1).bind fun r14 =>
    cond (!r14)
     (
      some false)
     (
      cond (decide (x0.frm = x0.dst))
       (
        some false)
       (
        (m_msg_within (IntKind.wrap .i64 x0.kind) 1 5).bind fun r26 =>
        cond (!r26)
         (
          some false)
         (
          (m_msg_within x0.term 1 1073741824).bind fun r32 =>
          cond (!r32)
           (
            some false)
           (
            (m_msg_within x0.cap 1 2).bind fun r38 =>
            cond (!r38)
             (
              some false)
             (
              (m_msg_each ([x0.last, x0.lastTerm, x0.commit] : List Int) 3 0 1073741824).bind fun r48 =>
              cond (!r48)
               (
                some false)
               (
                (m_msg_entries x0).bind fun r54 =>
                cond (!r54)
                 (
                  some false)
                 (
                  cond (decide (x0.kind ≠ 3))
                   (
                    cond (decide (0 < (x0.entries.length : Int)))
                     (
                      some false)
                     (
                      cond (decide (0 < x0.commit))
                       (
                        some false)
                       (
                        cond x0.okk
                         (
                          cond (decide (x0.kind ≠ 2))
                           (
                            cond (decide (x0.kind ≠ 4))
                             (
                              some false)
                             (
                              cond (decide (x0.kind = 5))
                               (
                                cond (decide (0 < x0.snap.index))
                                 (
                                  (m_entry_Fine x0.snap).bind fun r84 =>
                                  some r84)
                                 (
                                  some false))
                               (
                                some (decide (x0.snap.index = 0) && (decide (x0.snap.term = 0) && (decide (x0.snap.sum = 0) && (decide (x0.snap.level = 0) && (decide (x0.snap.final = false)))))))))
                           (
                            cond (decide (x0.kind = 5))
                             (
                              cond (decide (0 < x0.snap.index))
                               (
                                (m_entry_Fine x0.snap).bind fun r96 =>
                                some r96)
                               (
                                some false))
                             (
                              some (decide (x0.snap.index = 0) && (decide (x0.snap.term = 0) && (decide (x0.snap.sum = 0) && (decide (x0.snap.level = 0) && (decide (x0.snap.final = false)))))))))
                         (
                          cond (decide (x0.kind = 5))
                           (
                            cond (decide (0 < x0.snap.index))
                             (
                              (m_entry_Fine x0.snap).bind fun r108 =>
                              some r108)
                             (
                              some false))
                           (
                            some (decide (x0.snap.index = 0) && (decide (x0.snap.term = 0) && (decide (x0.snap.sum = 0) && (decide (x0.snap.level = 0) && (decide (x0.snap.final = false)))))))))))
                   (
                    cond x0.okk
                     (
                      cond (decide (x0.kind ≠ 2))
                       (
                        cond (decide (x0.kind ≠ 4))
                         (
                          some false)
                         (
                          cond (decide (x0.kind = 5))
                           (
                            cond (decide (0 < x0.snap.index))
                             (
                              (m_entry_Fine x0.snap).bind fun r128 =>
                              some r128)
                             (
                              some false))
                           (
                            some (decide (x0.snap.index = 0) && (decide (x0.snap.term = 0) && (decide (x0.snap.sum = 0) && (decide (x0.snap.level = 0) && (decide (x0.snap.final = false)))))))))
                       (
                        cond (decide (x0.kind = 5))
                         (
                          cond (decide (0 < x0.snap.index))
                           (
                            (m_entry_Fine x0.snap).bind fun r140 =>
                            some r140)
                           (
                            some false))
                         (
                          some (decide (x0.snap.index = 0) && (decide (x0.snap.term = 0) && (decide (x0.snap.sum = 0) && (decide (x0.snap.level = 0) && (decide (x0.snap.final = false)))))))))
                     (
                      cond (decide (x0.kind = 5))
                       (
                        cond (decide (0 < x0.snap.index))
                         (
                          (m_entry_Fine x0.snap).bind fun r152 =>
                          some r152)
                         (
                          some false))
                       (
                        some (decide (x0.snap.index = 0) && (decide (x0.snap.term = 0) && (decide (x0.snap.sum = 0) && (decide (x0.snap.level = 0) && (decide (x0.snap.final = false)))))))))))))))))
def m_elect_fits (x0 : Co) (x1 : Ms) : Option (Bool) :=
  cond (decide (x1.dst = x0.id))
   (
    (m_msg_Fine x1 x0.n).bind fun r8 =>
    cond r8
     (
      (m_msg_Right x0).bind fun r11 =>
      some r11)
     (
      some false))
   (
    some false)
def m_advert_To (x0 : Co) (x1 : Ms) : Option (Bool) :=
  cond (decide (x1.dst ≠ x0.id))
   (
    some false)
   (
    (m_msg_Right x0).bind fun r12 =>
    cond (!r12)
     (
      some false)
     (
      (m_msg_Fine x1 x0.n).bind fun r19 =>
      some r19))
def m_advert_Hear (x0 : Co) (x1 : Ms) : Option (Co) :=
  (m_advert_To x0 x1).bind fun r9 =>
  (m_msg_Own x0).bind fun r19 =>
  cond r9
   (
    (m_msg_Right r19).bind fun r44 =>
    cond r44
     (
      (idx r19.caps (IntKind.wrap .i64 (x1.frm - 1))).bind fun e47 =>
      some (⟨r19.id, r19.n, r19.role, r19.binary, r19.tuple, r19.commit, r19.applied, r19.votes, r19.next, r19.mtch, (setI r19.caps (IntKind.wrap .i64 (x1.frm - 1)) x1.cap)⟩ : Co))
     (
      some r19))
   (
    some r19)
def m_elect_Meet (x0 : Co) (x1 : Ms) : Option (Co) :=
  (m_msg_Own x0).bind fun r9 =>
  (m_elect_fits r9 x1).bind fun r33 =>
  cond (!r33)
   (
    some r9)
   (
    (m_advert_Hear r9 x1).bind fun r41 =>
    cond (decide (r41.tuple.term < x1.term))
     (
      (m_tuple_Hard r41.tuple x1.term 0).bind fun r71 =>
      (makeI false r41.n).bind fun l78 =>
      some (⟨r41.id, r41.n, 0, r41.binary, r71.1, r41.commit, r41.applied, l78, r41.next, r41.mtch, r41.caps⟩ : Co))
     (
      some r41))
def m_elect_Newer (x0 : Co) (x1 : Int) (x2 : Int) : Option (Bool) :=
  (m_msg_Right x0).bind fun r6 =>
  cond (!r6)
   (
    some false)
   (
    (m_elect_end x0).bind fun r12 =>
    cond (decide (r12.2 ≠ x1))
     (
      some (decide (r12.2 < x1)))
     (
      some (decide (r12.1 ≤ x2))))
def m_msg_Back (x0 : Co) (x1 : Ms) (x2 : Int) (x3 : Bool) (x4 : Int) : Option (Ms) :=
  some (⟨x2, x0.id, x1.frm, x0.tuple.term, x0.binary, x4, 0, 0, x3, [], (⟨0, 0, 0, 0, false⟩ : St)⟩ : Ms)
def m_elect_Vote (x0 : Co) (x1 : Ms) : Option (Co × List Ms) :=
  (m_elect_fits x0 x1).bind fun r10 =>
  cond (!r10)
   (
    (m_msg_Own x0).bind fun r14 =>
    some (r14, []))
   (
    cond (decide (x1.kind ≠ 1))
     (
      (m_msg_Own x0).bind fun r39 =>
      some (r39, []))
     (
      (m_elect_Meet x0 x1).bind fun r63 =>
      cond (decide (r63.tuple.vote = 0))
       (
        cond (decide (r63.role = 0))
         (
          cond (decide (x1.term = r63.tuple.term))
           (
            (m_elect_Newer r63 x1.lastTerm x1.last).bind fun r90 =>
            cond r90
             (
              (m_tuple_Hard r63.tuple x1.term x1.frm).bind fun r95 =>
              (m_msg_Back (⟨r63.id, r63.n, r63.role, r63.binary, r95.1, r63.commit, r63.applied, r63.votes, r63.next, r63.mtch, r63.caps⟩ : Co) x1 2 r90 0).bind fun r102 =>
              some ((⟨r63.id, r63.n, r63.role, r63.binary, r95.1, r63.commit, r63.applied, r63.votes, r63.next, r63.mtch, r63.caps⟩ : Co), ([r102] : List Ms)))
             (
              (m_msg_Back r63 x1 2 r90 0).bind fun r112 =>
              some (r63, ([r112] : List Ms))))
           (
            (m_msg_Back r63 x1 2 false 0).bind fun r124 =>
            some (r63, ([r124] : List Ms))))
         (
          (m_msg_Back r63 x1 2 false 0).bind fun r136 =>
          some (r63, ([r136] : List Ms))))
       (
        cond (decide (r63.tuple.vote = x1.frm))
         (
          cond (decide (r63.role = 0))
           (
            cond (decide (x1.term = r63.tuple.term))
             (
              (m_elect_Newer r63 x1.lastTerm x1.last).bind fun r149 =>
              cond r149
               (
                (m_tuple_Hard r63.tuple x1.term x1.frm).bind fun r154 =>
                (m_msg_Back (⟨r63.id, r63.n, r63.role, r63.binary, r154.1, r63.commit, r63.applied, r63.votes, r63.next, r63.mtch, r63.caps⟩ : Co) x1 2 r149 0).bind fun r161 =>
                some ((⟨r63.id, r63.n, r63.role, r63.binary, r154.1, r63.commit, r63.applied, r63.votes, r63.next, r63.mtch, r63.caps⟩ : Co), ([r161] : List Ms)))
               (
                (m_msg_Back r63 x1 2 r149 0).bind fun r171 =>
                some (r63, ([r171] : List Ms))))
             (
              (m_msg_Back r63 x1 2 false 0).bind fun r183 =>
              some (r63, ([r183] : List Ms))))
           (
            (m_msg_Back r63 x1 2 false 0).bind fun r195 =>
            some (r63, ([r195] : List Ms))))
         (
          (m_msg_Back r63 x1 2 false 0).bind fun r207 =>
          some (r63, ([r207] : List Ms))))))
def m_elect_Voted (x0 : Co) (x1 : Ms) : Option (Co × List Ms) :=
  (m_elect_fits x0 x1).bind fun r10 =>
  cond (!r10)
   (
    (m_msg_Own x0).bind fun r14 =>
    some (r14, []))
   (
    cond (decide (x1.kind ≠ 2))
     (
      (m_msg_Own x0).bind fun r39 =>
      some (r39, []))
     (
      (m_elect_Meet x0 x1).bind fun r63 =>
      cond (!x1.okk)
       (
        some (r63, []))
       (
        cond (decide (r63.role ≠ 1))
         (
          some (r63, []))
         (
          cond (decide (x1.term ≠ r63.tuple.term))
           (
            some (r63, []))
           (
            (idx r63.votes (IntKind.wrap .i64 (x1.frm - 1))).bind fun e101 =>
            (m_elect_Half (setI r63.votes (IntKind.wrap .i64 (x1.frm - 1)) true)).bind fun r106 =>
            cond r106
             (
              (m_elect_Lead (⟨r63.id, r63.n, r63.role, r63.binary, r63.tuple, r63.commit, r63.applied, (setI r63.votes (IntKind.wrap .i64 (x1.frm - 1)) true), r63.next, r63.mtch, r63.caps⟩ : Co)).bind fun r109 =>
              some (r109, []))
             (
              some ((⟨r63.id, r63.n, r63.role, r63.binary, r63.tuple, r63.commit, r63.applied, (setI r63.votes (IntKind.wrap .i64 (x1.frm - 1)) true), r63.next, r63.mtch, r63.caps⟩ : Co), [])))))))
def m_law22_wakes : Option (Bool) :=
  (m_ref12_First).bind fun r3 =>
  (m_ref20_New 1 1 1 r3).bind fun r9 =>
  (m_elect_Timeout r9).bind fun r31 =>
  (m_ref12_First).bind fun r64 =>
  (m_ref20_New 1 3 1 r64).bind fun r70 =>
  (m_elect_Timeout r70).bind fun r92 =>
  cond (decide ((r92.2.length : Int) ≠ 2))
   (
    some false)
   (
    cond (decide ((r92.1.votes.length : Int) ≠ 3))
     (
      some false)
     (
      (idx r92.2 0).bind fun e133 =>
      (m_ref12_First).bind fun r138 =>
      (m_ref20_New 2 3 2 r138).bind fun r144 =>
      (m_elect_Vote r144 e133).bind fun r166 =>
      cond (decide ((r166.2.length : Int) ≠ 1))
       (
        some false)
       (
        (idx r166.2 0).bind fun e205 =>
        (m_elect_Voted r92.1 e205).bind fun r210 =>
        (m_elect_Vote r166.1 (⟨1, 3, 2, 1, 1, 0, 0, 0, false, [], (⟨0, 0, 0, 0, false⟩ : St)⟩ : Ms)).bind fun r244 =>
        cond (decide ((r244.2.length : Int) ≠ 1))
         (
          some false)
         (
          cond (decide (r31.1.role = 2))
           (
            cond (decide ((r31.2.length : Int) = 0))
             (
              cond (decide (r31.1.tuple.term = 1))
               (
                cond (decide ((r31.1.tuple.log.length : Int) = 1))
                 (
                  cond (decide (r92.1.role = 1))
                   (
                    (idx r166.2 0).bind fun e287 =>
                    cond e287.okk
                     (
                      cond (decide (r166.1.tuple.vote = 1))
                       (
                        cond (decide (r210.1.role = 2))
                         (
                          cond (decide ((r210.2.length : Int) = 0))
                           (
                            (idx r210.1.caps 1).bind fun e296 =>
                            cond (decide (e296 = 2))
                             (
                              (idx r244.2 0).bind fun e300 =>
                              cond (!e300.okk)
                               (
                                cond (decide (r244.1.tuple.vote = 1))
                                 (
                                  (m_elect_Half ([true, true, false] : List Bool)).bind fun r309 =>
                                  cond r309
                                   (
                                    (m_elect_Half ([true, false] : List Bool)).bind fun r314 =>
                                    cond (!r314)
                                     (
                                      (m_elect_Newer r92.1 0 0).bind fun r317 =>
                                      cond r317
                                       (
                                        (m_elect_Newer r210.1 0 9).bind fun r320 =>
                                        some (!r320))
                                       (
                                        some false))
                                     (
                                      some false))
                                   (
                                    some false))
                                 (
                                  some false))
                               (
                                some false))
                             (
                              some false))
                           (
                            some false))
                         (
                          some false))
                       (
                        some false))
                     (
                      some false))
                   (
                    some false))
                 (
                  some false))
               (
                some false))
             (
              some false))
           (
            some false)))))
def m_law22_ElectOne_l2 (x0 : Int) (x1 : List Int) : Nat → Bool → List Ms → Int → List Int → List Co → Option (Bool)
  | 0, _, _, _, _, _ => none
  | n + 1, v83, v84, v93, v94, v96 =>
      cond (decide (v93 < (x1.length : Int)))
       (
        (idx x1 v93).bind fun e106 =>
        (remI (IntKind.wrap .i64 (Int.tdiv (bits .and .i64 e106 1073741823) 2)) x0).bind fun q111 =>
        cond (decide ((Int.tmod (bits .and .i64 e106 1073741823) 2) = 0))
         (
          (idx v96 (Int.tmod (IntKind.wrap .i64 (Int.tdiv (bits .and .i64 e106 1073741823) 2)) x0)).bind fun e116 =>
          (m_elect_Timeout e116).bind fun r129 =>
          (idx v96 (Int.tmod (IntKind.wrap .i64 (Int.tdiv (bits .and .i64 e106 1073741823) 2)) x0)).bind fun e159 =>
          cond (decide ((r129.2.length : Int) ≤ x0))
           (
            (fewI (v84 ++ r129.2)).bind fun l175 =>
            (idx (setI v96 (Int.tmod (IntKind.wrap .i64 (Int.tdiv (bits .and .i64 e106 1073741823) 2)) x0) r129.1) (Int.tmod (IntKind.wrap .i64 (Int.tdiv (bits .and .i64 e106 1073741823) 2)) x0)).bind fun e182 =>
            cond (decide (e182.role = 2))
             (
              cond (decide (e182.tuple.term < 1))
               (
                some false)
               (
                cond (decide (50 ≤ e182.tuple.term))
                 (
                  some false)
                 (
                  (idx v94 e182.tuple.term).bind fun e208 =>
                  cond (decide (e208 ≠ 0))
                   (
                    (idx v94 e182.tuple.term).bind fun e212 =>
                    cond (decide (e212 ≠ e182.id))
                     (
                      some false)
                     (
                      (idx v94 e182.tuple.term).bind fun e218 =>
                      m_law22_ElectOne_l2 x0 x1 n v83 l175 (IntKind.wrap .i64 (v93 + 1)) (setI v94 e182.tuple.term e182.id) (setI v96 (Int.tmod (IntKind.wrap .i64 (Int.tdiv (bits .and .i64 e106 1073741823) 2)) x0) r129.1)))
                   (
                    (idx v94 e182.tuple.term).bind fun e222 =>
                    m_law22_ElectOne_l2 x0 x1 n v83 l175 (IntKind.wrap .i64 (v93 + 1)) (setI v94 e182.tuple.term e182.id) (setI v96 (Int.tmod (IntKind.wrap .i64 (Int.tdiv (bits .and .i64 e106 1073741823) 2)) x0) r129.1)))))
             (
              m_law22_ElectOne_l2 x0 x1 n v83 l175 (IntKind.wrap .i64 (v93 + 1)) v94 (setI v96 (Int.tmod (IntKind.wrap .i64 (Int.tdiv (bits .and .i64 e106 1073741823) 2)) x0) r129.1)))
           (
            (idx (setI v96 (Int.tmod (IntKind.wrap .i64 (Int.tdiv (bits .and .i64 e106 1073741823) 2)) x0) r129.1) (Int.tmod (IntKind.wrap .i64 (Int.tdiv (bits .and .i64 e106 1073741823) 2)) x0)).bind fun e228 =>
            cond (decide (e228.role = 2))
             (
              cond (decide (e228.tuple.term < 1))
               (
                some false)
               (
                cond (decide (50 ≤ e228.tuple.term))
                 (
                  some false)
                 (
                  (idx v94 e228.tuple.term).bind fun e254 =>
                  cond (decide (e254 ≠ 0))
                   (
                    (idx v94 e228.tuple.term).bind fun e258 =>
                    cond (decide (e258 ≠ e228.id))
                     (
                      some false)
                     (
                      (idx v94 e228.tuple.term).bind fun e264 =>
                      m_law22_ElectOne_l2 x0 x1 n v83 v84 (IntKind.wrap .i64 (v93 + 1)) (setI v94 e228.tuple.term e228.id) (setI v96 (Int.tmod (IntKind.wrap .i64 (Int.tdiv (bits .and .i64 e106 1073741823) 2)) x0) r129.1)))
                   (
                    (idx v94 e228.tuple.term).bind fun e268 =>
                    m_law22_ElectOne_l2 x0 x1 n v83 v84 (IntKind.wrap .i64 (v93 + 1)) (setI v94 e228.tuple.term e228.id) (setI v96 (Int.tmod (IntKind.wrap .i64 (Int.tdiv (bits .and .i64 e106 1073741823) 2)) x0) r129.1)))))
             (
              m_law22_ElectOne_l2 x0 x1 n v83 v84 (IntKind.wrap .i64 (v93 + 1)) v94 (setI v96 (Int.tmod (IntKind.wrap .i64 (Int.tdiv (bits .and .i64 e106 1073741823) 2)) x0) r129.1))))
         (
          cond (decide ((v84.length : Int) = 0))
           (
            (idx v96 (Int.tmod (IntKind.wrap .i64 (Int.tdiv (bits .and .i64 e106 1073741823) 2)) x0)).bind fun e274 =>
            (m_elect_Timeout e274).bind fun r287 =>
            (idx v96 (Int.tmod (IntKind.wrap .i64 (Int.tdiv (bits .and .i64 e106 1073741823) 2)) x0)).bind fun e317 =>
            cond (decide ((r287.2.length : Int) ≤ x0))
             (
              (fewI (v84 ++ r287.2)).bind fun l333 =>
              (idx (setI v96 (Int.tmod (IntKind.wrap .i64 (Int.tdiv (bits .and .i64 e106 1073741823) 2)) x0) r287.1) (Int.tmod (IntKind.wrap .i64 (Int.tdiv (bits .and .i64 e106 1073741823) 2)) x0)).bind fun e340 =>
              cond (decide (e340.role = 2))
               (
                cond (decide (e340.tuple.term < 1))
                 (
                  some false)
                 (
                  cond (decide (50 ≤ e340.tuple.term))
                   (
                    some false)
                   (
                    (idx v94 e340.tuple.term).bind fun e366 =>
                    cond (decide (e366 ≠ 0))
                     (
                      (idx v94 e340.tuple.term).bind fun e370 =>
                      cond (decide (e370 ≠ e340.id))
                       (
                        some false)
                       (
                        (idx v94 e340.tuple.term).bind fun e376 =>
                        m_law22_ElectOne_l2 x0 x1 n v83 l333 (IntKind.wrap .i64 (v93 + 1)) (setI v94 e340.tuple.term e340.id) (setI v96 (Int.tmod (IntKind.wrap .i64 (Int.tdiv (bits .and .i64 e106 1073741823) 2)) x0) r287.1)))
                     (
                      (idx v94 e340.tuple.term).bind fun e380 =>
                      m_law22_ElectOne_l2 x0 x1 n v83 l333 (IntKind.wrap .i64 (v93 + 1)) (setI v94 e340.tuple.term e340.id) (setI v96 (Int.tmod (IntKind.wrap .i64 (Int.tdiv (bits .and .i64 e106 1073741823) 2)) x0) r287.1)))))
               (
                m_law22_ElectOne_l2 x0 x1 n v83 l333 (IntKind.wrap .i64 (v93 + 1)) v94 (setI v96 (Int.tmod (IntKind.wrap .i64 (Int.tdiv (bits .and .i64 e106 1073741823) 2)) x0) r287.1)))
             (
              (idx (setI v96 (Int.tmod (IntKind.wrap .i64 (Int.tdiv (bits .and .i64 e106 1073741823) 2)) x0) r287.1) (Int.tmod (IntKind.wrap .i64 (Int.tdiv (bits .and .i64 e106 1073741823) 2)) x0)).bind fun e386 =>
              cond (decide (e386.role = 2))
               (
                cond (decide (e386.tuple.term < 1))
                 (
                  some false)
                 (
                  cond (decide (50 ≤ e386.tuple.term))
                   (
                    some false)
                   (
                    (idx v94 e386.tuple.term).bind fun e412 =>
                    cond (decide (e412 ≠ 0))
                     (
                      (idx v94 e386.tuple.term).bind fun e416 =>
                      cond (decide (e416 ≠ e386.id))
                       (
                        some false)
                       (
                        (idx v94 e386.tuple.term).bind fun e422 =>
                        m_law22_ElectOne_l2 x0 x1 n v83 v84 (IntKind.wrap .i64 (v93 + 1)) (setI v94 e386.tuple.term e386.id) (setI v96 (Int.tmod (IntKind.wrap .i64 (Int.tdiv (bits .and .i64 e106 1073741823) 2)) x0) r287.1)))
                     (
                      (idx v94 e386.tuple.term).bind fun e426 =>
                      m_law22_ElectOne_l2 x0 x1 n v83 v84 (IntKind.wrap .i64 (v93 + 1)) (setI v94 e386.tuple.term e386.id) (setI v96 (Int.tmod (IntKind.wrap .i64 (Int.tdiv (bits .and .i64 e106 1073741823) 2)) x0) r287.1)))))
               (
                m_law22_ElectOne_l2 x0 x1 n v83 v84 (IntKind.wrap .i64 (v93 + 1)) v94 (setI v96 (Int.tmod (IntKind.wrap .i64 (Int.tdiv (bits .and .i64 e106 1073741823) 2)) x0) r287.1))))
           (
            (remI (IntKind.wrap .i64 (Int.tdiv (bits .and .i64 e106 1073741823) 2)) (v84.length : Int)).bind fun q432 =>
            (idx v84 (Int.tmod (IntKind.wrap .i64 (Int.tdiv (bits .and .i64 e106 1073741823) 2)) (v84.length : Int))).bind fun e434 =>
            cond ((decide ((IntKind.wrap .i64 (e434.dst - 1)) < 0)) || (decide (x0 ≤ (IntKind.wrap .i64 (e434.dst - 1)))))
             (
              some false)
             (
              cond (decide (e434.kind = 1))
               (
                (idx v96 (IntKind.wrap .i64 (e434.dst - 1))).bind fun e449 =>
                (m_elect_Vote e449 e434).bind fun r462 =>
                (idx v96 (IntKind.wrap .i64 (e434.dst - 1))).bind fun e492 =>
                cond (decide ((r462.2.length : Int) ≤ x0))
                 (
                  (fewI (v84 ++ r462.2)).bind fun l508 =>
                  (idx (setI v96 (IntKind.wrap .i64 (e434.dst - 1)) r462.1) (IntKind.wrap .i64 (e434.dst - 1))).bind fun e515 =>
                  cond (decide (e515.role = 2))
                   (
                    cond (decide (e515.tuple.term < 1))
                     (
                      some false)
                     (
                      cond (decide (50 ≤ e515.tuple.term))
                       (
                        some false)
                       (
                        (idx v94 e515.tuple.term).bind fun e541 =>
                        cond (decide (e541 ≠ 0))
                         (
                          (idx v94 e515.tuple.term).bind fun e545 =>
                          cond (decide (e545 ≠ e515.id))
                           (
                            some false)
                           (
                            (idx v94 e515.tuple.term).bind fun e551 =>
                            m_law22_ElectOne_l2 x0 x1 n v83 l508 (IntKind.wrap .i64 (v93 + 1)) (setI v94 e515.tuple.term e515.id) (setI v96 (IntKind.wrap .i64 (e434.dst - 1)) r462.1)))
                         (
                          (idx v94 e515.tuple.term).bind fun e555 =>
                          m_law22_ElectOne_l2 x0 x1 n v83 l508 (IntKind.wrap .i64 (v93 + 1)) (setI v94 e515.tuple.term e515.id) (setI v96 (IntKind.wrap .i64 (e434.dst - 1)) r462.1)))))
                   (
                    m_law22_ElectOne_l2 x0 x1 n v83 l508 (IntKind.wrap .i64 (v93 + 1)) v94 (setI v96 (IntKind.wrap .i64 (e434.dst - 1)) r462.1)))
                 (
                  (idx (setI v96 (IntKind.wrap .i64 (e434.dst - 1)) r462.1) (IntKind.wrap .i64 (e434.dst - 1))).bind fun e561 =>
                  cond (decide (e561.role = 2))
                   (
                    cond (decide (e561.tuple.term < 1))
                     (
                      some false)
                     (
                      cond (decide (50 ≤ e561.tuple.term))
                       (
                        some false)
                       (
                        (idx v94 e561.tuple.term).bind fun e587 =>
                        cond (decide (e587 ≠ 0))
                         (
                          (idx v94 e561.tuple.term).bind fun e591 =>
                          cond (decide (e591 ≠ e561.id))
                           (
                            some false)
                           (
                            (idx v94 e561.tuple.term).bind fun e597 =>
                            m_law22_ElectOne_l2 x0 x1 n v83 v84 (IntKind.wrap .i64 (v93 + 1)) (setI v94 e561.tuple.term e561.id) (setI v96 (IntKind.wrap .i64 (e434.dst - 1)) r462.1)))
                         (
                          (idx v94 e561.tuple.term).bind fun e601 =>
                          m_law22_ElectOne_l2 x0 x1 n v83 v84 (IntKind.wrap .i64 (v93 + 1)) (setI v94 e561.tuple.term e561.id) (setI v96 (IntKind.wrap .i64 (e434.dst - 1)) r462.1)))))
                   (
                    m_law22_ElectOne_l2 x0 x1 n v83 v84 (IntKind.wrap .i64 (v93 + 1)) v94 (setI v96 (IntKind.wrap .i64 (e434.dst - 1)) r462.1))))
               (
                (idx v96 (IntKind.wrap .i64 (e434.dst - 1))).bind fun e606 =>
                (m_elect_Voted e606 e434).bind fun r619 =>
                (idx v96 (IntKind.wrap .i64 (e434.dst - 1))).bind fun e649 =>
                cond (decide ((r619.2.length : Int) ≤ x0))
                 (
                  (fewI (v84 ++ r619.2)).bind fun l665 =>
                  (idx (setI v96 (IntKind.wrap .i64 (e434.dst - 1)) r619.1) (IntKind.wrap .i64 (e434.dst - 1))).bind fun e672 =>
                  cond (decide (e672.role = 2))
                   (
                    cond (decide (e672.tuple.term < 1))
                     (
                      some false)
                     (
                      cond (decide (50 ≤ e672.tuple.term))
                       (
                        some false)
                       (
                        (idx v94 e672.tuple.term).bind fun e698 =>
                        cond (decide (e698 ≠ 0))
                         (
                          (idx v94 e672.tuple.term).bind fun e702 =>
                          cond (decide (e702 ≠ e672.id))
                           (
                            some false)
                           (
                            (idx v94 e672.tuple.term).bind fun e708 =>
                            m_law22_ElectOne_l2 x0 x1 n v83 l665 (IntKind.wrap .i64 (v93 + 1)) (setI v94 e672.tuple.term e672.id) (setI v96 (IntKind.wrap .i64 (e434.dst - 1)) r619.1)))
                         (
                          (idx v94 e672.tuple.term).bind fun e712 =>
                          m_law22_ElectOne_l2 x0 x1 n v83 l665 (IntKind.wrap .i64 (v93 + 1)) (setI v94 e672.tuple.term e672.id) (setI v96 (IntKind.wrap .i64 (e434.dst - 1)) r619.1)))))
                   (
                    m_law22_ElectOne_l2 x0 x1 n v83 l665 (IntKind.wrap .i64 (v93 + 1)) v94 (setI v96 (IntKind.wrap .i64 (e434.dst - 1)) r619.1)))
                 (
                  (idx (setI v96 (IntKind.wrap .i64 (e434.dst - 1)) r619.1) (IntKind.wrap .i64 (e434.dst - 1))).bind fun e718 =>
                  cond (decide (e718.role = 2))
                   (
                    cond (decide (e718.tuple.term < 1))
                     (
                      some false)
                     (
                      cond (decide (50 ≤ e718.tuple.term))
                       (
                        some false)
                       (
                        (idx v94 e718.tuple.term).bind fun e744 =>
                        cond (decide (e744 ≠ 0))
                         (
                          (idx v94 e718.tuple.term).bind fun e748 =>
                          cond (decide (e748 ≠ e718.id))
                           (
                            some false)
                           (
                            (idx v94 e718.tuple.term).bind fun e754 =>
                            m_law22_ElectOne_l2 x0 x1 n v83 v84 (IntKind.wrap .i64 (v93 + 1)) (setI v94 e718.tuple.term e718.id) (setI v96 (IntKind.wrap .i64 (e434.dst - 1)) r619.1)))
                         (
                          (idx v94 e718.tuple.term).bind fun e758 =>
                          m_law22_ElectOne_l2 x0 x1 n v83 v84 (IntKind.wrap .i64 (v93 + 1)) (setI v94 e718.tuple.term e718.id) (setI v96 (IntKind.wrap .i64 (e434.dst - 1)) r619.1)))))
                   (
                    m_law22_ElectOne_l2 x0 x1 n v83 v84 (IntKind.wrap .i64 (v93 + 1)) v94 (setI v96 (IntKind.wrap .i64 (e434.dst - 1)) r619.1))))))))
       (
        (m_law22_wakes).bind fun r764 =>
        some r764)
def m_law22_ElectOne_l1 (x0 : Int) (x1 : List Int) : Nat → Int → List Co → Option (Bool)
  | 0, _, _ => none
  | n + 1, v25, v26 =>
      cond (decide (v25 < x0))
       (
        (m_ref12_First).bind fun r35 =>
        (m_ref20_New (IntKind.wrap .i64 (v25 + 1)) x0 1 r35).bind fun r41 =>
        (idx v26 v25).bind fun e63 =>
        m_law22_ElectOne_l1 x0 x1 n (IntKind.wrap .i64 (v25 + 1)) (setI v26 v25 r41))
       (
        m_law22_ElectOne_l2 x0 x1 fuelN false [] 0 (List.replicate 50 (0 : Int)) v26)
def m_law22_ElectOne (x0 : Int) (x1 : List Int) : Option (Bool) :=
  cond (decide (x0 < 1))
   (
    (m_law22_wakes).bind fun r6 =>
    some r6)
   (
    cond (decide (5 < x0))
     (
      (m_law22_wakes).bind fun r11 =>
      some r11)
     (
      cond (decide (40 < (x1.length : Int)))
       (
        (m_law22_wakes).bind fun r16 =>
        some r16)
       (
        m_law22_ElectOne_l1 x0 x1 fuelN 0 (List.replicate 5 zeroCo))))
end Go.Proofs.Ytamjlcaoieliaaa
