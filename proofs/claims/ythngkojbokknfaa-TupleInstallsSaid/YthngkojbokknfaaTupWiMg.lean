/- The walks of tuples: what the document says, which may be, what is the same. -/
import Derived.Test.YthngkojbokknfaaMg2
import Derived.Test.YthngkojbokknfaaTupSbMg
namespace Go.Proofs.Ythngkojbokknfaa
open Go Go.RowKit
set_option maxRecDepth 10000
set_option maxHeartbeats 2000000
-- @EQ eqSt

/-- The same tuples. -/
def sameB (x y : Tu) : Bool := decide (x = y)
theorem sameR_any (x y : Tu) (A B : Option Addr) (c d : Nat) (w0 : World) (hx : LI w0 A x.log.length c x.log) (hy : LI w0 B y.log.length d y.log) :
    PureC Try.prog 11 #[.agg #[.int .i64 x.snap.index, .int .i64 x.snap.term, .int .i64 x.snap.sum, .int .i64 x.snap.level, .bool x.snap.final, .slice A x.log.length c, .int .i64 x.term, .int .i64 x.vote], .agg #[.int .i64 y.snap.index, .int .i64 y.snap.term, .int .i64 y.snap.sum, .int .i64 y.snap.level, .bool y.snap.final, .slice B y.log.length d, .int .i64 y.term, .int .i64 y.vote]] w0 (.bool (decide (x = y))) := by
  have h1 := hx.small
  have h2 := hy.small
  refine PureC.mk ?_
  by_cases hs : x.snap = y.snap
  · by_cases ht : x.term = y.term
    · by_cases hv : x.vote = y.vote
      · refine gw_enter2 Try.func11 rfl Try.ntmps11 rfl ?_
        have hS := St0.start All w0
        repeat (first | apply wpS_nil | (apply QH_seq_k; assumption) | (apply wpC_seq_k; intro K hK) | apply wpC_region | (apply wpS_g_call; first | refine wpS_callP rfl rfl rfl (by kernel_rfl) rfl (sameE_any A B x.log.length y.log.length c d x.log y.log _ rfl rfl (by omega) (hS.rd0 hx.rd) (hS.rd0 hy.rd)) hS (fun w hS hB => ?_)) | (apply wpS_g_box; refine wpS_box rfl rfl rfl (by first | exact CellsOf.agg) hS (fun b w hS hB => ?_)) | (apply wpS_g; refine wpS_put rfl rfl rfl (by first | exact yv_move rfl | exact yv_assign rfl | exact yv_fieldAddr (by first | exact fo_23_0 | exact fo_26_0 | exact fo_26_1 | exact fo_26_2 | exact fo_26_3) rfl | (apply yv_g_load; first | exact yv_load_box (by first | exact sc_3 | exact sc_24) rfl (RW.here _) hS (by repeat (first | exact Has.head | apply Has.tail)) (by first | trivial) (by repeat (first | exact Seg.here (Pre.succ Pre.zero) | apply Seg.succ)) | exact yv_load_boxA (by first | exact ag_23) rfl (RW.here _) hS (by repeat (first | exact Has.head | apply Has.tail)) (by first | trivial) (by repeat (first | exact Seg.here (by repeat (first | exact Pre.zero | apply Pre.succ))))) | (apply yv_g_bin; first | exact yv_eql_t rfl rfl (by omega) | exact yv_eqlS (by kernel_rfl) rfl rfl (fun w => eqSt_t w _ _ (by assumption))) | (apply yv_g_pick; first | exact yv_pick_t rfl rfl rfl)) ?_) | apply wpC_ret)
        refine QH_ret rfl (by first | exact RV.tmp rfl RV.nil) rfl ?_
        refine ⟨?_, hS.pure⟩
        have h3 : decide (x.log = y.log) = decide (x = y) := by
          rw [decide_eq_decide]
          constructor
          · intro h; cases x; cases y; simp_all
          · rintro rfl; rfl
        rw [← h3]; rfl
      · refine gw_enter2 Try.func11 rfl Try.ntmps11 rfl ?_
        have hS := St0.start All w0
        repeat (first | apply wpS_nil | (apply QH_seq_k; assumption) | (apply wpC_seq_k; intro K hK) | apply wpC_region | (apply wpS_g; refine wpS_skip rfl rfl rfl ?_) | (apply wpS_g_box; refine wpS_box rfl rfl rfl (by first | exact CellsOf.agg) hS (fun b w hS hB => ?_)) | (apply wpS_g; refine wpS_put rfl rfl rfl (by first | exact yv_move rfl | exact yv_assign rfl | exact yv_fieldAddr (by first | exact fo_23_0 | exact fo_26_0 | exact fo_26_2 | exact fo_26_3) rfl | (apply yv_g_load; first | exact yv_load_box (by first | exact sc_3) rfl (RW.here _) hS (by repeat (first | exact Has.head | apply Has.tail)) (by first | trivial) (by repeat (first | exact Seg.here (Pre.succ Pre.zero) | apply Seg.succ)) | exact yv_load_boxA (by first | exact ag_23) rfl (RW.here _) hS (by repeat (first | exact Has.head | apply Has.tail)) (by first | trivial) (by repeat (first | exact Seg.here (by repeat (first | exact Pre.zero | apply Pre.succ))))) | (apply yv_g_bin; first | exact yv_eql_t rfl rfl (by omega) | exact yv_eql_f rfl rfl (by omega) | exact yv_eqlS (by kernel_rfl) rfl rfl (fun w => eqSt_t w _ _ (by assumption))) | (apply yv_g_pick; first | exact yv_pick_t rfl rfl rfl | exact yv_pick_f rfl rfl rfl)) ?_) | apply wpC_ret)
        refine QH_ret rfl (by first | exact RV.tmp rfl RV.nil) rfl ?_
        refine ⟨?_, hS.pure⟩
        rw [decide_eq_false (fun h => hv (by rw [h]))]; rfl
    · refine gw_enter2 Try.func11 rfl Try.ntmps11 rfl ?_
      have hS := St0.start All w0
      repeat (first | apply wpS_nil | (apply QH_seq_k; assumption) | (apply wpC_seq_k; intro K hK) | apply wpC_region | (apply wpS_g; refine wpS_skip rfl rfl rfl ?_) | (apply wpS_g_box; refine wpS_box rfl rfl rfl (by first | exact CellsOf.agg) hS (fun b w hS hB => ?_)) | (apply wpS_g; refine wpS_put rfl rfl rfl (by first | exact yv_move rfl | exact yv_assign rfl | exact yv_fieldAddr (by first | exact fo_23_0 | exact fo_26_0 | exact fo_26_2) rfl | (apply yv_g_load; first | exact yv_load_box (by first | exact sc_3) rfl (RW.here _) hS (by repeat (first | exact Has.head | apply Has.tail)) (by first | trivial) (by repeat (first | exact Seg.here (Pre.succ Pre.zero) | apply Seg.succ)) | exact yv_load_boxA (by first | exact ag_23) rfl (RW.here _) hS (by repeat (first | exact Has.head | apply Has.tail)) (by first | trivial) (by repeat (first | exact Seg.here (by repeat (first | exact Pre.zero | apply Pre.succ))))) | (apply yv_g_bin; first | exact yv_eql_f rfl rfl (by omega) | exact yv_eqlS (by kernel_rfl) rfl rfl (fun w => eqSt_t w _ _ (by assumption))) | (apply yv_g_pick; first | exact yv_pick_t rfl rfl rfl | exact yv_pick_f rfl rfl rfl)) ?_) | apply wpC_ret)
      refine QH_ret rfl (by first | exact RV.tmp rfl RV.nil) rfl ?_
      refine ⟨?_, hS.pure⟩
      rw [decide_eq_false (fun h => ht (by rw [h]))]; rfl
  · refine gw_enter2 Try.func11 rfl Try.ntmps11 rfl ?_
    have hS := St0.start All w0
    repeat (first | apply wpS_nil | (apply QH_seq_k; assumption) | (apply wpC_seq_k; intro K hK) | apply wpC_region | (apply wpS_g; refine wpS_skip rfl rfl rfl ?_) | (apply wpS_g_box; refine wpS_box rfl rfl rfl (by first | exact CellsOf.agg) hS (fun b w hS hB => ?_)) | (apply wpS_g; refine wpS_put rfl rfl rfl (by first | exact yv_move rfl | exact yv_assign rfl | exact yv_fieldAddr (by first | exact fo_23_0 | exact fo_26_0) rfl | (apply yv_g_load; first | exact yv_load_boxA (by first | exact ag_23) rfl (RW.here _) hS (by repeat (first | exact Has.head | apply Has.tail)) (by first | trivial) (by repeat (first | exact Seg.here (by repeat (first | exact Pre.zero | apply Pre.succ))))) | (apply yv_g_bin; first | exact yv_eqlS (by kernel_rfl) rfl rfl (fun w => eqSt_f w _ _ (by assumption))) | (apply yv_g_pick; first | exact yv_pick_f rfl rfl rfl)) ?_) | apply wpC_ret)
    refine QH_ret rfl (by first | exact RV.tmp rfl RV.nil) rfl ?_
    refine ⟨?_, hS.pure⟩
    rw [decide_eq_false (fun h => hs (by rw [h]))]; rfl

theorem lastT_pos (t : Int) (l : List En) (h : logB t l = true) (ht : 0 ≤ t) : 0 ≤ lastT t l := by
  induction l generalizing t with
  | nil => exact ht
  | cons e l ih =>
    simp only [logB, Bool.and_eq_true, decide_eq_true_eq] at h
    exact ih e.term h.2 (by have := h.1.2; omega)
theorem fineB_term (s : St) (h : fineB s = true) : 0 ≤ s.term := by
  rcases (fineB_iff s).1 h with h | h
  · rw [h]; decide
  · omega
/-- Where Right's loop is. -/
structure IT where
  i : Nat
  t : Int
/-- Which may be. -/
theorem rightR12_any (x : Tu) (A : Option Addr) (c : Nat) (w0 : World) (hle : x.log.length ≤ c) (hrd : Rd w0 A (ens x.log)) :
    PureC Try.prog 8 #[.agg #[.int .i64 x.snap.index, .int .i64 x.snap.term, .int .i64 x.snap.sum, .int .i64 x.snap.level, .bool x.snap.final, .slice A x.log.length c, .int .i64 x.term, .int .i64 x.vote]] w0 (.bool (tupB x)) := by
  refine PureC.mk ?_
  have hno : ∀ w', ¬ (fineB x.snap = true ∧ x.snap.index ≤ 1073740824 ∧ x.log.length ≤ 200 ∧ 0 ≤ x.vote ∧ x.vote ≤ 5) → Below w0.heap.size w0 w' → (Ending.returned (.bool false) = .returned (.bool (tupB x)) ∧ Below w0.heap.size w0 w') := fun w' h hb => ⟨by
    have : tupB x = false := by
      cases hT : tupB x with
      | false => rfl
      | true =>
        exfalso; apply h
        unfold tupB at hT
        simp only [Bool.and_eq_true, decide_eq_true_eq] at hT
        exact ⟨hT.1.1.1, hT.1.1.2.1, hT.1.1.2.2.1, hT.1.1.2.2.2.1, hT.1.1.2.2.2.2.1⟩
    rw [this], hb⟩
  cases hf : fineB x.snap with
  | false =>
    refine gw_enter1 Try.func8 rfl Try.ntmps8 rfl ?_
    have hS := St0.start All w0
    repeat (first | apply wpS_nil | (apply QH_seq_k; assumption) | (apply wpC_seq_k; intro K hK) | apply wpC_region | (apply wpS_g; refine wpS_skip rfl rfl rfl ?_) | (apply wpS_g_call; first | refine wpS_callP rfl rfl rfl (by kernel_rfl) rfl (fineR_b _ _ false hf) hS (fun w hS hB => ?_)) | (apply wpS_g_box; refine wpS_box rfl rfl rfl (by first | exact CellsOf.agg) hS (fun b w hS hB => ?_)) | (apply wpS_g; refine wpS_put rfl rfl rfl (by first | exact yv_move rfl | exact yv_assign rfl | exact yv_fieldAddr (by first | exact fo_23_0 | exact fo_26_0) rfl | (apply yv_g_load; first | exact yv_load_boxA (by first | exact ag_23) rfl (RW.here _) hS (by repeat (first | exact Has.head)) (by first | trivial) (by repeat (first | exact Seg.here (by repeat (first | exact Pre.zero | apply Pre.succ))))) | (apply yv_g_pick; first | exact yv_pick_t rfl rfl rfl) | exact yv_not rfl) ?_) | apply wpC_cond_t rfl rfl | apply wpC_ret | apply QH_then_ret)
    refine QH_ret rfl (by first | exact RV.tmp rfl RV.nil) rfl ?_
    exact hno _ (by rw [hf]; simp) hS.pure
  | true =>
    by_cases h1 : x.snap.index ≤ 1073740824
    case neg =>
      refine gw_enter1 Try.func8 rfl Try.ntmps8 rfl ?_
      have hS := St0.start All w0
      repeat (first | apply wpS_nil | (apply QH_seq_k; assumption) | (apply wpC_seq_k; intro K hK) | apply wpC_region | (apply wpS_g; refine wpS_skip rfl rfl rfl ?_) | (apply wpS_g_call; first | refine wpS_callP rfl rfl rfl (by kernel_rfl) rfl (fineR_b _ _ true hf) hS (fun w hS hB => ?_)) | (apply wpS_g_box; refine wpS_box rfl rfl rfl (by first | exact CellsOf.agg) hS (fun b w hS hB => ?_)) | (apply wpS_g; refine wpS_put rfl rfl rfl (by first | exact yv_move rfl | exact yv_assign rfl | exact yv_fieldAddr (by first | exact fo_23_0 | exact fo_26_0) rfl | (apply yv_g_load; first | exact yv_load_box (by first | exact sc_3) rfl (RW.here _) hS (by repeat (first | exact Has.head)) (by first | trivial) (by repeat (first | exact Seg.here (Pre.succ Pre.zero))) | exact yv_load_boxA (by first | exact ag_23) rfl (RW.here _) hS (by repeat (first | exact Has.head)) (by first | trivial) (by repeat (first | exact Seg.here (by repeat (first | exact Pre.zero | apply Pre.succ))))) | (apply yv_g_bin; first | exact yv_gtr_t rfl rfl (by omega)) | (apply yv_g_pick; first | exact yv_pick_t rfl rfl rfl | exact yv_pick_f rfl rfl rfl) | exact yv_not rfl) ?_) | apply wpC_cond_t rfl rfl | apply wpC_ret | apply QH_then_ret)
      refine QH_ret rfl (by first | exact RV.tmp rfl RV.nil) rfl ?_
      exact hno _ (fun h => h1 h.2.1) hS.pure
    by_cases h2 : x.log.length ≤ 200
    case neg =>
      refine gw_enter1 Try.func8 rfl Try.ntmps8 rfl ?_
      have hS := St0.start All w0
      repeat (first | apply wpS_nil | (apply QH_seq_k; assumption) | (apply wpC_seq_k; intro K hK) | apply wpC_region | (apply wpS_g; refine wpS_skip rfl rfl rfl ?_) | (apply wpS_g_call; first | refine wpS_callP rfl rfl rfl (by kernel_rfl) rfl (fineR_b _ _ true hf) hS (fun w hS hB => ?_)) | (apply wpS_g_box; refine wpS_box rfl rfl rfl (by first | exact CellsOf.agg) hS (fun b w hS hB => ?_)) | (apply wpS_g; refine wpS_put rfl rfl rfl (by first | exact yv_move rfl | exact yv_assign rfl | exact yv_fieldAddr (by first | exact fo_23_0 | exact fo_26_0 | exact fo_26_1) rfl | (apply yv_g_load; first | exact yv_load_box (by first | exact sc_3 | exact sc_24) rfl (RW.here _) hS (by repeat (first | exact Has.head)) (by first | trivial) (by repeat (first | exact Seg.here (Pre.succ Pre.zero) | apply Seg.succ)) | exact yv_load_boxA (by first | exact ag_23) rfl (RW.here _) hS (by repeat (first | exact Has.head)) (by first | trivial) (by repeat (first | exact Seg.here (by repeat (first | exact Pre.zero | apply Pre.succ))))) | (apply yv_g_bin; first | exact yv_gtr_t rfl rfl (by omega) | exact yv_gtr_f rfl rfl (by omega)) | (apply yv_g_pick; first | exact yv_pick_t rfl rfl rfl | exact yv_pick_f rfl rfl rfl) | (apply yv_g_bi; first | exact yv_len (by first | exact el_24) rfl) | exact yv_not rfl) ?_) | apply wpC_cond_t rfl rfl | apply wpC_ret | apply QH_then_ret)
      refine QH_ret rfl (by first | exact RV.tmp rfl RV.nil) rfl ?_
      exact hno _ (fun h => h2 h.2.2.1) hS.pure
    by_cases h3 : 0 ≤ x.vote
    case neg =>
      refine gw_enter1 Try.func8 rfl Try.ntmps8 rfl ?_
      have hS := St0.start All w0
      repeat (first | apply wpS_nil | (apply QH_seq_k; assumption) | (apply wpC_seq_k; intro K hK) | apply wpC_region | (apply wpS_g; refine wpS_skip rfl rfl rfl ?_) | (apply wpS_g_call; first | refine wpS_callP rfl rfl rfl (by kernel_rfl) rfl (fineR_b _ _ true hf) hS (fun w hS hB => ?_)) | (apply wpS_g_box; refine wpS_box rfl rfl rfl (by first | exact CellsOf.agg) hS (fun b w hS hB => ?_)) | (apply wpS_g; refine wpS_put rfl rfl rfl (by first | exact yv_move rfl | exact yv_assign rfl | exact yv_fieldAddr (by first | exact fo_23_0 | exact fo_26_0 | exact fo_26_1 | exact fo_26_3) rfl | (apply yv_g_load; first | exact yv_load_box (by first | exact sc_3 | exact sc_24) rfl (RW.here _) hS (by repeat (first | exact Has.head)) (by first | trivial) (by repeat (first | exact Seg.here (Pre.succ Pre.zero) | apply Seg.succ)) | exact yv_load_boxA (by first | exact ag_23) rfl (RW.here _) hS (by repeat (first | exact Has.head)) (by first | trivial) (by repeat (first | exact Seg.here (by repeat (first | exact Pre.zero | apply Pre.succ))))) | (apply yv_g_bin; first | exact yv_lss_t rfl rfl (by omega) | exact yv_gtr_f rfl rfl (by omega)) | (apply yv_g_pick; first | exact yv_pick_t rfl rfl rfl | exact yv_pick_f rfl rfl rfl) | (apply yv_g_bi; first | exact yv_len (by first | exact el_24) rfl) | exact yv_not rfl) ?_) | apply wpC_cond_t rfl rfl | apply wpC_ret | apply QH_then_ret)
      refine QH_ret rfl (by first | exact RV.tmp rfl RV.nil) rfl ?_
      exact hno _ (fun h => h3 h.2.2.2.1) hS.pure
    by_cases h4 : x.vote ≤ 5
    case neg =>
      refine gw_enter1 Try.func8 rfl Try.ntmps8 rfl ?_
      have hS := St0.start All w0
      repeat (first | apply wpS_nil | (apply QH_seq_k; assumption) | (apply wpC_seq_k; intro K hK) | apply wpC_region | (apply wpS_g_call; first | refine wpS_callP rfl rfl rfl (by kernel_rfl) rfl (fineR_b _ _ true hf) hS (fun w hS hB => ?_)) | (apply wpS_g_box; refine wpS_box rfl rfl rfl (by first | exact CellsOf.agg) hS (fun b w hS hB => ?_)) | (apply wpS_g; refine wpS_put rfl rfl rfl (by first | exact yv_move rfl | exact yv_assign rfl | exact yv_fieldAddr (by first | exact fo_23_0 | exact fo_26_0 | exact fo_26_1 | exact fo_26_3) rfl | (apply yv_g_load; first | exact yv_load_box (by first | exact sc_3 | exact sc_24) rfl (RW.here _) hS (by repeat (first | exact Has.head)) (by first | trivial) (by repeat (first | exact Seg.here (Pre.succ Pre.zero) | apply Seg.succ)) | exact yv_load_boxA (by first | exact ag_23) rfl (RW.here _) hS (by repeat (first | exact Has.head)) (by first | trivial) (by repeat (first | exact Seg.here (by repeat (first | exact Pre.zero | apply Pre.succ))))) | (apply yv_g_bin; first | exact yv_lss_f rfl rfl (by omega) | exact yv_gtr_t rfl rfl (by omega) | exact yv_gtr_f rfl rfl (by omega)) | (apply yv_g_pick; first | exact yv_pick_f rfl rfl rfl) | (apply yv_g_bi; first | exact yv_len (by first | exact el_24) rfl) | exact yv_not rfl) ?_) | apply wpC_cond_t rfl rfl | apply wpC_ret | apply QH_then_ret)
      refine QH_ret rfl (by first | exact RV.tmp rfl RV.nil) rfl ?_
      exact hno _ (fun h => h4 h.2.2.2.2) hS.pure
    have hT : tupB x = (decide (x.term ≤ 1073741824) && (logB x.snap.term x.log && decide (lastT x.snap.term x.log ≤ x.term))) := by
      unfold tupB
      rw [hf, Bool.eq_iff_iff]
      simp only [Bool.and_eq_true, decide_eq_true_eq]
      constructor
      · rintro ⟨⟨h, h6⟩, h7⟩; exact ⟨h.2.2.2.2.2, h6, h7⟩
      · rintro ⟨h5, h6, h7⟩; exact ⟨⟨⟨trivial, h1, h2, h3, h4, h5⟩, h6⟩, h7⟩
    refine gw_enter1 Try.func8 rfl Try.ntmps8 rfl ?_
    have hS := St0.start All w0
    repeat (first | (apply wpC_seq_k; intro K hK) | apply wpC_region)
    first | (apply wpS_g_box; refine wpS_box rfl rfl rfl (by first | exact CellsOf.agg) hS (fun bt w hS hB => ?_))
    repeat (first | apply wpS_nil | (apply QH_seq_k; assumption) | (apply wpC_seq_k; intro K hK) | apply wpC_region | (apply wpS_g_call; first | refine wpS_callP rfl rfl rfl (by kernel_rfl) rfl (fineR_b _ _ true hf) hS (fun w hS hB => ?_)) | (apply wpS_g; refine wpS_put rfl rfl rfl (by first | exact yv_move rfl | exact yv_assign rfl | exact yv_fieldAddr (by first | exact fo_23_0 | exact fo_23_1 | exact fo_26_0 | exact fo_26_1 | exact fo_26_3) rfl | (apply yv_g_load; first | exact yv_load_box (by first | exact sc_3 | exact sc_24) rfl (RW.here _) hS (by repeat (first | exact Has.head)) (by first | trivial) (by repeat (first | exact Seg.here (Pre.succ Pre.zero) | apply Seg.succ)) | exact yv_load_boxA (by first | exact ag_23) rfl (RW.here _) hS (by repeat (first | exact Has.head)) (by first | trivial) (by repeat (first | exact Seg.here (by repeat (first | exact Pre.zero | apply Pre.succ))))) | (apply yv_g_bin; first | exact yv_lss_f rfl rfl (by omega) | exact yv_gtr_f rfl rfl (by omega)) | (apply yv_g_pick; first | exact yv_pick_f rfl rfl rfl) | (apply yv_g_bi; first | exact yv_len (by first | exact el_24) rfl) | exact yv_not rfl) ?_) | apply wpC_cond_f rfl rfl | apply wpC_skip | apply wpC_block)
    refine wpC_loop (X := IT) (fun z => [(4, .int .i64 z.i), (3, .int .i64 z.t), (1, .pointer (some ⟨bt, 0, none⟩))]) (fun z w => z.i ≤ x.log.length ∧ St0 All w0 w [.box bt [.int .i64 x.snap.index, .int .i64 x.snap.term, .int .i64 x.snap.sum, .int .i64 x.snap.level, .bool x.snap.final, .slice A x.log.length c, .int .i64 x.term, .int .i64 x.vote] 26] ∧ logB x.snap.term (x.log.take z.i) = true ∧ z.t = lastT x.snap.term (x.log.take z.i)) (fun z => x.log.length - z.i) ⟨0, x.snap.term⟩ (by repeat (first | exact Sub.nil | refine Sub.cons rfl ?_)) ⟨Nat.zero_le _, hS, rfl, rfl⟩ ?_
    rintro ⟨i, t⟩ w ⟨hi, hS, hlog, ht⟩
    dsimp only at hi hS hlog ht ⊢
    rcases Nat.lt_or_ge i x.log.length with hlt | hge
    · obtain ⟨y, hy⟩ : ∃ y, x.log[i]? = some y := ⟨_, List.getElem?_eq_getElem hlt⟩
      obtain ⟨b1, o1, hA1, hb1, hr1⟩ := hrd.entR hy
      subst hA1
      have hr10 := hr1 0 (.int .i64 y.term) rfl
      have htk : x.log.take (i + 1) = x.log.take i ++ [y] := by rw [List.take_add_one, hy]; rfl
      have hbad : (rightB y && decide (t ≤ y.term)) = false → tupB x = false := fun h => by
        rw [hT]
        rw [ht] at h
        have : logB x.snap.term (x.log.take (i + 1)) = false := by rw [htk, logB_snoc, hlog, h]; rfl
        cases hl : logB x.snap.term x.log with
        | false => simp
        | true => rw [logB_take _ _ _ hl] at this; cases this
      cases hr : rightB y with
      | false =>
        repeat (first | apply wpS_nil | (apply QH_seq_k; assumption) | (apply wpC_seq_k; intro K hK) | apply wpC_region | (apply wpS_g; refine wpS_skip rfl rfl rfl ?_) | (apply wpS_g_call; first | refine wpS_callP rfl rfl rfl (by kernel_rfl) rfl (rightR_b _ _ false hr) hS (fun w hS hB => ?_)) | (apply wpS_g; refine wpS_put rfl rfl rfl (by first | exact yv_move rfl | exact yv_assign rfl | exact yv_fieldAddr (by first | exact fo_23_0 | exact fo_26_1) rfl | (apply yv_g_load; first | exact yv_load_box (by first | exact sc_24) rfl (RW.here _) hS (by repeat (first | exact Has.head)) (by first | trivial) (by repeat (first | exact Seg.here (Pre.succ Pre.zero) | apply Seg.succ)) | exact yv_loadA_old (by first | exact ag_50) rfl (RW.here _) hS (by first | trivial) (by first | trivial) (by assumption) (by rfl)) | (apply yv_g_bin; first | exact yv_lss_t rfl rfl (by omega)) | (apply yv_g_pick; first | exact yv_pick_t rfl rfl rfl) | (apply yv_g_bi; first | exact yv_len (by first | exact el_24) rfl) | exact yv_not rfl | exact yv_indexAddr (by first | exact el_24) rfl rfl rfl (by omega)) ?_) | apply wpC_cond_t rfl rfl | apply wpC_skip | apply wpC_ret | apply wpC_block | apply QH_then_ret | apply QH_block_ret)
        refine QH_ret rfl (by first | exact RV.tmp rfl RV.nil) rfl ?_
        refine ⟨?_, hS.pure⟩
        rw [hbad (by rw [hr]; rfl)]; rfl
      | true =>
        by_cases hle2 : t ≤ y.term
        · repeat (first | apply wpS_nil | (apply QH_seq_k; assumption) | (apply wpC_seq_k; intro K hK) | apply wpC_region | (apply wpS_g_call; first | refine wpS_callP rfl rfl rfl (by kernel_rfl) rfl (rightR_b _ _ true hr) hS (fun w hS hB => ?_)) | (apply wpS_g; refine wpS_put rfl rfl rfl (by first | exact yv_move rfl | exact yv_assign rfl | exact yv_fieldAddr (by first | exact fo_23_0 | exact fo_26_1 | exact fo_50_0) rfl | (apply yv_g_load; first | exact yv_load_box (by first | exact sc_3 | exact sc_24) rfl (RW.here _) hS (by repeat (first | exact Has.head | apply Has.tail)) (by first | trivial) (by repeat (first | exact Seg.here (Pre.succ Pre.zero) | apply Seg.succ)) | exact yv_load_old (by first | exact sc_3) rfl (RW.here _) hS (by first | trivial) (by first | trivial) (by assumption) | exact yv_loadA_old (by first | exact ag_50) rfl (RW.here _) hS (by first | trivial) (by first | trivial) (by assumption) (by rfl)) | (apply yv_g_bin; first | exact yv_lss_t rfl rfl (by omega) | exact yv_lss_f rfl rfl (by omega) | exact yv_add rfl rfl (by omega)) | (apply yv_g_pick; first | exact yv_pick_f rfl rfl rfl) | (apply yv_g_bi; first | exact yv_len (by first | exact el_24) rfl) | exact yv_not rfl | exact yv_indexAddr (by first | exact el_24) rfl rfl rfl (by omega)) ?_) | apply wpC_cond_t rfl rfl | apply wpC_cond_f rfl rfl | apply wpC_skip | apply wpC_block | apply QH_block_normal)
          refine QH_again ⟨i + 1, y.term⟩ (by repeat (first | exact Sub.nil | refine Sub.cons rfl ?_)) ⟨hlt, hS, ?_, ?_⟩ (by dsimp only; omega)
          · dsimp only; rw [htk, logB_snoc, hlog, hr, ← ht, decide_eq_true hle2]; rfl
          · dsimp only; rw [htk, lastT_snoc]
        · repeat (first | apply wpS_nil | (apply QH_seq_k; assumption) | (apply wpC_seq_k; intro K hK) | apply wpC_region | (apply wpS_g_call; first | refine wpS_callP rfl rfl rfl (by kernel_rfl) rfl (rightR_b _ _ true hr) hS (fun w hS hB => ?_)) | (apply wpS_g; refine wpS_put rfl rfl rfl (by first | exact yv_move rfl | exact yv_assign rfl | exact yv_fieldAddr (by first | exact fo_23_0 | exact fo_26_1 | exact fo_50_0) rfl | (apply yv_g_load; first | exact yv_load_box (by first | exact sc_3 | exact sc_24) rfl (RW.here _) hS (by repeat (first | exact Has.head | apply Has.tail)) (by first | trivial) (by repeat (first | exact Seg.here (Pre.succ Pre.zero) | apply Seg.succ)) | exact yv_load_old (by first | exact sc_3) rfl (RW.here _) hS (by first | trivial) (by first | trivial) (by assumption) | exact yv_loadA_old (by first | exact ag_50) rfl (RW.here _) hS (by first | trivial) (by first | trivial) (by assumption) (by rfl)) | (apply yv_g_bin; first | exact yv_lss_t rfl rfl (by omega)) | (apply yv_g_pick; first | exact yv_pick_f rfl rfl rfl) | (apply yv_g_bi; first | exact yv_len (by first | exact el_24) rfl) | exact yv_not rfl | exact yv_indexAddr (by first | exact el_24) rfl rfl rfl (by omega)) ?_) | apply wpC_cond_t rfl rfl | apply wpC_skip | apply wpC_ret | apply wpC_block | apply QH_then_ret | apply QH_block_ret)
          refine QH_ret rfl (by first | exact RV.tmp rfl RV.nil) rfl ?_
          refine ⟨?_, hS.pure⟩
          rw [hbad (by rw [hr, decide_eq_false hle2]; rfl)]; rfl
    · obtain rfl : i = x.log.length := by omega
      rw [List.take_length] at hlog
      have h0 := lastT_pos _ _ hlog (fineB_term _ hf)
      rw [hlog] at hT
      rw [List.take_length] at ht
      rw [← ht] at hT h0
      by_cases h5 : t ≤ x.term
      · by_cases h6 : x.term ≤ 1073741824
        · repeat (first | apply wpS_nil | (apply QH_seq_k; assumption) | (apply wpC_seq_k; intro K hK) | apply wpC_region | (apply wpS_g; refine wpS_put rfl rfl rfl (by first | exact yv_move rfl | exact yv_assign rfl | exact yv_fieldAddr (by first | exact fo_23_0 | exact fo_26_1 | exact fo_26_2) rfl | (apply yv_g_load; first | exact yv_load_box (by first | exact sc_3 | exact sc_24) rfl (RW.here _) hS (by repeat (first | exact Has.head)) (by first | trivial) (by repeat (first | exact Seg.here (Pre.succ Pre.zero) | apply Seg.succ))) | (apply yv_g_bin; first | exact yv_lss_f rfl rfl (by omega) | exact yv_leq_t rfl rfl (by omega) | exact yv_geq_t rfl rfl (by omega)) | (apply yv_g_pick; first | exact yv_pick_t rfl rfl rfl) | (apply yv_g_bi; first | exact yv_len (by first | exact el_24) rfl)) ?_) | apply wpC_cond_f rfl rfl | apply wpC_ret | apply wpC_exit | apply QH_then_exit | apply QH_block_hit)
          refine QH_ret rfl (by first | exact RV.tmp rfl RV.nil) rfl ?_
          refine ⟨?_, hS.pure⟩
          rw [hT, decide_eq_true h5, decide_eq_true h6]; rfl
        · repeat (first | apply wpS_nil | (apply QH_seq_k; assumption) | (apply wpC_seq_k; intro K hK) | apply wpC_region | (apply wpS_g; refine wpS_put rfl rfl rfl (by first | exact yv_move rfl | exact yv_assign rfl | exact yv_fieldAddr (by first | exact fo_23_0 | exact fo_26_1 | exact fo_26_2) rfl | (apply yv_g_load; first | exact yv_load_box (by first | exact sc_3 | exact sc_24) rfl (RW.here _) hS (by repeat (first | exact Has.head)) (by first | trivial) (by repeat (first | exact Seg.here (Pre.succ Pre.zero) | apply Seg.succ))) | (apply yv_g_bin; first | exact yv_lss_f rfl rfl (by omega) | exact yv_leq_f rfl rfl (by omega) | exact yv_geq_t rfl rfl (by omega)) | (apply yv_g_pick; first | exact yv_pick_t rfl rfl rfl) | (apply yv_g_bi; first | exact yv_len (by first | exact el_24) rfl)) ?_) | apply wpC_cond_f rfl rfl | apply wpC_ret | apply wpC_exit | apply QH_then_exit | apply QH_block_hit)
          refine QH_ret rfl (by first | exact RV.tmp rfl RV.nil) rfl ?_
          refine ⟨?_, hS.pure⟩
          rw [hT, decide_eq_true h5, decide_eq_false h6]; rfl
      · repeat (first | apply wpS_nil | (apply QH_seq_k; assumption) | (apply wpC_seq_k; intro K hK) | apply wpC_region | (apply wpS_g; refine wpS_skip rfl rfl rfl ?_) | (apply wpS_g; refine wpS_put rfl rfl rfl (by first | exact yv_move rfl | exact yv_assign rfl | exact yv_fieldAddr (by first | exact fo_23_0 | exact fo_26_1 | exact fo_26_2) rfl | (apply yv_g_load; first | exact yv_load_box (by first | exact sc_3 | exact sc_24) rfl (RW.here _) hS (by repeat (first | exact Has.head)) (by first | trivial) (by repeat (first | exact Seg.here (Pre.succ Pre.zero) | apply Seg.succ))) | (apply yv_g_bin; first | exact yv_lss_f rfl rfl (by omega) | exact yv_geq_f rfl rfl (by omega)) | (apply yv_g_pick; first | exact yv_pick_f rfl rfl rfl) | (apply yv_g_bi; first | exact yv_len (by first | exact el_24) rfl)) ?_) | apply wpC_cond_f rfl rfl | apply wpC_ret | apply wpC_exit | apply QH_then_exit | apply QH_block_hit)
        refine QH_ret rfl (by first | exact RV.tmp rfl RV.nil) rfl ?_
        refine ⟨?_, hS.pure⟩
        have h7 : tupB x = false := by rw [hT, decide_eq_false h5]; simp
        rw [h7]; rfl
end Go.Proofs.Ythngkojbokknfaa
