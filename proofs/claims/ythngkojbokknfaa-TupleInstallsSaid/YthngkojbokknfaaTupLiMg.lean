/- TupleInstalls, as the program computes it. -/
import Derived.Test.YthngkojbokknfaaTupLbMg
namespace Go.Proofs.Ythngkojbokknfaa
open Go Go.RowKit
set_option maxRecDepth 10000
set_option maxHeartbeats 2000000
-- @EQ eqSt

theorem installs_all (x : Tu) (A : Option Addr) (c : Nat) (s : St) (w0 : World) (hle : x.log.length ≤ c) (hcp : c ≤ maxLen) (hrd : Rd w0 A (ens x.log)) (hA : ∀ a, A = some a → a.block < w0.heap.size) :
    Calls Try.prog 6 #[.agg #[.int .i64 x.snap.index, .int .i64 x.snap.term, .int .i64 x.snap.sum, .int .i64 x.snap.level, .bool x.snap.final, .slice A x.log.length c, .int .i64 x.term, .int .i64 x.vote], .agg #[.int .i64 s.index, .int .i64 s.term, .int .i64 s.sum, .int .i64 s.level, .bool s.final]] w0 fun e w' => e = .returned (.bool true) ∧ Below w0.heap.size w0 w' := by
  cases hT : tupB x with
  | false =>
    refine gw_enter2 Try.func6 rfl Try.ntmps6 rfl ?_
    have hS := St0.start All w0
    repeat (first | (apply wpC_seq_k; intro K hK) | apply wpC_region)
    first | (apply wpS_g_box; refine wpS_box rfl rfl rfl (by first | exact CellsOf.agg) hS (fun bt w hS hB => ?_))
    first | (apply wpS_g_box; refine wpS_box rfl rfl rfl (by first | exact CellsOf.agg) hS (fun bs w hS hB => ?_))
    repeat (first | apply wpS_nil | (apply QH_seq_k; assumption) | (apply wpC_seq_k; intro K hK) | apply wpC_region | (apply wpS_g; refine wpS_skip rfl rfl rfl ?_) | (apply wpS_g_call; first | refine wpS_callP rfl rfl rfl (by kernel_rfl) rfl (rightR12_b x A c _ hle (hS.rd0 hrd) false hT) hS (fun w hS hB => ?_) | refine wpS_callP rfl rfl rfl (by kernel_rfl) rfl (wakes12_any _) hS (fun w hS hB => ?_)) | (apply wpS_g; refine wpS_put rfl rfl rfl (by first | exact yv_move rfl | exact yv_assign rfl | (apply yv_g_load; first | exact yv_load_boxA (by first | exact ag_26) rfl (RW.here _) hS (by repeat (first | exact Has.head | apply Has.tail)) (by first | trivial) (by repeat (first | exact Seg.here (by repeat (first | exact Pre.zero | apply Pre.succ))))) | (apply yv_g_pick; first | exact yv_pick_t rfl rfl rfl) | exact yv_not rfl) ?_) | apply wpC_cond_t rfl rfl | apply wpC_ret | apply QH_then_ret)
    refine QH_ret rfl (by first | exact RV.tmp rfl RV.nil) rfl ?_
    exact ⟨rfl, hS.pure⟩
  | true =>
    cases hf : fineB s with
    | false =>
      refine gw_enter2 Try.func6 rfl Try.ntmps6 rfl ?_
      have hS := St0.start All w0
      repeat (first | (apply wpC_seq_k; intro K hK) | apply wpC_region)
      first | (apply wpS_g_box; refine wpS_box rfl rfl rfl (by first | exact CellsOf.agg) hS (fun bt w hS hB => ?_))
      first | (apply wpS_g_box; refine wpS_box rfl rfl rfl (by first | exact CellsOf.agg) hS (fun bs w hS hB => ?_))
      repeat (first | apply wpS_nil | (apply QH_seq_k; assumption) | (apply wpC_seq_k; intro K hK) | apply wpC_region | (apply wpS_g_call; first | refine wpS_callP rfl rfl rfl (by kernel_rfl) rfl (rightR12_b x A c _ hle (hS.rd0 hrd) true hT) hS (fun w hS hB => ?_) | refine wpS_callP rfl rfl rfl (by kernel_rfl) rfl (fineR_b s _ false hf) hS (fun w hS hB => ?_) | refine wpS_callP rfl rfl rfl (by kernel_rfl) rfl (wakes12_any _) hS (fun w hS hB => ?_)) | (apply wpS_g; refine wpS_put rfl rfl rfl (by first | exact yv_move rfl | exact yv_assign rfl | (apply yv_g_load; first | exact yv_load_boxA (by first | exact ag_23 | exact ag_26) rfl (RW.here _) hS (by repeat (first | exact Has.head | apply Has.tail)) (by first | trivial) (by repeat (first | exact Seg.here (by repeat (first | exact Pre.zero | apply Pre.succ))))) | (apply yv_g_pick; first | exact yv_pick_f rfl rfl rfl) | exact yv_not rfl) ?_) | apply wpC_cond_t rfl rfl | apply wpC_ret | apply QH_then_ret)
      refine QH_ret rfl (by first | exact RV.tmp rfl RV.nil) rfl ?_
      exact ⟨rfl, hS.pure⟩
    | true =>
      have hxb := tupB_bd x hT
      have hsf := (fineB_iff s).1 hf
      have hsb := hsf.bounds
      have hss : s = s := rfl
      have hx : LI w0 A x.log.length c x.log := ⟨rfl, by omega, hle, hcp, hrd⟩
      by_cases hn : s.index ≤ x.snap.index ∨ 1073740824 < s.index ∨ x.term < s.term
      · refine gw_enter2 Try.func6 rfl Try.ntmps6 rfl ?_
        have hS := St0.start All w0
        repeat (first | (apply wpC_seq_k; intro K hK) | apply wpC_region)
        first | (apply wpS_g_box; refine wpS_box rfl rfl rfl (by first | exact CellsOf.agg) hS (fun bt w hS hB => ?_))
        first | (apply wpS_g_box; refine wpS_box rfl rfl rfl (by first | exact CellsOf.agg) hS (fun bs w hS hB => ?_))
        repeat (first | apply wpS_nil | (apply QH_seq_k; assumption) | (apply wpC_seq_k; intro K hK) | apply wpC_region | (apply wpS_g_call; first | refine wpS_callP rfl rfl rfl (by kernel_rfl) rfl (rightR12_b x A c _ hle (hS.rd0 hrd) true hT) hS (fun w hS hB => ?_) | refine wpS_callP rfl rfl rfl (by kernel_rfl) rfl (fineR_b s _ true hf) hS (fun w hS hB => ?_)) | (apply wpS_g; refine wpS_put rfl rfl rfl (by first | exact yv_move rfl | exact yv_assign rfl | (apply yv_g_load; first | exact yv_load_boxA (by first | exact ag_23 | exact ag_26) rfl (RW.here _) hS (by repeat (first | exact Has.head | apply Has.tail)) (by first | trivial) (by repeat (first | exact Seg.here (by repeat (first | exact Pre.zero | apply Pre.succ))))) | (apply yv_g_pick; first | exact yv_pick_f rfl rfl rfl) | exact yv_not rfl) ?_) | apply wpC_cond_f rfl rfl | apply wpC_skip)
        refine wpS_call rfl rfl rfl rfl (by kernel_rfl) rfl (install_any x A c s _ (hx.below hS.pure) (fun a ha => Nat.lt_of_lt_of_le (hA a ha) hS.size)) ?_
        rintro e w1 h
        obtain ⟨A2, c2, ⟨rfl, hs⟩, hB⟩ := h.to5 x.snap x.log x.term x.vote 2 (inst_no x s hn)
        refine ⟨_, rfl, ?_⟩
        replace hS := hS.slice hs hB
        have hs1 := hs.le
        have hs2 := hs.cap
        clear hs h
        repeat (first | (apply wpS_g; refine wpS_put rfl rfl rfl (by first | exact yv_move rfl | exact yv_extract rfl rfl) ?_))
        first | (apply wpS_g_alloc; refine wpS_alloc rfl rfl (by first | exact zc_26) hS (fun bo w hS hB => ?_))
        repeat (first | apply wpS_nil | (apply QH_seq_k; assumption) | (apply wpC_seq_k; intro K hK) | (apply wpS_g_store; refine wpS_store rfl rfl rfl (by first | exact CellsOf.agg) hS (by repeat (first | exact Pos.head)) (by repeat (first | exact SetC.here (by repeat (first | exact Ovr.nil | apply Ovr.cons)))) (by kernel_rfl) rfl (fun w hS hB => ?_)) | (apply wpS_g; refine wpS_put rfl rfl rfl (by first | exact yv_assign rfl) ?_))
        by_cases h1 : s.index ≤ x.snap.index
        · repeat (first | apply wpS_nil | (apply QH_seq_k; assumption) | (apply wpC_seq_k; intro K hK) | apply wpC_region | (apply wpS_g; refine wpS_skip rfl rfl rfl ?_) | (apply wpS_g_call; first | refine wpS_callP rfl rfl rfl (by kernel_rfl) rfl (sameR_t x A2 A c2 c _ ⟨rfl, by omega, hs1, hs2, hS.rd (by repeat (first | exact Has.head | apply Has.tail))⟩ (hx.below hS.pure)) hS (fun w hS hB => ?_) | refine wpS_callP rfl rfl rfl (by kernel_rfl) rfl (wakes12_any _) hS (fun w hS hB => ?_)) | (apply wpS_g; refine wpS_put rfl rfl rfl (by first | exact yv_move rfl | exact yv_assign rfl | exact yv_fieldAddr (by first | exact fo_23_0 | exact fo_26_0) rfl | (apply yv_g_load; first | exact yv_load_box (by first | exact sc_3) rfl (RW.here _) hS (by repeat (first | exact Has.head | apply Has.tail)) (by first | trivial) (by repeat (first | exact Seg.here (Pre.succ Pre.zero))) | exact yv_load_boxA (by first | exact ag_26) rfl (RW.here _) hS (by repeat (first | exact Has.head | apply Has.tail)) (by first | trivial) (by repeat (first | exact Seg.here (by repeat (first | exact Pre.zero | apply Pre.succ))))) | (apply yv_g_bin; first | exact yv_leq_t rfl rfl (by omega) | exact yv_eql_t rfl rfl (by omega)) | (apply yv_g_pick; first | exact yv_pick_t rfl rfl rfl)) ?_) | apply wpC_cond_t rfl rfl | apply wpC_ret | apply QH_then_ret)
          refine QH_ret rfl (by first | exact RV.tmp rfl RV.nil) rfl ?_
          exact ⟨rfl, hS.pure⟩
        · by_cases h2 : 1073740824 < s.index
          · repeat (first | apply wpS_nil | (apply QH_seq_k; assumption) | (apply wpC_seq_k; intro K hK) | apply wpC_region | (apply wpS_g; refine wpS_skip rfl rfl rfl ?_) | (apply wpS_g_call; first | refine wpS_callP rfl rfl rfl (by kernel_rfl) rfl (sameR_t x A2 A c2 c _ ⟨rfl, by omega, hs1, hs2, hS.rd (by repeat (first | exact Has.head | apply Has.tail))⟩ (hx.below hS.pure)) hS (fun w hS hB => ?_) | refine wpS_callP rfl rfl rfl (by kernel_rfl) rfl (wakes12_any _) hS (fun w hS hB => ?_)) | (apply wpS_g; refine wpS_put rfl rfl rfl (by first | exact yv_move rfl | exact yv_assign rfl | exact yv_fieldAddr (by first | exact fo_23_0 | exact fo_26_0) rfl | (apply yv_g_load; first | exact yv_load_box (by first | exact sc_3) rfl (RW.here _) hS (by repeat (first | exact Has.head | apply Has.tail)) (by first | trivial) (by repeat (first | exact Seg.here (Pre.succ Pre.zero))) | exact yv_load_boxA (by first | exact ag_26) rfl (RW.here _) hS (by repeat (first | exact Has.head | apply Has.tail)) (by first | trivial) (by repeat (first | exact Seg.here (by repeat (first | exact Pre.zero | apply Pre.succ))))) | (apply yv_g_bin; first | exact yv_leq_f rfl rfl (by omega) | exact yv_gtr_t rfl rfl (by omega) | exact yv_eql_t rfl rfl (by omega)) | (apply yv_g_pick; first | exact yv_pick_t rfl rfl rfl | exact yv_pick_f rfl rfl rfl)) ?_) | apply wpC_cond_t rfl rfl | apply wpC_ret | apply QH_then_ret)
            refine QH_ret rfl (by first | exact RV.tmp rfl RV.nil) rfl ?_
            exact ⟨rfl, hS.pure⟩
          · repeat (first | apply wpS_nil | (apply QH_seq_k; assumption) | (apply wpC_seq_k; intro K hK) | apply wpC_region | (apply wpS_g_call; first | refine wpS_callP rfl rfl rfl (by kernel_rfl) rfl (sameR_t x A2 A c2 c _ ⟨rfl, by omega, hs1, hs2, hS.rd (by repeat (first | exact Has.head | apply Has.tail))⟩ (hx.below hS.pure)) hS (fun w hS hB => ?_) | refine wpS_callP rfl rfl rfl (by kernel_rfl) rfl (wakes12_any _) hS (fun w hS hB => ?_)) | (apply wpS_g; refine wpS_put rfl rfl rfl (by first | exact yv_move rfl | exact yv_assign rfl | exact yv_fieldAddr (by first | exact fo_23_0 | exact fo_23_1 | exact fo_26_0 | exact fo_26_2) rfl | (apply yv_g_load; first | exact yv_load_box (by first | exact sc_3) rfl (RW.here _) hS (by repeat (first | exact Has.head | apply Has.tail)) (by first | trivial) (by repeat (first | exact Seg.here (Pre.succ Pre.zero) | apply Seg.succ)) | exact yv_load_boxA (by first | exact ag_26) rfl (RW.here _) hS (by repeat (first | exact Has.head | apply Has.tail)) (by first | trivial) (by repeat (first | exact Seg.here (by repeat (first | exact Pre.zero | apply Pre.succ))))) | (apply yv_g_bin; first | exact yv_leq_f rfl rfl (by omega) | exact yv_gtr_t rfl rfl (by omega) | exact yv_gtr_f rfl rfl (by omega) | exact yv_eql_t rfl rfl (by omega)) | (apply yv_g_pick; first | exact yv_pick_t rfl rfl rfl | exact yv_pick_f rfl rfl rfl)) ?_) | apply wpC_cond_t rfl rfl | apply wpC_ret | apply QH_then_ret)
            refine QH_ret rfl (by first | exact RV.tmp rfl RV.nil) rfl ?_
            exact ⟨rfl, hS.pure⟩
      · have hn1 : x.snap.index < s.index ∧ s.index ≤ 1073740824 ∧ s.term ≤ x.term := by omega
        obtain ⟨n1, n2, n3⟩ := hn1
        clear hn
        obtain ⟨k, hk⟩ : ∃ k : Nat, s.index = x.snap.index + ((k + 1 : Nat) : Int) := ⟨(s.index - x.snap.index - 1).toNat, by omega⟩
        by_cases hkl : k < x.log.length
        · obtain ⟨e0, he0⟩ : ∃ e0, x.log[k]? = some e0 := ⟨_, List.getElem?_eq_getElem hkl⟩
          obtain ⟨b1, o1, hA1, hb1, hr1⟩ := hrd.entR he0
          subst hA1
          have hr10 := hr1 0 (.int .i64 e0.term) rfl
          by_cases hte : e0.term = s.term
          · have hdl : (x.log.drop (k + 1)).length = x.log.length - (k + 1) := List.length_drop
            refine gw_enter2 Try.func6 rfl Try.ntmps6 rfl ?_
            have hS := St0.start All w0
            repeat (first | (apply wpC_seq_k; intro K hK) | apply wpC_region)
            first | (apply wpS_g_box; refine wpS_box rfl rfl rfl (by first | exact CellsOf.agg) hS (fun bt w hS hB => ?_))
            first | (apply wpS_g_box; refine wpS_box rfl rfl rfl (by first | exact CellsOf.agg) hS (fun bs w hS hB => ?_))
            repeat (first | apply wpS_nil | (apply QH_seq_k; assumption) | (apply wpC_seq_k; intro K hK) | apply wpC_region | (apply wpS_g_call; first | refine wpS_callP rfl rfl rfl (by kernel_rfl) rfl (rightR12_b x _ c _ hle (hS.rd0 hrd) true hT) hS (fun w hS hB => ?_) | refine wpS_callP rfl rfl rfl (by kernel_rfl) rfl (fineR_b s _ true hf) hS (fun w hS hB => ?_)) | (apply wpS_g; refine wpS_put rfl rfl rfl (by first | exact yv_move rfl | exact yv_assign rfl | (apply yv_g_load; first | exact yv_load_boxA (by first | exact ag_23 | exact ag_26) rfl (RW.here _) hS (by repeat (first | exact Has.head | apply Has.tail)) (by first | trivial) (by repeat (first | exact Seg.here (by repeat (first | exact Pre.zero | apply Pre.succ))))) | (apply yv_g_pick; first | exact yv_pick_f rfl rfl rfl) | exact yv_not rfl) ?_) | apply wpC_cond_f rfl rfl | apply wpC_skip)
            refine wpS_call rfl rfl rfl rfl (by kernel_rfl) rfl (install_any x _ c s _ (hx.below hS.pure) (fun a ha => Nat.lt_of_lt_of_le (hA a ha) hS.size)) ?_
            rintro e w1 h
            obtain ⟨A2, c2, ⟨rfl, hs⟩, hB⟩ := h.to5 s (x.log.drop (k + 1)) x.term x.vote 0 (inst_keep x s k e0 hT hsf n2 n3 hk he0 hte)
            refine ⟨_, rfl, ?_⟩
            replace hS := hS.slice hs hB
            have hs1 := hs.le
            have hs2 := hs.cap
            clear hs h
            repeat (first | (apply wpS_g; refine wpS_put rfl rfl rfl (by first | exact yv_move rfl | exact yv_extract rfl rfl) ?_))
            first | (apply wpS_g_alloc; refine wpS_alloc rfl rfl (by first | exact zc_26) hS (fun bo w hS hB => ?_))
            repeat (first | apply wpS_nil | (apply QH_seq_k; assumption) | (apply wpC_seq_k; intro K hK) | apply wpC_region | (apply wpS_g_store; refine wpS_store rfl rfl rfl (by first | exact CellsOf.agg) hS (by repeat (first | exact Pos.head)) (by repeat (first | exact SetC.here (by repeat (first | exact Ovr.nil | apply Ovr.cons)))) (by kernel_rfl) rfl (fun w hS hB => ?_)) | (apply wpS_g; refine wpS_put rfl rfl rfl (by first | exact yv_move rfl | exact yv_assign rfl | exact yv_fieldAddr (by first | exact fo_23_0 | exact fo_23_1 | exact fo_26_0 | exact fo_26_2) rfl | (apply yv_g_load; first | exact yv_load_box (by first | exact sc_3) rfl (RW.here _) hS (by repeat (first | exact Has.head | apply Has.tail)) (by first | trivial) (by repeat (first | exact Seg.here (Pre.succ Pre.zero) | apply Seg.succ))) | (apply yv_g_bin; first | exact yv_leq_f rfl rfl (by omega) | exact yv_gtr_f rfl rfl (by omega) | exact yv_sub rfl rfl (by omega)) | (apply yv_g_pick; first | exact yv_pick_f rfl rfl rfl)) ?_) | apply wpC_cond_f rfl rfl | apply wpC_skip)
            refine wpC_draw 17 [] (fun _ _ => True) ⟨by kernel_rfl, by kernel_rfl⟩ hS (fun w hS hB => ?_)
            refine wpR_batch [true, true, true, true, true, true, true, true, true, true, true, true, true, true, true, true, true] (by decide +kernel) (by repeat (first | exact PF.body | apply PF.then)) ?_
            repeat (first | refine LtK.put rfl rfl rfl (by first | exact yv_indexAddr (j := k) (by first | exact el_24) rfl rfl (by omega) (by omega) | exact yv_move rfl | exact yv_fieldAddr (by first | exact fo_23_0 | exact fo_23_1 | exact fo_26_1 | exact fo_50_0) rfl | (apply yv_g_load; first | exact yv_load_box (by first | exact sc_1 | exact sc_3 | exact sc_24) rfl (RW.below _) hS (by repeat (first | exact Has.head | apply Has.tail)) (by first | trivial) (by repeat (first | exact Seg.here (Pre.succ Pre.zero) | apply Seg.succ)) | exact yv_load_old (by first | exact sc_1 | exact sc_3) rfl (RW.below _) hS (by first | trivial) (by first | trivial) (by assumption)) | (apply yv_g_bin; first | exact yv_leq_t rfl rfl (by omega) | exact yv_eql_t rfl rfl (by omega) | exact yv_sub rfl rfl (by omega)) | (apply yv_g_pick; first | exact yv_pick_t rfl rfl rfl) | (apply yv_g_bi; first | exact yv_len (by first | exact el_24) rfl)) ?_)
            refine LtK.nil ?_
            refine wpR_end (by kernel_rfl) ?_
            repeat (first | (apply QH_seq_k; assumption) | (apply wpC_seq_k; intro K hK) | apply wpC_cond_t rfl rfl)
            refine wpC_draw 35 [] (fun _ _ => True) ⟨by kernel_rfl, by kernel_rfl⟩ hS (fun w hS hB => ?_)
            refine wpR_batch [true, true, true, true, true, true, true, true, true, true, true, true, true, true, true] (by decide +kernel) (by repeat (first | exact PF.body | apply PF.then)) ?_
            repeat (first | refine LtK.put rfl rfl rfl (by first | exact yv_slice_l (l := k + 1) (by first | exact el_24) rfl rfl (by omega) (by omega) | exact yv_move rfl | exact yv_fieldAddr (by first | exact fo_23_0 | exact fo_26_0 | exact fo_26_1) rfl | (apply yv_g_load; first | exact yv_load_box (by first | exact sc_1 | exact sc_24) rfl (RW.below _) hS (by repeat (first | exact Has.head | apply Has.tail)) (by first | trivial) (by repeat (first | exact Seg.here (Pre.succ Pre.zero) | apply Seg.succ)) | exact yv_load_boxA (by first | exact ag_23) rfl (RW.below _) hS (by repeat (first | exact Has.head | apply Has.tail)) (by first | trivial) (by repeat (first | exact Seg.here (by repeat (first | exact Pre.zero | apply Pre.succ))))) | (apply yv_g_bin; first | exact yv_eql_t rfl rfl (by omega) | exact yv_eqlS (by kernel_rfl) rfl rfl (fun w => eqSt_t w _ _ (by assumption))) | (apply yv_g_pick; first | exact yv_pick_t rfl rfl rfl)) ?_)
            refine LtK.nil ?_
            refine wpR_call [false, false, false, false, false, false, false, false, false, false, false, false, false, false, false, true] 15 ⟨by decide, by kernel_rfl, by kernel_rfl⟩ rfl rfl ?_
            dsimp only [pickL]
            repeat (first | apply wpS_nil | (apply wpS_g_call; first | refine wpS_callP rfl rfl rfl (by kernel_rfl) rfl (sameE_t _ _ _ _ _ _ (x.log.drop (k + 1)) _ rfl hdl (by omega) (hS.rd (by repeat (first | exact Has.head | apply Has.tail))) ((hx.below hS.pure).rd.cutE hle)) hS (fun w hS hB => ?_)))
            refine QH_step (by first | assumption) ?_
            refine wpR_batch [false, false, false, false, false, false, false, false, false, false, false, false, false, false, false, false, true, true, true, true, true, true, true, true, true, true, true, true, true, true, true, true] (by decide +kernel) (by repeat (first | exact PF.body | apply PF.then)) ?_
            repeat (first | refine LtK.put rfl rfl rfl (by first | exact yv_move rfl | exact yv_fieldAddr (by first | exact fo_23_0 | exact fo_26_2 | exact fo_26_3) rfl | (apply yv_g_load; first | exact yv_load_box (by first | exact sc_1 | exact sc_3) rfl (RW.below _) hS (by repeat (first | exact Has.head | apply Has.tail)) (by first | trivial) (by repeat (first | exact Seg.here (Pre.succ Pre.zero) | apply Seg.succ))) | (apply yv_g_bin; first | exact yv_eql_t rfl rfl (by omega)) | (apply yv_g_pick; first | exact yv_pick_t rfl rfl rfl)) ?_)
            refine LtK.nil ?_
            refine wpR_call [false, false, false, false, false, false, false, false, false, false, false, false, false, false, false, false, false, false, false, false, false, false, false, false, false, false, false, false, false, false, false, false, true] 32 ⟨by decide, by kernel_rfl, by kernel_rfl⟩ rfl rfl ?_
            dsimp only [pickL]
            repeat (first | apply wpS_nil | (apply wpS_g_call; first | refine wpS_callP rfl rfl rfl (by kernel_rfl) rfl (wakes12_any _) hS (fun w hS hB => ?_)))
            refine QH_step (by first | assumption) ?_
            refine wpR_batch [false, false, false, false, false, false, false, false, false, false, false, false, false, false, false, false, false, false, false, false, false, false, false, false, false, false, false, false, false, false, false, false, false, true, true] (by decide +kernel) (by repeat (first | exact PF.body | apply PF.then)) ?_
            repeat (first | refine LtK.put rfl rfl rfl (by first | exact yv_assign rfl | (apply yv_g_pick; first | exact yv_pick_t rfl rfl rfl)) ?_)
            refine LtK.nil ?_
            refine wpR_end (by kernel_rfl) ?_
            repeat (first | (apply QH_seq_k; assumption) | apply wpC_ret | apply QH_then_ret)
            refine QH_ret rfl (by first | exact RV.tmp rfl RV.nil) rfl ?_
            exact ⟨rfl, hS.pure⟩
          · have hno : ∀ (j : Nat) (e : En), s.index = x.snap.index + ((j + 1 : Nat) : Int) → x.log[j]? = some e → e.term ≠ s.term := fun j e hj he => by
              obtain rfl : j = k := by omega
              rw [he0] at he
              injection he with he
              subst he
              exact hte
            refine gw_enter2 Try.func6 rfl Try.ntmps6 rfl ?_
            have hS := St0.start All w0
            repeat (first | (apply wpC_seq_k; intro K hK) | apply wpC_region)
            first | (apply wpS_g_box; refine wpS_box rfl rfl rfl (by first | exact CellsOf.agg) hS (fun bt w hS hB => ?_))
            first | (apply wpS_g_box; refine wpS_box rfl rfl rfl (by first | exact CellsOf.agg) hS (fun bs w hS hB => ?_))
            repeat (first | apply wpS_nil | (apply QH_seq_k; assumption) | (apply wpC_seq_k; intro K hK) | apply wpC_region | (apply wpS_g_call; first | refine wpS_callP rfl rfl rfl (by kernel_rfl) rfl (rightR12_b x _ c _ hle (hS.rd0 hrd) true hT) hS (fun w hS hB => ?_) | refine wpS_callP rfl rfl rfl (by kernel_rfl) rfl (fineR_b s _ true hf) hS (fun w hS hB => ?_)) | (apply wpS_g; refine wpS_put rfl rfl rfl (by first | exact yv_move rfl | exact yv_assign rfl | (apply yv_g_load; first | exact yv_load_boxA (by first | exact ag_23 | exact ag_26) rfl (RW.here _) hS (by repeat (first | exact Has.head | apply Has.tail)) (by first | trivial) (by repeat (first | exact Seg.here (by repeat (first | exact Pre.zero | apply Pre.succ))))) | (apply yv_g_pick; first | exact yv_pick_f rfl rfl rfl) | exact yv_not rfl) ?_) | apply wpC_cond_f rfl rfl | apply wpC_skip)
            refine wpS_call rfl rfl rfl rfl (by kernel_rfl) rfl (install_any x _ c s _ (hx.below hS.pure) (fun a ha => Nat.lt_of_lt_of_le (hA a ha) hS.size)) ?_
            rintro e w1 h
            obtain ⟨A2, c2, ⟨rfl, hs⟩, hB⟩ := h.to5 s [] x.term x.vote 0 (inst_drop x s hT hsf n1 n2 n3 hno)
            refine ⟨_, rfl, ?_⟩
            replace hS := hS.slice hs hB
            have hs1 := hs.le
            have hs2 := hs.cap
            clear hs h hno
            repeat (first | (apply wpS_g; refine wpS_put rfl rfl rfl (by first | exact yv_move rfl | exact yv_extract rfl rfl) ?_))
            first | (apply wpS_g_alloc; refine wpS_alloc rfl rfl (by first | exact zc_26) hS (fun bo w hS hB => ?_))
            repeat (first | apply wpS_nil | (apply QH_seq_k; assumption) | (apply wpC_seq_k; intro K hK) | apply wpC_region | (apply wpS_g_store; refine wpS_store rfl rfl rfl (by first | exact CellsOf.agg) hS (by repeat (first | exact Pos.head)) (by repeat (first | exact SetC.here (by repeat (first | exact Ovr.nil | apply Ovr.cons)))) (by kernel_rfl) rfl (fun w hS hB => ?_)) | (apply wpS_g; refine wpS_put rfl rfl rfl (by first | exact yv_move rfl | exact yv_assign rfl | exact yv_fieldAddr (by first | exact fo_23_0 | exact fo_23_1 | exact fo_26_0 | exact fo_26_2) rfl | (apply yv_g_load; first | exact yv_load_box (by first | exact sc_3) rfl (RW.here _) hS (by repeat (first | exact Has.head | apply Has.tail)) (by first | trivial) (by repeat (first | exact Seg.here (Pre.succ Pre.zero) | apply Seg.succ))) | (apply yv_g_bin; first | exact yv_leq_f rfl rfl (by omega) | exact yv_gtr_f rfl rfl (by omega) | exact yv_sub rfl rfl (by omega)) | (apply yv_g_pick; first | exact yv_pick_f rfl rfl rfl)) ?_) | apply wpC_cond_f rfl rfl | apply wpC_skip)
            refine wpC_draw 17 [] (fun _ _ => True) ⟨by kernel_rfl, by kernel_rfl⟩ hS (fun w hS hB => ?_)
            refine wpR_batch [true, true, true, true, true, true, true, true, true, true, true, true, true, true, true, true, true] (by decide +kernel) (by repeat (first | exact PF.body | apply PF.then)) ?_
            repeat (first | refine LtK.put rfl rfl rfl (by first | exact yv_indexAddr (j := k) (by first | exact el_24) rfl rfl (by omega) (by omega) | exact yv_move rfl | exact yv_fieldAddr (by first | exact fo_23_0 | exact fo_23_1 | exact fo_26_1 | exact fo_50_0) rfl | (apply yv_g_load; first | exact yv_load_box (by first | exact sc_1 | exact sc_3 | exact sc_24) rfl (RW.below _) hS (by repeat (first | exact Has.head | apply Has.tail)) (by first | trivial) (by repeat (first | exact Seg.here (Pre.succ Pre.zero) | apply Seg.succ)) | exact yv_load_old (by first | exact sc_1 | exact sc_3) rfl (RW.below _) hS (by first | trivial) (by first | trivial) (by assumption)) | (apply yv_g_bin; first | exact yv_leq_t rfl rfl (by omega) | exact yv_eql_f rfl rfl (by omega) | exact yv_sub rfl rfl (by omega)) | (apply yv_g_pick; first | exact yv_pick_t rfl rfl rfl) | (apply yv_g_bi; first | exact yv_len (by first | exact el_24) rfl)) ?_)
            refine LtK.nil ?_
            refine wpR_end (by kernel_rfl) ?_
            repeat (first | (apply QH_seq_k; assumption) | (apply wpC_seq_k; intro K hK) | apply wpC_cond_f rfl rfl | apply wpC_skip)
            refine wpC_draw 39 [] (fun _ _ => True) ⟨by kernel_rfl, by kernel_rfl⟩ hS (fun w hS hB => ?_)
            refine wpR_batch [true, true, true, true, true, true, true, true, true, true, true, true, true, true, true, true, true, true, true, true, true, true, true, true, true, true, true, true, true, true, false, true, true] (by decide +kernel) (by repeat (first | exact PF.body | apply PF.then)) ?_
            repeat (first | refine LtK.put rfl rfl rfl (by first | exact yv_move rfl | exact yv_fieldAddr (by first | exact fo_23_0 | exact fo_26_0 | exact fo_26_1 | exact fo_26_2 | exact fo_26_3) rfl | (apply yv_g_load; first | exact yv_load_box (by first | exact sc_1 | exact sc_3 | exact sc_24) rfl (RW.below _) hS (by repeat (first | exact Has.head | apply Has.tail)) (by first | trivial) (by repeat (first | exact Seg.here (Pre.succ Pre.zero) | apply Seg.succ)) | exact yv_load_boxA (by first | exact ag_23 | exact ag_26) rfl (RW.below _) hS (by repeat (first | exact Has.head | apply Has.tail)) (by first | trivial) (by repeat (first | exact Seg.here (by repeat (first | exact Pre.zero | apply Pre.succ))))) | (apply yv_g_bin; first | exact yv_eql_t rfl rfl (by omega) | exact yv_eql rfl rfl | exact yv_eqlS (by kernel_rfl) rfl rfl (fun w => eqSt_t w _ _ (by assumption))) | (apply yv_g_pick; first | exact yv_pick_t rfl rfl rfl) | (apply yv_g_bi; first | exact yv_len (by first | exact el_24) rfl)) ?_)
            refine LtK.nil ?_
            refine wpR_call [false, false, false, false, false, false, false, false, false, false, false, false, false, false, false, false, false, false, false, false, false, false, false, false, false, false, false, false, false, false, true] 30 ⟨by decide, by kernel_rfl, by kernel_rfl⟩ rfl rfl ?_
            dsimp only [pickL]
            repeat (first | apply wpS_nil | (apply wpS_g_call; first | refine wpS_callP rfl rfl rfl (by kernel_rfl) rfl (last_any s _ 0 _ _ _ _ (by omega) (by decide)) hS (fun w hS hB => ?_)))
            refine QH_step (by first | assumption) ?_
            refine wpR_batch [false, false, false, false, false, false, false, false, false, false, false, false, false, false, false, false, false, false, false, false, false, false, false, false, false, false, false, false, false, false, false, false, false, true, true, true] (by decide +kernel) (by repeat (first | exact PF.body | apply PF.then)) ?_
            repeat (first | refine LtK.put rfl rfl rfl (by first | exact yv_move rfl | (apply yv_g_bin; first | exact yv_eql_t rfl rfl (by omega)) | (apply yv_g_pick; first | exact yv_pick_t rfl rfl rfl)) ?_)
            refine LtK.nil ?_
            refine wpR_call [false, false, false, false, false, false, false, false, false, false, false, false, false, false, false, false, false, false, false, false, false, false, false, false, false, false, false, false, false, false, false, false, false, false, false, false, true] 36 ⟨by decide, by kernel_rfl, by kernel_rfl⟩ rfl rfl ?_
            dsimp only [pickL]
            repeat (first | apply wpS_nil | (apply wpS_g_call; first | refine wpS_callP rfl rfl rfl (by kernel_rfl) rfl (wakes12_any _) hS (fun w hS hB => ?_)))
            refine QH_step (by first | assumption) ?_
            refine wpR_batch [false, false, false, false, false, false, false, false, false, false, false, false, false, false, false, false, false, false, false, false, false, false, false, false, false, false, false, false, false, false, false, false, false, false, false, false, false, true, true] (by decide +kernel) (by repeat (first | exact PF.body | apply PF.then)) ?_
            repeat (first | refine LtK.put rfl rfl rfl (by first | exact yv_assign rfl | (apply yv_g_pick; first | exact yv_pick_t rfl rfl rfl)) ?_)
            refine LtK.nil ?_
            refine wpR_end (by kernel_rfl) ?_
            repeat (first | (apply QH_seq_k; assumption) | apply wpC_ret)
            refine QH_ret rfl (by first | exact RV.tmp rfl RV.nil) rfl ?_
            exact ⟨rfl, hS.pure⟩
        · have hno : ∀ (j : Nat) (e : En), s.index = x.snap.index + ((j + 1 : Nat) : Int) → x.log[j]? = some e → e.term ≠ s.term := fun j e hj he => by
            have := (List.getElem?_eq_some_iff.1 he).1
            omega
          refine gw_enter2 Try.func6 rfl Try.ntmps6 rfl ?_
          have hS := St0.start All w0
          repeat (first | (apply wpC_seq_k; intro K hK) | apply wpC_region)
          first | (apply wpS_g_box; refine wpS_box rfl rfl rfl (by first | exact CellsOf.agg) hS (fun bt w hS hB => ?_))
          first | (apply wpS_g_box; refine wpS_box rfl rfl rfl (by first | exact CellsOf.agg) hS (fun bs w hS hB => ?_))
          repeat (first | apply wpS_nil | (apply QH_seq_k; assumption) | (apply wpC_seq_k; intro K hK) | apply wpC_region | (apply wpS_g_call; first | refine wpS_callP rfl rfl rfl (by kernel_rfl) rfl (rightR12_b x _ c _ hle (hS.rd0 hrd) true hT) hS (fun w hS hB => ?_) | refine wpS_callP rfl rfl rfl (by kernel_rfl) rfl (fineR_b s _ true hf) hS (fun w hS hB => ?_)) | (apply wpS_g; refine wpS_put rfl rfl rfl (by first | exact yv_move rfl | exact yv_assign rfl | (apply yv_g_load; first | exact yv_load_boxA (by first | exact ag_23 | exact ag_26) rfl (RW.here _) hS (by repeat (first | exact Has.head | apply Has.tail)) (by first | trivial) (by repeat (first | exact Seg.here (by repeat (first | exact Pre.zero | apply Pre.succ))))) | (apply yv_g_pick; first | exact yv_pick_f rfl rfl rfl) | exact yv_not rfl) ?_) | apply wpC_cond_f rfl rfl | apply wpC_skip)
          refine wpS_call rfl rfl rfl rfl (by kernel_rfl) rfl (install_any x _ c s _ (hx.below hS.pure) (fun a ha => Nat.lt_of_lt_of_le (hA a ha) hS.size)) ?_
          rintro e w1 h
          obtain ⟨A2, c2, ⟨rfl, hs⟩, hB⟩ := h.to5 s [] x.term x.vote 0 (inst_drop x s hT hsf n1 n2 n3 hno)
          refine ⟨_, rfl, ?_⟩
          replace hS := hS.slice hs hB
          have hs1 := hs.le
          have hs2 := hs.cap
          clear hs h hno
          repeat (first | (apply wpS_g; refine wpS_put rfl rfl rfl (by first | exact yv_move rfl | exact yv_extract rfl rfl) ?_))
          first | (apply wpS_g_alloc; refine wpS_alloc rfl rfl (by first | exact zc_26) hS (fun bo w hS hB => ?_))
          repeat (first | apply wpS_nil | (apply QH_seq_k; assumption) | (apply wpC_seq_k; intro K hK) | apply wpC_region | (apply wpS_g_store; refine wpS_store rfl rfl rfl (by first | exact CellsOf.agg) hS (by repeat (first | exact Pos.head)) (by repeat (first | exact SetC.here (by repeat (first | exact Ovr.nil | apply Ovr.cons)))) (by kernel_rfl) rfl (fun w hS hB => ?_)) | (apply wpS_g; refine wpS_put rfl rfl rfl (by first | exact yv_move rfl | exact yv_assign rfl | exact yv_fieldAddr (by first | exact fo_23_0 | exact fo_23_1 | exact fo_26_0 | exact fo_26_2) rfl | (apply yv_g_load; first | exact yv_load_box (by first | exact sc_3) rfl (RW.here _) hS (by repeat (first | exact Has.head | apply Has.tail)) (by first | trivial) (by repeat (first | exact Seg.here (Pre.succ Pre.zero) | apply Seg.succ))) | (apply yv_g_bin; first | exact yv_leq_f rfl rfl (by omega) | exact yv_gtr_f rfl rfl (by omega) | exact yv_sub rfl rfl (by omega)) | (apply yv_g_pick; first | exact yv_pick_f rfl rfl rfl)) ?_) | apply wpC_cond_f rfl rfl | apply wpC_skip)
          refine wpC_draw 17 [] (fun _ _ => True) ⟨by kernel_rfl, by kernel_rfl⟩ hS (fun w hS hB => ?_)
          refine wpR_batch [true, true, true, true, true, true, true, true, true, true, true, true, true, true, true, true, true] (by decide +kernel) (by repeat (first | exact PF.body | apply PF.then)) ?_
          repeat (first | refine LtK.put rfl rfl rfl (by first | exact yv_move rfl | exact yv_fieldAddr (by first | exact fo_23_0 | exact fo_23_1 | exact fo_26_1 | exact fo_50_0) rfl | (apply yv_g_load; first | exact yv_load_box (by first | exact sc_1 | exact sc_3 | exact sc_24) rfl (RW.below _) hS (by repeat (first | exact Has.head | apply Has.tail)) (by first | trivial) (by repeat (first | exact Seg.here (Pre.succ Pre.zero) | apply Seg.succ))) | (apply yv_g_bin; first | exact yv_leq_f rfl rfl (by omega)) | (apply yv_g_pick; first | exact yv_pick_f rfl rfl rfl) | (apply yv_g_bi; first | exact yv_len (by first | exact el_24) rfl)) ?_ | refine LtK.skip rfl rfl rfl ?_)
          refine LtK.nil ?_
          refine wpR_end (by kernel_rfl) ?_
          repeat (first | (apply QH_seq_k; assumption) | (apply wpC_seq_k; intro K hK) | apply wpC_cond_f rfl rfl | apply wpC_skip)
          refine wpC_draw 39 [] (fun _ _ => True) ⟨by kernel_rfl, by kernel_rfl⟩ hS (fun w hS hB => ?_)
          refine wpR_batch [true, true, true, true, true, true, true, true, true, true, true, true, true, true, true, true, true, true, true, true, true, true, true, true, true, true, true, true, true, true, false, true, true] (by decide +kernel) (by repeat (first | exact PF.body | apply PF.then)) ?_
          repeat (first | refine LtK.put rfl rfl rfl (by first | exact yv_move rfl | exact yv_fieldAddr (by first | exact fo_23_0 | exact fo_26_0 | exact fo_26_1 | exact fo_26_2 | exact fo_26_3) rfl | (apply yv_g_load; first | exact yv_load_box (by first | exact sc_1 | exact sc_3 | exact sc_24) rfl (RW.below _) hS (by repeat (first | exact Has.head | apply Has.tail)) (by first | trivial) (by repeat (first | exact Seg.here (Pre.succ Pre.zero) | apply Seg.succ)) | exact yv_load_boxA (by first | exact ag_23 | exact ag_26) rfl (RW.below _) hS (by repeat (first | exact Has.head | apply Has.tail)) (by first | trivial) (by repeat (first | exact Seg.here (by repeat (first | exact Pre.zero | apply Pre.succ))))) | (apply yv_g_bin; first | exact yv_eql_t rfl rfl (by omega) | exact yv_eql rfl rfl | exact yv_eqlS (by kernel_rfl) rfl rfl (fun w => eqSt_t w _ _ (by assumption))) | (apply yv_g_pick; first | exact yv_pick_t rfl rfl rfl) | (apply yv_g_bi; first | exact yv_len (by first | exact el_24) rfl)) ?_)
          refine LtK.nil ?_
          refine wpR_call [false, false, false, false, false, false, false, false, false, false, false, false, false, false, false, false, false, false, false, false, false, false, false, false, false, false, false, false, false, false, true] 30 ⟨by decide, by kernel_rfl, by kernel_rfl⟩ rfl rfl ?_
          dsimp only [pickL]
          repeat (first | apply wpS_nil | (apply wpS_g_call; first | refine wpS_callP rfl rfl rfl (by kernel_rfl) rfl (last_any s _ 0 _ _ _ _ (by omega) (by decide)) hS (fun w hS hB => ?_)))
          refine QH_step (by first | assumption) ?_
          refine wpR_batch [false, false, false, false, false, false, false, false, false, false, false, false, false, false, false, false, false, false, false, false, false, false, false, false, false, false, false, false, false, false, false, false, false, true, true, true] (by decide +kernel) (by repeat (first | exact PF.body | apply PF.then)) ?_
          repeat (first | refine LtK.put rfl rfl rfl (by first | exact yv_move rfl | (apply yv_g_bin; first | exact yv_eql_t rfl rfl (by omega)) | (apply yv_g_pick; first | exact yv_pick_t rfl rfl rfl)) ?_)
          refine LtK.nil ?_
          refine wpR_call [false, false, false, false, false, false, false, false, false, false, false, false, false, false, false, false, false, false, false, false, false, false, false, false, false, false, false, false, false, false, false, false, false, false, false, false, true] 36 ⟨by decide, by kernel_rfl, by kernel_rfl⟩ rfl rfl ?_
          dsimp only [pickL]
          repeat (first | apply wpS_nil | (apply wpS_g_call; first | refine wpS_callP rfl rfl rfl (by kernel_rfl) rfl (wakes12_any _) hS (fun w hS hB => ?_)))
          refine QH_step (by first | assumption) ?_
          refine wpR_batch [false, false, false, false, false, false, false, false, false, false, false, false, false, false, false, false, false, false, false, false, false, false, false, false, false, false, false, false, false, false, false, false, false, false, false, false, false, true, true] (by decide +kernel) (by repeat (first | exact PF.body | apply PF.then)) ?_
          repeat (first | refine LtK.put rfl rfl rfl (by first | exact yv_assign rfl | (apply yv_g_pick; first | exact yv_pick_t rfl rfl rfl)) ?_)
          refine LtK.nil ?_
          refine wpR_end (by kernel_rfl) ?_
          repeat (first | (apply QH_seq_k; assumption) | apply wpC_ret)
          refine QH_ret rfl (by first | exact RV.tmp rfl RV.nil) rfl ?_
          exact ⟨rfl, hS.pure⟩
end Go.Proofs.Ythngkojbokknfaa
