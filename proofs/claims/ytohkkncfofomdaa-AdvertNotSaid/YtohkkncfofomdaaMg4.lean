/- Texts of one claim put together: what its walks share. -/
import Derived.Test.YtohkkncfofomdaaMg1
import Derived.Test.YtohkkncfofomdaaMg2
import Derived.Test.YtohkkncfofomdaaMg3
/- What functions compute, in plain terms, and that they do; printed. -/
namespace Go.Proofs.Ytohkkncfofomdaa
open Go Go.RowKit
set_option maxRecDepth 100000
set_option maxHeartbeats 4000000
theorem c_ref06_Same (x0 : List En) (x1 : List En) (A0_ : Option Addr) (c0_ : Nat) (A1_ : Option Addr) (c1_ : Nat) (w0 : World) (s0_ : SlI w0 enE A0_ c0_ x0) (s1_ : SlI w0 enE A1_ c1_ x1) {r : Bool} (H : m_ref06_Same x0 x1 = some r) : Calls Try.prog 21 #[.slice A0_ x0.length c0_, .slice A1_ x1.length c1_] w0 fun e w' => e = .returned (.bool r) ∧ St0 All w0 w' [] := by
  unfold m_ref06_Same at H
  refine gw_enter2 Try.func21 rfl Try.ntmps21 rfl ?_
  have hS := St0.start All w0
  refine wpC_seq_k (fun K hK1 => ?_)
  refine wpC_region ?_
  refine wpS_quick 1 rfl ?_
  refine wpS_nil ?_
  refine QH_seq_k hK1 ?_
  refine wpC_seq_k (fun K hK2 => ?_)
  refine wpC_seq_k (fun K hK3 => ?_)
  refine wpC_region ?_
  refine wpS_quick 1 rfl ?_
  refine wpS_put rfl rfl rfl (yv_len el_24 rfl) ?_
  refine wpS_quick 1 rfl ?_
  refine wpS_put rfl rfl rfl (yv_len el_24 rfl) ?_
  refine wpS_put rfl rfl rfl (yv_neq rfl rfl) ?_
  refine wpS_nil ?_
  refine QH_seq_k hK3 ?_
  refine wpC_cond rfl (fun hb => ?_) (fun hb => ?_)
  · replace H := cond_t H hb
    refine wpC_seq_k (fun K hK4 => ?_)
    refine wpC_region ?_
    refine wpS_quick 1 rfl ?_
    refine wpS_nil ?_
    refine QH_seq_k hK4 ?_
    refine wpC_ret ?_
    refine QH_then_ret ?_
    refine QH_ret rfl (RV.tmp rfl RV.nil) rfl ?_
    obtain rfl := Option.some.inj H
    replace hS := hS.cut 0
    exact ⟨rfl, hS⟩
  replace H := cond_f H hb
  refine wpC_skip ?_
  refine QH_seq_k hK2 ?_
  refine wpC_seq_k (fun K hK5 => ?_)
  refine wpC_seq_k (fun K hK6 => ?_)
  refine wpC_region ?_
  refine wpS_quick 1 rfl ?_
  refine wpS_nil ?_
  refine QH_seq_k hK6 ?_
  refine wpC_block ?_
  refine wpC_loop (X := Nat × Bool × Int) (fun x => (0, .slice A0_ x0.length c0_) :: (1, .slice A1_ x1.length c1_) :: (4, .bool x.2.1) :: (5, .int .i64 x.2.2) :: []) (fun x w => St0 All w0 w ([]) ∧ m_ref06_Same_l1 x0 x1 x.1 x.2.1 x.2.2 = some r) (fun x => x.1) (fuelN, false, 0) (by repeat (first | exact Sub.nil | refine Sub.cons rfl ?_)) ⟨hS, H⟩ ?_
  rintro ⟨n, v7, v8⟩ w ⟨hS, H⟩
  dsimp only at hS H ⊢
  obtain _ | n := n
  · have H0 : none = some r := H
    cases H0
  rw [m_ref06_Same_l1] at H
  refine wpC_seq_k (fun K hK9 => ?_)
  refine wpC_seq_k (fun K hK10 => ?_)
  refine wpC_region ?_
  refine wpS_quick 2 rfl ?_
  refine wpS_put rfl rfl rfl (yv_len el_24 rfl) ?_
  refine wpS_put rfl rfl rfl (yv_lss rfl rfl) ?_
  refine wpS_nil ?_
  refine QH_seq_k hK10 ?_
  refine wpC_cond rfl (fun hb => ?_) (fun hb => ?_)
  rotate_left
  · replace H := cond_f H hb
    refine wpC_exit ?_
    refine QH_then_exit ?_
    refine QH_then_exit ?_
    refine QH_block_hit ?_
    refine QH_seq_k hK5 ?_
    refine wpC_seq_k (fun K hK20 => ?_)
    refine wpC_region ?_
    refine wpS_quick 1 rfl ?_
    refine wpS_nil ?_
    refine QH_seq_k hK20 ?_
    refine wpC_ret ?_
    refine QH_ret rfl (RV.tmp rfl RV.nil) rfl ?_
    obtain rfl := Option.some.inj H
    replace hS := hS.cut 0
    exact ⟨rfl, hS⟩
  replace H := cond_t H hb
  refine wpC_skip ?_
  refine QH_seq_k hK9 ?_
  refine wpC_seq_k (fun K hK11 => ?_)
  refine wpC_block ?_
  refine wpC_seq_k (fun K hK12 => ?_)
  refine wpC_draw 9 [] (fun _ _ => True) ⟨by kernel_rfl, by kernel_rfl⟩ hS (fun w hS hB => ?_)
  refine wpR_batch [true, true, true, true, true, true, true, true, true] (by decide +kernel) (by repeat (first | exact PF.body | exact PF.round | apply PF.then | apply PF.inBlock | apply PF.jump)) ?_
  refine LtK.put rfl rfl rfl (yv_move rfl) ?_
  refine LtK.put rfl rfl rfl (yv_move rfl) ?_
  obtain ⟨e13, hi15, H⟩ := bind_some H
  obtain ⟨j14, hi15a, hi15b, hi15c⟩ := idx_some hi15
  refine LtK.put rfl rfl rfl (yx_idx el_24 rfl rfl hi15a hi15c (Rd.el (hS.rd0 s0_.rd) he_enE hi15b)) ?_
  refine LtK.put rfl rfl rfl (yx_ldA0 ag_47 rfl (RW.below _) (Rd.el (hS.rd0 s0_.rd) he_enE hi15b) sg0_3) ?_
  refine LtK.put rfl rfl rfl (yv_move rfl) ?_
  refine LtK.put rfl rfl rfl (yv_move rfl) ?_
  obtain ⟨e16, hi18, H⟩ := bind_some H
  obtain ⟨j17, hi18a, hi18b, hi18c⟩ := idx_some hi18
  refine LtK.put rfl rfl rfl (yx_idx el_24 rfl rfl hi18a hi18c (Rd.el (hS.rd0 s1_.rd) he_enE hi18b)) ?_
  refine LtK.put rfl rfl rfl (yx_ldA0 ag_47 rfl (RW.below _) (Rd.el (hS.rd0 s1_.rd) he_enE hi18b) sg0_3) ?_
  refine LtK.put rfl rfl rfl (yv_neqS (by kernel_rfl) rfl rfl (eqT_47 _ _ _ _ _ _)) ?_
  refine LtK.nil ?_
  refine wpR_end (by kernel_rfl) ?_
  refine QH_seq_k hK12 ?_
  refine wpC_cond rfl (fun hb => ?_) (fun hb => ?_)
  rotate_left
  · replace H := cond_f H hb
    refine wpC_skip ?_
    refine QH_block_normal ?_
    refine QH_seq_k hK11 ?_
    refine wpC_region ?_
    refine wpS_quick 1 rfl ?_
    refine wpS_put rfl rfl rfl (yx_add rfl rfl) ?_
    refine wpS_quick 1 rfl ?_
    refine wpS_nil ?_
    exact QH_again (n, v7, (IntKind.wrap .i64 (v8 + 1))) (by repeat (first | exact Sub.nil | refine Sub.cons rfl ?_)) ⟨hS, H⟩ (Nat.lt_succ_self _)
  replace H := cond_t H hb
  refine wpC_seq_k (fun K hK19 => ?_)
  refine wpC_region ?_
  refine wpS_quick 1 rfl ?_
  refine wpS_nil ?_
  refine QH_seq_k hK19 ?_
  refine wpC_ret ?_
  refine QH_block_ret ?_
  refine QH_then_ret ?_
  refine QH_then_ret ?_
  refine QH_block_ret ?_
  refine QH_then_ret ?_
  refine QH_ret rfl (RV.tmp rfl RV.nil) rfl ?_
  obtain rfl := Option.some.inj H
  replace hS := hS.cut 0
  exact ⟨rfl, hS⟩
theorem c_ref12_Same (x0 : Tu) (x1 : Tu) (A0_ : Option Addr) (c0_ : Nat) (A1_ : Option Addr) (c1_ : Nat) (w0 : World) (s0_ : SlI w0 enE A0_ c0_ x0.log) (s1_ : SlI w0 enE A1_ c1_ x1.log) {r : Bool} (H : m_ref12_Same x0 x1 = some r) : Calls Try.prog 15 #[.agg #[.int .i64 x0.snap.index, .int .i64 x0.snap.term, .int .i64 x0.snap.sum, .int .i64 x0.snap.level, .bool x0.snap.final, .slice A0_ x0.log.length c0_, .int .i64 x0.term, .int .i64 x0.vote], .agg #[.int .i64 x1.snap.index, .int .i64 x1.snap.term, .int .i64 x1.snap.sum, .int .i64 x1.snap.level, .bool x1.snap.final, .slice A1_ x1.log.length c1_, .int .i64 x1.term, .int .i64 x1.vote]] w0 fun e w' => e = .returned (.bool r) ∧ St0 All w0 w' [] := by
  unfold m_ref12_Same at H
  refine gw_enter2 Try.func15 rfl Try.ntmps15 rfl ?_
  have hS := St0.start All w0
  refine wpC_seq_k (fun K hK1 => ?_)
  refine wpC_region ?_
  refine wpS_box rfl rfl rfl CellsOf.agg hS (fun b2 w hS hB => ?_)
  refine wpS_box rfl rfl rfl CellsOf.agg hS (fun b4 w hS hB => ?_)
  refine wpS_quick 1 rfl ?_
  refine wpS_nil ?_
  refine QH_seq_k hK1 ?_
  refine wpC_seq_k (fun K hK6 => ?_)
  refine wpC_region ?_
  refine wpS_put rfl rfl rfl (yv_fieldAddr fo_26_0 rfl) ?_
  refine wpS_put rfl rfl rfl (yv_load_boxA ag_23 rfl (RW.here _) hS hs1 trivial sg0_5) ?_
  refine wpS_put rfl rfl rfl (yv_fieldAddr fo_26_0 rfl) ?_
  refine wpS_put rfl rfl rfl (yv_load_boxA ag_23 rfl (RW.here _) hS hs0 trivial sg0_5) ?_
  refine wpS_put rfl rfl rfl (yv_eqlS (by kernel_rfl) rfl rfl (eqT_23 _ _ _ _ _ _ _ _ _ _)) ?_
  refine wpS_quick 1 rfl ?_
  refine wpS_case 10 rfl (fun hb => ?_) (fun hb => ?_)
  rotate_left
  · replace H := cond_f H hb
    refine wpS_quick 21 rfl ?_
    refine wpS_nil ?_
    refine QH_seq_k hK6 ?_
    refine wpC_ret ?_
    refine QH_ret rfl (RV.tmp rfl RV.nil) rfl ?_
    obtain rfl := Option.some.inj H
    replace hS := hS.cut 0
    exact ⟨rfl, hS⟩
  replace H := cond_t H hb
  refine wpS_put rfl rfl rfl (yv_fieldAddr fo_26_2 rfl) ?_
  refine wpS_put rfl rfl rfl (yv_load_box sc_3 rfl (RW.here _) hS hs1 trivial sg6_1) ?_
  refine wpS_put rfl rfl rfl (yv_fieldAddr fo_26_2 rfl) ?_
  refine wpS_put rfl rfl rfl (yv_load_box sc_3 rfl (RW.here _) hS hs0 trivial sg6_1) ?_
  refine wpS_put rfl rfl rfl (yv_eql rfl rfl) ?_
  refine wpS_quick 2 rfl ?_
  refine wpS_case 17 rfl (fun hb => ?_) (fun hb => ?_)
  rotate_left
  · replace H := cond_f H hb
    refine wpS_quick 14 rfl ?_
    refine wpS_nil ?_
    refine QH_seq_k hK6 ?_
    refine wpC_ret ?_
    refine QH_ret rfl (RV.tmp rfl RV.nil) rfl ?_
    obtain rfl := Option.some.inj H
    replace hS := hS.cut 0
    exact ⟨rfl, hS⟩
  replace H := cond_t H hb
  refine wpS_put rfl rfl rfl (yv_fieldAddr fo_26_3 rfl) ?_
  refine wpS_put rfl rfl rfl (yv_load_box sc_3 rfl (RW.here _) hS hs1 trivial sg7_1) ?_
  refine wpS_put rfl rfl rfl (yv_fieldAddr fo_26_3 rfl) ?_
  refine wpS_put rfl rfl rfl (yv_load_box sc_3 rfl (RW.here _) hS hs0 trivial sg7_1) ?_
  refine wpS_put rfl rfl rfl (yv_eql rfl rfl) ?_
  refine wpS_quick 2 rfl ?_
  refine wpS_case 24 rfl (fun hb => ?_) (fun hb => ?_)
  rotate_left
  · replace H := cond_f H hb
    refine wpS_quick 7 rfl ?_
    refine wpS_nil ?_
    refine QH_seq_k hK6 ?_
    refine wpC_ret ?_
    refine QH_ret rfl (RV.tmp rfl RV.nil) rfl ?_
    obtain rfl := Option.some.inj H
    replace hS := hS.cut 0
    exact ⟨rfl, hS⟩
  replace H := cond_t H hb
  refine wpS_put rfl rfl rfl (yv_fieldAddr fo_26_1 rfl) ?_
  refine wpS_put rfl rfl rfl (yv_load_box sc_24 rfl (RW.here _) hS hs1 trivial sg5_1) ?_
  refine wpS_put rfl rfl rfl (yv_fieldAddr fo_26_1 rfl) ?_
  refine wpS_put rfl rfl rfl (yv_load_box sc_24 rfl (RW.here _) hS hs0 trivial sg5_1) ?_
  obtain ⟨r7, hm8, H⟩ := bind_some H
  refine wpS_call rfl rfl rfl rfl (by kernel_rfl) rfl (c_ref06_Same x0.log x1.log A0_ c0_ A1_ c1_ _ (SlI.of_rd s0_.k (hS.rd0 s0_.rd) (hS.blk0 s0_.blk)) (SlI.of_rd s1_.k (hS.rd0 s1_.rd) (hS.blk0 s1_.blk)) hm8) ?_
  rintro e w ⟨rfl, hN⟩; refine ⟨_, rfl, ?_⟩; have hB := hN.pure; have hS := hS.join hN; clear hN
  refine wpS_quick 2 rfl ?_
  refine wpS_nil ?_
  refine QH_seq_k hK6 ?_
  refine wpC_ret ?_
  refine QH_ret rfl (RV.tmp rfl RV.nil) rfl ?_
  obtain rfl := Option.some.inj H
  replace hS := hS.cut 0
  exact ⟨rfl, hS⟩
theorem c_ref12_Great (x0 : Tu) (A0_ : Option Addr) (c0_ : Nat) (w0 : World) (s0_ : SlI w0 enE A0_ c0_ x0.log) {r : Bool} (H : m_ref12_Great x0 = some r) : Calls Try.prog 55 #[.agg #[.int .i64 x0.snap.index, .int .i64 x0.snap.term, .int .i64 x0.snap.sum, .int .i64 x0.snap.level, .bool x0.snap.final, .slice A0_ x0.log.length c0_, .int .i64 x0.term, .int .i64 x0.vote]] w0 fun e w' => e = .returned (.bool r) ∧ St0 All w0 w' [] := by
  unfold m_ref12_Great at H
  refine gw_enter1 Try.func55 rfl Try.ntmps55 rfl ?_
  have hS := St0.start All w0
  refine wpC_seq_k (fun K hK1 => ?_)
  refine wpC_region ?_
  refine wpS_box rfl rfl rfl CellsOf.agg hS (fun b2 w hS hB => ?_)
  refine wpS_quick 1 rfl ?_
  refine wpS_nil ?_
  refine QH_seq_k hK1 ?_
  refine wpC_seq_k (fun K hK4 => ?_)
  refine wpC_region ?_
  refine wpS_put rfl rfl rfl (yv_fieldAddr fo_26_1 rfl) ?_
  refine wpS_put rfl rfl rfl (yv_load_box sc_24 rfl (RW.here _) hS hs0 trivial sg5_1) ?_
  refine wpS_put rfl rfl rfl (yv_len el_24 rfl) ?_
  refine wpS_put rfl rfl rfl (yv_gtr rfl rfl) ?_
  refine wpS_quick 1 rfl ?_
  refine wpS_nil ?_
  refine QH_seq_k hK4 ?_
  refine wpC_ret ?_
  refine QH_ret rfl (RV.tmp rfl RV.nil) rfl ?_
  obtain rfl := Option.some.inj H
  replace hS := hS.cut 0
  exact ⟨rfl, hS⟩
theorem c_ref20_Great (x0 : Co) (A0_ : Option Addr) (c0_ : Nat) (A1_ : Option Addr) (c1_ : Nat) (A2_ : Option Addr) (c2_ : Nat) (A3_ : Option Addr) (c3_ : Nat) (A4_ : Option Addr) (c4_ : Nat) (w0 : World) (s0_ : SlI w0 enE A0_ c0_ x0.tuple.log) (s1_ : SlI w0 enO A1_ c1_ x0.votes) (s2_ : SlI w0 enI A2_ c2_ x0.next) (s3_ : SlI w0 enI A3_ c3_ x0.mtch) (s4_ : SlI w0 enI A4_ c4_ x0.caps) {r : Bool} (H : m_ref20_Great x0 = some r) : Calls Try.prog 17 #[.agg #[.int .i64 x0.id, .int .i64 x0.n, .int .u8 x0.role, .int .i64 x0.binary, .int .i64 x0.tuple.snap.index, .int .i64 x0.tuple.snap.term, .int .i64 x0.tuple.snap.sum, .int .i64 x0.tuple.snap.level, .bool x0.tuple.snap.final, .slice A0_ x0.tuple.log.length c0_, .int .i64 x0.tuple.term, .int .i64 x0.tuple.vote, .int .i64 x0.commit, .int .i64 x0.applied.index, .int .i64 x0.applied.term, .int .i64 x0.applied.sum, .int .i64 x0.applied.level, .bool x0.applied.final, .slice A1_ x0.votes.length c1_, .slice A2_ x0.next.length c2_, .slice A3_ x0.mtch.length c3_, .slice A4_ x0.caps.length c4_]] w0 fun e w' => e = .returned (.bool r) ∧ St0 All w0 w' [] := by
  unfold m_ref20_Great at H
  refine gw_enter1 Try.func17 rfl Try.ntmps17 rfl ?_
  have hS := St0.start All w0
  refine wpC_seq_k (fun K hK1 => ?_)
  refine wpC_region ?_
  refine wpS_box rfl rfl rfl CellsOf.agg hS (fun b2 w hS hB => ?_)
  refine wpS_quick 1 rfl ?_
  refine wpS_nil ?_
  refine QH_seq_k hK1 ?_
  refine wpC_seq_k (fun K hK4 => ?_)
  refine wpC_region ?_
  refine wpS_put rfl rfl rfl (yv_fieldAddr fo_32_4 rfl) ?_
  refine wpS_put rfl rfl rfl (yv_load_boxA ag_26 rfl (RW.here _) hS hs0 trivial sg4_8) ?_
  obtain ⟨r5, hm6, H⟩ := bind_some H
  refine wpS_call rfl rfl rfl rfl (by kernel_rfl) rfl (c_ref12_Great x0.tuple A0_ c0_ _ (SlI.of_rd s0_.k (hS.rd0 s0_.rd) (hS.blk0 s0_.blk)) hm6) ?_
  rintro e w ⟨rfl, hN⟩; refine ⟨_, rfl, ?_⟩; have hB := hN.pure; have hS := hS.join hN; clear hN
  refine wpS_quick 1 rfl ?_
  refine wpS_case 6 rfl (fun hb => ?_) (fun hb => ?_)
  · replace H := cond_t H hb
    refine wpS_quick 38 rfl ?_
    refine wpS_nil ?_
    refine QH_seq_k hK4 ?_
    refine wpC_ret ?_
    refine QH_ret rfl (RV.tmp rfl RV.nil) rfl ?_
    obtain rfl := Option.some.inj H
    replace hS := hS.cut 0
    exact ⟨rfl, hS⟩
  replace H := cond_f H hb
  refine wpS_put rfl rfl rfl (yv_fieldAddr fo_32_7 rfl) ?_
  refine wpS_put rfl rfl rfl (yv_load_box sc_29 rfl (RW.here _) hS hs0 trivial sg18_1) ?_
  refine wpS_put rfl rfl rfl (yv_len el_29 rfl) ?_
  refine wpS_put rfl rfl rfl (yv_gtr rfl rfl) ?_
  refine wpS_quick 2 rfl ?_
  refine wpS_case 12 rfl (fun hb => ?_) (fun hb => ?_)
  · replace H := cond_t H hb
    refine wpS_quick 32 rfl ?_
    refine wpS_nil ?_
    refine QH_seq_k hK4 ?_
    refine wpC_ret ?_
    refine QH_ret rfl (RV.tmp rfl RV.nil) rfl ?_
    obtain rfl := Option.some.inj H
    replace hS := hS.cut 0
    exact ⟨rfl, hS⟩
  replace H := cond_f H hb
  refine wpS_put rfl rfl rfl (yv_fieldAddr fo_32_8 rfl) ?_
  refine wpS_put rfl rfl rfl (yv_load_box sc_30 rfl (RW.here _) hS hs0 trivial sg19_1) ?_
  refine wpS_put rfl rfl rfl (yv_len el_30 rfl) ?_
  refine wpS_put rfl rfl rfl (yv_gtr rfl rfl) ?_
  refine wpS_quick 2 rfl ?_
  refine wpS_case 18 rfl (fun hb => ?_) (fun hb => ?_)
  · replace H := cond_t H hb
    refine wpS_quick 26 rfl ?_
    refine wpS_nil ?_
    refine QH_seq_k hK4 ?_
    refine wpC_ret ?_
    refine QH_ret rfl (RV.tmp rfl RV.nil) rfl ?_
    obtain rfl := Option.some.inj H
    replace hS := hS.cut 0
    exact ⟨rfl, hS⟩
  replace H := cond_f H hb
  refine wpS_put rfl rfl rfl (yv_fieldAddr fo_32_9 rfl) ?_
  refine wpS_put rfl rfl rfl (yv_load_box sc_30 rfl (RW.here _) hS hs0 trivial sg20_1) ?_
  refine wpS_put rfl rfl rfl (yv_len el_30 rfl) ?_
  refine wpS_put rfl rfl rfl (yv_gtr rfl rfl) ?_
  refine wpS_quick 2 rfl ?_
  refine wpS_case 24 rfl (fun hb => ?_) (fun hb => ?_)
  · replace H := cond_t H hb
    refine wpS_quick 20 rfl ?_
    refine wpS_nil ?_
    refine QH_seq_k hK4 ?_
    refine wpC_ret ?_
    refine QH_ret rfl (RV.tmp rfl RV.nil) rfl ?_
    obtain rfl := Option.some.inj H
    replace hS := hS.cut 0
    exact ⟨rfl, hS⟩
  replace H := cond_f H hb
  refine wpS_put rfl rfl rfl (yv_fieldAddr fo_32_10 rfl) ?_
  refine wpS_put rfl rfl rfl (yv_load_box sc_30 rfl (RW.here _) hS hs0 trivial sg21_1) ?_
  refine wpS_put rfl rfl rfl (yv_len el_30 rfl) ?_
  refine wpS_put rfl rfl rfl (yv_gtr rfl rfl) ?_
  refine wpS_quick 2 rfl ?_
  refine wpS_case 30 rfl (fun hb => ?_) (fun hb => ?_)
  · replace H := cond_t H hb
    refine wpS_quick 14 rfl ?_
    refine wpS_nil ?_
    refine QH_seq_k hK4 ?_
    refine wpC_ret ?_
    refine QH_ret rfl (RV.tmp rfl RV.nil) rfl ?_
    obtain rfl := Option.some.inj H
    replace hS := hS.cut 0
    exact ⟨rfl, hS⟩
  replace H := cond_f H hb
  refine wpS_put rfl rfl rfl (yv_fieldAddr fo_32_4 rfl) ?_
  refine wpS_put rfl rfl rfl (yv_fieldAddr fo_26_0 rfl) ?_
  refine wpS_put rfl rfl rfl (yv_fieldAddr fo_23_0 rfl) ?_
  refine wpS_put rfl rfl rfl (yv_load_box sc_3 rfl (RW.here _) hS hs0 trivial sg4_1) ?_
  refine wpS_put rfl rfl rfl (yv_gtr rfl rfl) ?_
  refine wpS_quick 2 rfl ?_
  refine wpS_case 37 rfl (fun hb => ?_) (fun hb => ?_)
  · replace H := cond_t H hb
    refine wpS_quick 7 rfl ?_
    refine wpS_nil ?_
    refine QH_seq_k hK4 ?_
    refine wpC_ret ?_
    refine QH_ret rfl (RV.tmp rfl RV.nil) rfl ?_
    obtain rfl := Option.some.inj H
    replace hS := hS.cut 0
    exact ⟨rfl, hS⟩
  replace H := cond_f H hb
  refine wpS_put rfl rfl rfl (yv_fieldAddr fo_32_4 rfl) ?_
  refine wpS_put rfl rfl rfl (yv_fieldAddr fo_26_0 rfl) ?_
  refine wpS_put rfl rfl rfl (yv_fieldAddr fo_23_0 rfl) ?_
  refine wpS_put rfl rfl rfl (yv_load_box sc_3 rfl (RW.here _) hS hs0 trivial sg4_1) ?_
  refine wpS_put rfl rfl rfl (yv_lss rfl rfl) ?_
  refine wpS_quick 2 rfl ?_
  refine wpS_nil ?_
  refine QH_seq_k hK4 ?_
  refine wpC_ret ?_
  refine QH_ret rfl (RV.tmp rfl RV.nil) rfl ?_
  obtain rfl := Option.some.inj H
  replace hS := hS.cut 0
  exact ⟨rfl, hS⟩
theorem c_law21_great (x0 : Co) (x1 : Ms) (A0_ : Option Addr) (c0_ : Nat) (A1_ : Option Addr) (c1_ : Nat) (A2_ : Option Addr) (c2_ : Nat) (A3_ : Option Addr) (c3_ : Nat) (A4_ : Option Addr) (c4_ : Nat) (A5_ : Option Addr) (c5_ : Nat) (w0 : World) (s0_ : SlI w0 enE A0_ c0_ x0.tuple.log) (s1_ : SlI w0 enO A1_ c1_ x0.votes) (s2_ : SlI w0 enI A2_ c2_ x0.next) (s3_ : SlI w0 enI A3_ c3_ x0.mtch) (s4_ : SlI w0 enI A4_ c4_ x0.caps) (s5_ : SlI w0 enE A5_ c5_ x1.entries) {r : Bool} (H : m_law21_great x0 x1 = some r) : Calls Try.prog 25 #[.agg #[.int .i64 x0.id, .int .i64 x0.n, .int .u8 x0.role, .int .i64 x0.binary, .int .i64 x0.tuple.snap.index, .int .i64 x0.tuple.snap.term, .int .i64 x0.tuple.snap.sum, .int .i64 x0.tuple.snap.level, .bool x0.tuple.snap.final, .slice A0_ x0.tuple.log.length c0_, .int .i64 x0.tuple.term, .int .i64 x0.tuple.vote, .int .i64 x0.commit, .int .i64 x0.applied.index, .int .i64 x0.applied.term, .int .i64 x0.applied.sum, .int .i64 x0.applied.level, .bool x0.applied.final, .slice A1_ x0.votes.length c1_, .slice A2_ x0.next.length c2_, .slice A3_ x0.mtch.length c3_, .slice A4_ x0.caps.length c4_], .agg #[.int .u8 x1.kind, .int .i64 x1.frm, .int .i64 x1.dst, .int .i64 x1.term, .int .i64 x1.cap, .int .i64 x1.last, .int .i64 x1.lastTerm, .int .i64 x1.commit, .bool x1.okk, .slice A5_ x1.entries.length c5_, .int .i64 x1.snap.index, .int .i64 x1.snap.term, .int .i64 x1.snap.sum, .int .i64 x1.snap.level, .bool x1.snap.final]] w0 fun e w' => e = .returned (.bool r) ∧ St0 All w0 w' [] := by
  unfold m_law21_great at H
  refine gw_enter2 Try.func25 rfl Try.ntmps25 rfl ?_
  have hS := St0.start All w0
  refine wpC_seq_k (fun K hK1 => ?_)
  refine wpC_region ?_
  refine wpS_box rfl rfl rfl CellsOf.agg hS (fun b2 w hS hB => ?_)
  refine wpS_box rfl rfl rfl CellsOf.agg hS (fun b4 w hS hB => ?_)
  refine wpS_quick 1 rfl ?_
  refine wpS_nil ?_
  refine QH_seq_k hK1 ?_
  refine wpC_seq_k (fun K hK6 => ?_)
  refine wpC_region ?_
  refine wpS_put rfl rfl rfl (yv_load_boxA ag_32 rfl (RW.here _) hS hs1 trivial sg0_22) ?_
  obtain ⟨r7, hm8, H⟩ := bind_some H
  refine wpS_call rfl rfl rfl rfl (by kernel_rfl) rfl (c_ref20_Great x0 A0_ c0_ A1_ c1_ A2_ c2_ A3_ c3_ A4_ c4_ _ (SlI.of_rd s0_.k (hS.rd0 s0_.rd) (hS.blk0 s0_.blk)) (SlI.of_rd s1_.k (hS.rd0 s1_.rd) (hS.blk0 s1_.blk)) (SlI.of_rd s2_.k (hS.rd0 s2_.rd) (hS.blk0 s2_.blk)) (SlI.of_rd s3_.k (hS.rd0 s3_.rd) (hS.blk0 s3_.blk)) (SlI.of_rd s4_.k (hS.rd0 s4_.rd) (hS.blk0 s4_.blk)) hm8) ?_
  rintro e w ⟨rfl, hN⟩; refine ⟨_, rfl, ?_⟩; have hB := hN.pure; have hS := hS.join hN; clear hN
  refine wpS_quick 1 rfl ?_
  refine wpS_case 7 rfl (fun hb => ?_) (fun hb => ?_)
  · replace H := cond_t H hb
    refine wpS_quick 6 rfl ?_
    refine wpS_nil ?_
    refine QH_seq_k hK6 ?_
    refine wpC_ret ?_
    refine QH_ret rfl (RV.tmp rfl RV.nil) rfl ?_
    obtain rfl := Option.some.inj H
    replace hS := hS.cut 0
    exact ⟨rfl, hS⟩
  replace H := cond_f H hb
  refine wpS_put rfl rfl rfl (yv_fieldAddr fo_39_9 rfl) ?_
  refine wpS_put rfl rfl rfl (yv_load_box sc_24 rfl (RW.here _) hS hs0 trivial sg9_1) ?_
  refine wpS_put rfl rfl rfl (yv_len el_24 rfl) ?_
  refine wpS_put rfl rfl rfl (yv_gtr rfl rfl) ?_
  refine wpS_quick 2 rfl ?_
  refine wpS_nil ?_
  refine QH_seq_k hK6 ?_
  refine wpC_ret ?_
  refine QH_ret rfl (RV.tmp rfl RV.nil) rfl ?_
  obtain rfl := Option.some.inj H
  replace hS := hS.cut 0
  exact ⟨rfl, hS⟩
theorem c_ref12_Own (x0 : Tu) (A0_ : Option Addr) (c0_ : Nat) (w0 : World) (s0_ : SlI w0 enE A0_ c0_ x0.log) {r : Tu} (H : m_ref12_Own x0 = some r) : Calls Try.prog 64 #[.agg #[.int .i64 x0.snap.index, .int .i64 x0.snap.term, .int .i64 x0.snap.sum, .int .i64 x0.snap.level, .bool x0.snap.final, .slice A0_ x0.log.length c0_, .int .i64 x0.term, .int .i64 x0.vote]] w0 fun e w' => ∃ (A0 : Option Addr) (c0 : Nat), e = .returned (.agg #[.int .i64 r.snap.index, .int .i64 r.snap.term, .int .i64 r.snap.sum, .int .i64 r.snap.level, .bool r.snap.final, .slice A0 r.log.length c0, .int .i64 r.term, .int .i64 r.vote]) ∧ (r.log.length ≤ c0 ∧ c0 ≤ maxLen) ∧ St0 All w0 w' [.row (.slice A0 r.log.length c0) 47 3 r.log.length (encs enE r.log)] := by
  unfold m_ref12_Own at H
  refine gw_enter1 Try.func64 rfl Try.ntmps64 rfl ?_
  have hS := St0.start All w0
  refine wpC_seq_k (fun K hK1 => ?_)
  refine wpC_region ?_
  refine wpS_box rfl rfl rfl CellsOf.agg hS (fun b2 w hS hB => ?_)
  refine wpS_alloc rfl rfl zc_26 hS (fun b4 w hS hB => ?_)
  refine wpS_nil ?_
  refine QH_seq_k hK1 ?_
  refine wpC_seq_k (fun K hK6 => ?_)
  refine wpC_region ?_
  refine wpS_slice0 el_24 rfl rfl hS (fun b7 w hS hB => ?_)
  refine wpS_put rfl rfl rfl (yv_fieldAddr fo_26_1 rfl) ?_
  refine wpS_put rfl rfl rfl (yv_load_box sc_24 rfl (RW.here _) hS hs2 trivial sg5_1) ?_
  obtain ⟨l9, hf10, H⟩ := bind_some H
  refine wpX_append (ys := x0.log) he_enE oc_enE em_24 (by decide) rfl rfl rfl rfl hS (fun _ => ps0) (hS.rd0 s0_.rd) hf10 (fun A11 c12 w k13 hS => ?_)
  refine wpS_put rfl rfl rfl (yv_fieldAddr fo_26_1 rfl) ?_
  refine wpS_store rfl rfl rfl CellsOf.slice hS ps2 st5_1 (by kernel_rfl) rfl (fun w hS hB => ?_)
  refine wpS_nil ?_
  refine QH_seq_k hK6 ?_
  refine wpC_seq_k (fun K hK14 => ?_)
  refine wpC_region ?_
  refine wpS_put rfl rfl rfl (yv_load_boxA ag_26 rfl (RW.here _) hS hs2 trivial sg0_8) ?_
  refine wpS_store rfl rfl rfl CellsOf.agg hS ps1 st0_8 (by kernel_rfl) rfl (fun w hS hB => ?_)
  refine wpS_nil ?_
  refine QH_seq_k hK14 ?_
  refine wpC_ret ?_
  refine QH_ret rfl (RV.cell rfl (load_boxA ag_26 hS hs1 sg0_8) RV.nil) rfl ?_
  obtain rfl := Option.some.inj H
  have hS := hS.front 0 rfl
  replace hS := hS.cut 1
  exact ⟨A11, c12, rfl, k13, hS⟩
theorem c_ref20_New (x0 : Int) (x1 : Int) (x2 : Int) (x3 : Tu) (A0_ : Option Addr) (c0_ : Nat) (w0 : World) (s0_ : SlI w0 enE A0_ c0_ x3.log) {r : Co} (H : m_ref20_New x0 x1 x2 x3 = some r) : Calls Try.prog 63 #[.int .i64 x0, .int .i64 x1, .int .i64 x2, .agg #[.int .i64 x3.snap.index, .int .i64 x3.snap.term, .int .i64 x3.snap.sum, .int .i64 x3.snap.level, .bool x3.snap.final, .slice A0_ x3.log.length c0_, .int .i64 x3.term, .int .i64 x3.vote]] w0 fun e w' => ∃ (A0 : Option Addr) (c0 : Nat) (A1 : Option Addr) (c1 : Nat) (A2 : Option Addr) (c2 : Nat) (A3 : Option Addr) (c3 : Nat) (A4 : Option Addr) (c4 : Nat), e = .returned (.agg #[.int .i64 r.id, .int .i64 r.n, .int .u8 r.role, .int .i64 r.binary, .int .i64 r.tuple.snap.index, .int .i64 r.tuple.snap.term, .int .i64 r.tuple.snap.sum, .int .i64 r.tuple.snap.level, .bool r.tuple.snap.final, .slice A0 r.tuple.log.length c0, .int .i64 r.tuple.term, .int .i64 r.tuple.vote, .int .i64 r.commit, .int .i64 r.applied.index, .int .i64 r.applied.term, .int .i64 r.applied.sum, .int .i64 r.applied.level, .bool r.applied.final, .slice A1 r.votes.length c1, .slice A2 r.next.length c2, .slice A3 r.mtch.length c3, .slice A4 r.caps.length c4]) ∧ (r.tuple.log.length ≤ c0 ∧ c0 ≤ maxLen) ∧ (r.votes.length ≤ c1 ∧ c1 ≤ maxLen) ∧ (r.next.length ≤ c2 ∧ c2 ≤ maxLen) ∧ (r.mtch.length ≤ c3 ∧ c3 ≤ maxLen) ∧ (r.caps.length ≤ c4 ∧ c4 ≤ maxLen) ∧ St0 All w0 w' [.row (.slice A0 r.tuple.log.length c0) 47 3 r.tuple.log.length (encs enE r.tuple.log), .row (.slice A1 r.votes.length c1) 4 1 r.votes.length (encs enO r.votes), .row (.slice A2 r.next.length c2) 3 1 r.next.length (encs enI r.next), .row (.slice A3 r.mtch.length c3) 3 1 r.mtch.length (encs enI r.mtch), .row (.slice A4 r.caps.length c4) 3 1 r.caps.length (encs enI r.caps)] := by
  unfold m_ref20_New at H
  refine gw_enter4 Try.func63 rfl Try.ntmps63 rfl ?_
  have hS := St0.start All w0
  refine wpC_seq_k (fun K hK1 => ?_)
  refine wpC_region ?_
  refine wpS_box rfl rfl rfl CellsOf.agg hS (fun b2 w hS hB => ?_)
  refine wpS_alloc rfl rfl zc_32 hS (fun b4 w hS hB => ?_)
  refine wpS_nil ?_
  refine QH_seq_k hK1 ?_
  refine wpC_seq_k (fun K hK6 => ?_)
  refine wpC_seq_k (fun K hK7 => ?_)
  refine wpC_region ?_
  refine wpS_quick 1 rfl ?_
  refine wpS_put rfl rfl rfl (yv_lss rfl rfl) ?_
  refine wpS_quick 1 rfl ?_
  refine wpS_case 13 rfl (fun hb => ?_) (fun hb => ?_)
  · replace H := cond_t H hb
    refine wpS_quick 12 rfl ?_
    refine wpS_nil ?_
    refine QH_seq_k hK7 ?_
    refine wpC_cond_t rfl rfl ?_
    refine wpC_seq_k (fun K hK8 => ?_)
    refine wpC_region ?_
    refine wpS_put rfl rfl rfl (yv_build (cells := [.int .i64 0, .int .i64 0, .int .u8 0, .int .i64 0, .int .i64 0, .int .i64 0, .int .i64 0, .int .i64 0, .bool false, .slice none 0 0, .int .i64 0, .int .i64 0, .int .i64 0, .int .i64 0, .int .i64 0, .int .i64 0, .int .i64 0, .bool false, .slice none 0 0, .slice none 0 0, .slice none 0 0, .slice none 0 0]) rfl (by kernel_rfl)) ?_
    refine wpS_store rfl rfl rfl CellsOf.agg hS ps0 st0_22 (by kernel_rfl) rfl (fun w hS hB => ?_)
    refine wpS_nil ?_
    refine QH_seq_k hK8 ?_
    refine wpC_ret ?_
    refine QH_then_ret ?_
    refine QH_ret rfl (RV.cell rfl (load_boxA ag_32 hS hs0 sg0_22) RV.nil) rfl ?_
    obtain rfl := Option.some.inj H
    have hS := hS.nilRow 3 1
    have hS := hS.nilRow 3 1
    have hS := hS.nilRow 3 1
    have hS := hS.nilRow 4 1
    have hS := hS.nilRow 47 3
    replace hS := hS.cut 5
    exact ⟨none, 0, none, 0, none, 0, none, 0, none, 0, rfl, ⟨Nat.le_refl _, Nat.zero_le _⟩, ⟨Nat.le_refl _, Nat.zero_le _⟩, ⟨Nat.le_refl _, Nat.zero_le _⟩, ⟨Nat.le_refl _, Nat.zero_le _⟩, ⟨Nat.le_refl _, Nat.zero_le _⟩, hS⟩
  replace H := cond_f H hb
  refine wpS_quick 1 rfl ?_
  refine wpS_put rfl rfl rfl (yv_gtr rfl rfl) ?_
  refine wpS_quick 2 rfl ?_
  refine wpS_case 17 rfl (fun hb => ?_) (fun hb => ?_)
  · replace H := cond_t H hb
    refine wpS_quick 8 rfl ?_
    refine wpS_nil ?_
    refine QH_seq_k hK7 ?_
    refine wpC_cond_t rfl rfl ?_
    refine wpC_seq_k (fun K hK9 => ?_)
    refine wpC_region ?_
    refine wpS_put rfl rfl rfl (yv_build (cells := [.int .i64 0, .int .i64 0, .int .u8 0, .int .i64 0, .int .i64 0, .int .i64 0, .int .i64 0, .int .i64 0, .bool false, .slice none 0 0, .int .i64 0, .int .i64 0, .int .i64 0, .int .i64 0, .int .i64 0, .int .i64 0, .int .i64 0, .bool false, .slice none 0 0, .slice none 0 0, .slice none 0 0, .slice none 0 0]) rfl (by kernel_rfl)) ?_
    refine wpS_store rfl rfl rfl CellsOf.agg hS ps0 st0_22 (by kernel_rfl) rfl (fun w hS hB => ?_)
    refine wpS_nil ?_
    refine QH_seq_k hK9 ?_
    refine wpC_ret ?_
    refine QH_then_ret ?_
    refine QH_ret rfl (RV.cell rfl (load_boxA ag_32 hS hs0 sg0_22) RV.nil) rfl ?_
    obtain rfl := Option.some.inj H
    have hS := hS.nilRow 3 1
    have hS := hS.nilRow 3 1
    have hS := hS.nilRow 3 1
    have hS := hS.nilRow 4 1
    have hS := hS.nilRow 47 3
    replace hS := hS.cut 5
    exact ⟨none, 0, none, 0, none, 0, none, 0, none, 0, rfl, ⟨Nat.le_refl _, Nat.zero_le _⟩, ⟨Nat.le_refl _, Nat.zero_le _⟩, ⟨Nat.le_refl _, Nat.zero_le _⟩, ⟨Nat.le_refl _, Nat.zero_le _⟩, ⟨Nat.le_refl _, Nat.zero_le _⟩, hS⟩
  replace H := cond_f H hb
  refine wpS_quick 1 rfl ?_
  refine wpS_put rfl rfl rfl (yv_lss rfl rfl) ?_
  refine wpS_quick 2 rfl ?_
  refine wpS_case 21 rfl (fun hb => ?_) (fun hb => ?_)
  · replace H := cond_t H hb
    refine wpS_quick 4 rfl ?_
    refine wpS_nil ?_
    refine QH_seq_k hK7 ?_
    refine wpC_cond_t rfl rfl ?_
    refine wpC_seq_k (fun K hK10 => ?_)
    refine wpC_region ?_
    refine wpS_put rfl rfl rfl (yv_build (cells := [.int .i64 0, .int .i64 0, .int .u8 0, .int .i64 0, .int .i64 0, .int .i64 0, .int .i64 0, .int .i64 0, .bool false, .slice none 0 0, .int .i64 0, .int .i64 0, .int .i64 0, .int .i64 0, .int .i64 0, .int .i64 0, .int .i64 0, .bool false, .slice none 0 0, .slice none 0 0, .slice none 0 0, .slice none 0 0]) rfl (by kernel_rfl)) ?_
    refine wpS_store rfl rfl rfl CellsOf.agg hS ps0 st0_22 (by kernel_rfl) rfl (fun w hS hB => ?_)
    refine wpS_nil ?_
    refine QH_seq_k hK10 ?_
    refine wpC_ret ?_
    refine QH_then_ret ?_
    refine QH_ret rfl (RV.cell rfl (load_boxA ag_32 hS hs0 sg0_22) RV.nil) rfl ?_
    obtain rfl := Option.some.inj H
    have hS := hS.nilRow 3 1
    have hS := hS.nilRow 3 1
    have hS := hS.nilRow 3 1
    have hS := hS.nilRow 4 1
    have hS := hS.nilRow 47 3
    replace hS := hS.cut 5
    exact ⟨none, 0, none, 0, none, 0, none, 0, none, 0, rfl, ⟨Nat.le_refl _, Nat.zero_le _⟩, ⟨Nat.le_refl _, Nat.zero_le _⟩, ⟨Nat.le_refl _, Nat.zero_le _⟩, ⟨Nat.le_refl _, Nat.zero_le _⟩, ⟨Nat.le_refl _, Nat.zero_le _⟩, hS⟩
  replace H := cond_f H hb
  refine wpS_quick 2 rfl ?_
  refine wpS_put rfl rfl rfl (yv_gtr rfl rfl) ?_
  refine wpS_quick 1 rfl ?_
  refine wpS_nil ?_
  refine QH_seq_k hK7 ?_
  refine wpC_cond rfl (fun hb => ?_) (fun hb => ?_)
  · replace H := cond_t H hb
    refine wpC_seq_k (fun K hK11 => ?_)
    refine wpC_region ?_
    refine wpS_put rfl rfl rfl (yv_build (cells := [.int .i64 0, .int .i64 0, .int .u8 0, .int .i64 0, .int .i64 0, .int .i64 0, .int .i64 0, .int .i64 0, .bool false, .slice none 0 0, .int .i64 0, .int .i64 0, .int .i64 0, .int .i64 0, .int .i64 0, .int .i64 0, .int .i64 0, .bool false, .slice none 0 0, .slice none 0 0, .slice none 0 0, .slice none 0 0]) rfl (by kernel_rfl)) ?_
    refine wpS_store rfl rfl rfl CellsOf.agg hS ps0 st0_22 (by kernel_rfl) rfl (fun w hS hB => ?_)
    refine wpS_nil ?_
    refine QH_seq_k hK11 ?_
    refine wpC_ret ?_
    refine QH_then_ret ?_
    refine QH_ret rfl (RV.cell rfl (load_boxA ag_32 hS hs0 sg0_22) RV.nil) rfl ?_
    obtain rfl := Option.some.inj H
    have hS := hS.nilRow 3 1
    have hS := hS.nilRow 3 1
    have hS := hS.nilRow 3 1
    have hS := hS.nilRow 4 1
    have hS := hS.nilRow 47 3
    replace hS := hS.cut 5
    exact ⟨none, 0, none, 0, none, 0, none, 0, none, 0, rfl, ⟨Nat.le_refl _, Nat.zero_le _⟩, ⟨Nat.le_refl _, Nat.zero_le _⟩, ⟨Nat.le_refl _, Nat.zero_le _⟩, ⟨Nat.le_refl _, Nat.zero_le _⟩, ⟨Nat.le_refl _, Nat.zero_le _⟩, hS⟩
  replace H := cond_f H hb
  refine wpC_skip ?_
  refine QH_seq_k hK6 ?_
  refine wpC_seq_k (fun K hK12 => ?_)
  refine wpC_draw 13 [12] (fun i b => (i = 12 → b = b4 ∨ b = b2)) ⟨by kernel_rfl, by kernel_rfl⟩ hS (fun w hS hB => ?_)
  refine wpRF_start [⟨11, 9, 32, [.int .i64 0, .int .i64 0, .int .u8 0, .int .i64 0, .int .i64 0, .int .i64 0, .int .i64 0, .int .i64 0, .bool false, .slice none 0 0, .int .i64 0, .int .i64 0, .int .i64 0, .int .i64 0, .int .i64 0, .int .i64 0, .int .i64 0, .bool false, .slice none 0 0, .slice none 0 0, .slice none 0 0, .slice none 0 0]⟩] (.cons rfl zc_32 rfl rfl rfl .nil) hS (fun hok => ?_)
  dsimp only [List.cons_append, List.nil_append]
  refine wpRF_batch [true, true, true, true, false, true, true, true, true, true] [] (fun _ => True) (by decide +kernel) (fun _ h => by cases h) (by repeat (first | exact PF.body | exact PF.round | apply PF.then | apply PF.inBlock | apply PF.jump)) (fun X Y tk ht w hS => ?_)
  refine LtK.put rfl rfl rfl (yv_move rfl) ?_
  refine LtK.put rfl rfl rfl (yv_move rfl) ?_
  refine LtK.put rfl rfl rfl (yv_move rfl) ?_
  refine LtK.put rfl rfl rfl (yv_load_boxA ag_26 rfl (RW.keepB _ _) hS hs1 trivial sg0_8) ?_
  refine LtK.put rfl rfl rfl (yv_fieldAddr fo_26_0 rfl) ?_
  refine LtK.put rfl rfl rfl (yv_fieldAddr fo_23_0 rfl) ?_
  refine LtK.put rfl rfl rfl (yv_load_box sc_3 rfl (RW.keepB _ _) hS hs1 trivial sg0_1) ?_
  refine LtK.put rfl rfl rfl (yv_fieldAddr fo_26_0 rfl) ?_
  refine LtK.put rfl rfl rfl (yv_load_boxA ag_23 rfl (RW.keepB _ _) hS hs1 trivial sg0_5) ?_
  refine LtK_F' ht hS (by repeat (first | exact App.nil | apply App.cons)) (by repeat (first | exact App.nil | apply App.cons)) ?_
  dsimp only [List.cons_append, List.nil_append]
  refine wpRF_call [false, false, false, false, true] 4 hok ⟨by decide, by decide +kernel, by decide, by decide⟩ rfl rfl (fun _ => rfl) (fun _ => rfl) rfl (hend_of (by decide +kernel)) (fun X Y tk ht w hS => ?_)
  dsimp only [pickL]
  obtain ⟨r13, hm14, H⟩ := bind_some H
  refine wpS_call rfl rfl rfl rfl (by kernel_rfl) rfl (c_ref12_Own x3 A0_ c0_ _ (SlI.of_rd s0_.k (hS.rd0 s0_.rd) (hS.blk0 s0_.blk)) hm14) ?_
  rintro e w ⟨A15, c16, rfl, k17, hN⟩; refine ⟨_, rfl, ?_⟩; have hB := hN.pure; have hS := hS.join hN; clear hN
  refine wpS_nil ?_
  refine QH_stepF' ht hS hB (by repeat (first | exact App.nil | apply App.cons)) (by repeat (first | exact App.nil | apply App.cons)) ?_
  dsimp only [List.cons_append, List.nil_append]
  refine wpRF_batch [false, false, false, false, false, false, false, false, false, false, true] [] (fun _ => True) (by decide +kernel) (fun _ h => by cases h) (by repeat (first | exact PF.body | exact PF.round | apply PF.then | apply PF.inBlock | apply PF.jump)) (fun X Y tk ht w hS => ?_)
  refine LtK.put rfl rfl rfl (yv_build (cells := [.int .i64 x0, .int .i64 x1, .int .u8 0, .int .i64 x2, .int .i64 r13.snap.index, .int .i64 r13.snap.term, .int .i64 r13.snap.sum, .int .i64 r13.snap.level, .bool r13.snap.final, .slice A15 r13.log.length c16, .int .i64 r13.term, .int .i64 r13.vote, .int .i64 x3.snap.index, .int .i64 x3.snap.index, .int .i64 x3.snap.term, .int .i64 x3.snap.sum, .int .i64 x3.snap.level, .bool x3.snap.final, .slice none 0 0, .slice none 0 0, .slice none 0 0, .slice none 0 0]) rfl (by kernel_rfl)) ?_
  refine LtK_F' ht hS (by repeat (first | exact App.nil | apply App.cons)) (by repeat (first | exact App.nil | apply App.cons)) ?_
  dsimp only [List.cons_append, List.nil_append]
  refine wpRF_done hok (by decide) (by decide +kernel) (fun _ => rfl) (fun _ => rfl) rfl (fun tk htk w hS => ?_)
  obtain ⟨b19, tkb19, rfl, htk21⟩ := tk_cons htk
  obtain rfl := tk_nil htk21
  dsimp only [tkH, tkL, List.map] at hS ⊢
  refine wpR_seal [false, false, false, false, false, false, false, false, false, false, false, false, true] 12 ⟨by decide, by kernel_rfl, by kernel_rfl⟩ rfl rfl ?_
  dsimp only [pickL]
  refine wpS_store rfl rfl rfl CellsOf.agg hS ps3 st0_22 (by kernel_rfl) rfl (fun w hS hB => ?_)
  refine wpS_nil ?_
  refine QH_stepG (hB.sub (fun b _ h => by have h0 : b = b4 ∨ b = b2 := (by simpa using h); rcases h0 with h0 | h0; (rw [h0]; exact hS.ne 1 3 rfl rfl rfl); (rw [h0]; exact hS.ne 2 3 rfl rfl rfl))) ?_
  refine wpR_end (by kernel_rfl) ?_
  refine QH_seq_k hK12 ?_
  refine wpC_seq_k (fun K hK22 => ?_)
  refine wpC_seq_k (fun K hK23 => ?_)
  refine wpC_region ?_
  refine wpS_quick 1 rfl ?_
  refine wpS_nil ?_
  refine QH_seq_k hK23 ?_
  refine wpC_block ?_
  replace hS := hS.nilRow 4 1
  replace hS := hS.nilRow 3 1
  replace hS := hS.nilRow 3 1
  replace hS := hS.nilRow 3 1
  refine wpC_loop (X := Nat × Int × List Bool × Option Addr × Nat × List Int × Option Addr × Nat × List Int × Option Addr × Nat × List Int × Option Addr × Nat) (fun x => (0, .int .i64 x0) :: (1, .int .i64 x1) :: (2, .int .i64 x2) :: (7, .pointer (some ⟨b2, 0, none⟩)) :: (8, .pointer (some ⟨b4, 0, none⟩)) :: (9, .pointer (some ⟨b19, 0, none⟩)) :: (10, .int .i64 x.2.1) :: []) (fun x w => St0 All w0 w (.row (.slice x.2.2.2.2.2.2.2.2.2.2.2.2.1 x.2.2.2.2.2.2.2.2.2.2.2.1.length x.2.2.2.2.2.2.2.2.2.2.2.2.2) 3 1 x.2.2.2.2.2.2.2.2.2.2.2.1.length (encs enI x.2.2.2.2.2.2.2.2.2.2.2.1) :: .row (.slice x.2.2.2.2.2.2.2.2.2.1 x.2.2.2.2.2.2.2.2.1.length x.2.2.2.2.2.2.2.2.2.2.1) 3 1 x.2.2.2.2.2.2.2.2.1.length (encs enI x.2.2.2.2.2.2.2.2.1) :: .row (.slice x.2.2.2.2.2.2.1 x.2.2.2.2.2.1.length x.2.2.2.2.2.2.2.1) 3 1 x.2.2.2.2.2.1.length (encs enI x.2.2.2.2.2.1) :: .row (.slice x.2.2.2.1 x.2.2.1.length x.2.2.2.2.1) 4 1 x.2.2.1.length (encs enO x.2.2.1) :: .row (.slice A15 r13.log.length c16) 47 3 r13.log.length (encs enE r13.log) :: .box b4 [.int .i64 0, .int .i64 0, .int .u8 0, .int .i64 0, .int .i64 0, .int .i64 0, .int .i64 0, .int .i64 0, .bool false, .slice none 0 0, .int .i64 0, .int .i64 0, .int .i64 0, .int .i64 0, .int .i64 0, .int .i64 0, .int .i64 0, .bool false, .slice none 0 0, .slice none 0 0, .slice none 0 0, .slice none 0 0] 32 :: .box b2 [.int .i64 x3.snap.index, .int .i64 x3.snap.term, .int .i64 x3.snap.sum, .int .i64 x3.snap.level, .bool x3.snap.final, .slice A0_ x3.log.length c0_, .int .i64 x3.term, .int .i64 x3.vote] 26 :: .box b19 [.int .i64 x0, .int .i64 x1, .int .u8 0, .int .i64 x2, .int .i64 r13.snap.index, .int .i64 r13.snap.term, .int .i64 r13.snap.sum, .int .i64 r13.snap.level, .bool r13.snap.final, .slice A15 r13.log.length c16, .int .i64 r13.term, .int .i64 r13.vote, .int .i64 x3.snap.index, .int .i64 x3.snap.index, .int .i64 x3.snap.term, .int .i64 x3.snap.sum, .int .i64 x3.snap.level, .bool x3.snap.final, .slice x.2.2.2.1 x.2.2.1.length x.2.2.2.2.1, .slice x.2.2.2.2.2.2.1 x.2.2.2.2.2.1.length x.2.2.2.2.2.2.2.1, .slice x.2.2.2.2.2.2.2.2.2.1 x.2.2.2.2.2.2.2.2.1.length x.2.2.2.2.2.2.2.2.2.2.1, .slice x.2.2.2.2.2.2.2.2.2.2.2.2.1 x.2.2.2.2.2.2.2.2.2.2.2.1.length x.2.2.2.2.2.2.2.2.2.2.2.2.2] 32 :: []) ∧ (x.2.2.1.length ≤ x.2.2.2.2.1 ∧ x.2.2.2.2.1 ≤ maxLen) ∧ (x.2.2.2.2.2.1.length ≤ x.2.2.2.2.2.2.2.1 ∧ x.2.2.2.2.2.2.2.1 ≤ maxLen) ∧ (x.2.2.2.2.2.2.2.2.1.length ≤ x.2.2.2.2.2.2.2.2.2.2.1 ∧ x.2.2.2.2.2.2.2.2.2.2.1 ≤ maxLen) ∧ (x.2.2.2.2.2.2.2.2.2.2.2.1.length ≤ x.2.2.2.2.2.2.2.2.2.2.2.2.2 ∧ x.2.2.2.2.2.2.2.2.2.2.2.2.2 ≤ maxLen) ∧ m_ref20_New_l1 x0 x1 x2 x3 r13 x.1 x.2.1 x.2.2.1 x.2.2.2.2.2.1 x.2.2.2.2.2.2.2.2.1 x.2.2.2.2.2.2.2.2.2.2.2.1 = some r) (fun x => x.1) (fuelN, 1, [], none, 0, [], none, 0, [], none, 0, [], none, 0) (by repeat (first | exact Sub.nil | refine Sub.cons rfl ?_)) ⟨hS, ⟨Nat.le_refl _, Nat.zero_le _⟩, ⟨Nat.le_refl _, Nat.zero_le _⟩, ⟨Nat.le_refl _, Nat.zero_le _⟩, ⟨Nat.le_refl _, Nat.zero_le _⟩, H⟩ ?_
  rintro ⟨n, v24, v25, A26, c27, v30, A31, c32, v35, A36, c37, v40, A41, c42⟩ w ⟨hS, k28, k33, k38, k43, H⟩
  dsimp only at hS k28 k33 k38 k43 H ⊢
  obtain _ | n := n
  · have H0 : none = some r := H
    cases H0
  rw [m_ref20_New_l1] at H
  refine wpC_seq_k (fun K hK45 => ?_)
  refine wpC_seq_k (fun K hK46 => ?_)
  refine wpC_region ?_
  refine wpS_quick 2 rfl ?_
  refine wpS_put rfl rfl rfl (yv_leq rfl rfl) ?_
  refine wpS_nil ?_
  refine QH_seq_k hK46 ?_
  refine wpC_cond rfl (fun hb => ?_) (fun hb => ?_)
  rotate_left
  · replace H := cond_f H hb
    refine wpC_exit ?_
    refine QH_then_exit ?_
    refine QH_then_exit ?_
    refine QH_block_hit ?_
    refine QH_seq_k hK22 ?_
    refine wpC_seq_k (fun K hK81 => ?_)
    refine wpC_region ?_
    refine wpS_put rfl rfl rfl (yv_fieldAddr fo_32_10 rfl) ?_
    refine wpS_put rfl rfl rfl (yv_load_box sc_30 rfl (RW.here _) hS hs7 trivial sg21_1) ?_
    refine wpS_quick 1 rfl ?_
    refine wpS_put rfl rfl rfl (yx_sub rfl rfl) ?_
    refine wpS_quick 1 rfl ?_
    obtain ⟨e82, hi84, H⟩ := bind_some H
    obtain ⟨j83, hi84a, hi84b, hi84c⟩ := idx_some hi84
    refine wpS_put rfl rfl rfl (yx_idx el_30 rfl rfl hi84a hi84c (Rd.el (hS.row_rd hs0) he_enI hi84b)) ?_
    refine wpX_storeR (a' := x2) (zs := (setI v40 (IntKind.wrap .i64 (x0 - 1)) x2)) he_enI rfl rfl rfl CellsOf.int hS ps0 (Rd.el (hS.row_rd hs0) he_enI hi84b) hi84a hi84b rfl st0_1 (by kernel_rfl) rfl (fun w hS => ?_)
    refine wpS_nil ?_
    refine QH_seq_k hK81 ?_
    refine wpC_seq_k (fun K hK85 => ?_)
    refine wpC_region ?_
    refine wpS_put rfl rfl rfl (yv_load_boxA ag_32 rfl (RW.here _) hS hs7 trivial sg0_22) ?_
    refine wpS_store rfl rfl rfl CellsOf.agg hS ps5 st0_22 (by kernel_rfl) rfl (fun w hS hB => ?_)
    refine wpS_nil ?_
    refine QH_seq_k hK85 ?_
    refine wpC_ret ?_
    refine QH_ret rfl (RV.cell rfl (load_boxA ag_32 hS hs5 sg0_22) RV.nil) rfl ?_
    obtain rfl := Option.some.inj H
    have hS := hS.front 0 rfl
    have hS := hS.front 1 rfl
    have hS := hS.front 2 rfl
    have hS := hS.front 3 rfl
    have hS := hS.front 4 rfl
    replace hS := hS.cut 5
    exact ⟨A15, c16, A26, c27, A31, c32, A36, c37, A41, c42, by rw [(setI_len rfl)]; rfl, k17, k28, k33, k38, (k_set k43), hS.eqv (by rw [(setI_len rfl)]; rfl)⟩
  replace H := cond_t H hb
  refine wpC_skip ?_
  refine QH_seq_k hK45 ?_
  refine wpC_seq_k (fun K hK47 => ?_)
  refine wpC_block ?_
  refine wpC_seq_k (fun K hK48 => ?_)
  refine wpC_region ?_
  refine wpS_put rfl rfl rfl (yv_fieldAddr fo_32_7 rfl) ?_
  refine wpS_put rfl rfl rfl (yv_load_box sc_29 rfl (RW.here _) hS hs7 trivial sg18_1) ?_
  refine wpS_sliceM (ps := [(0, .const (.bool false))]) [.bool false] el_29 zc_4 rfl rfl rfl rfl rfl (by kernel_rfl) hS (fun b49 w hS hB => ?_)
  obtain ⟨l51, hf52, H⟩ := bind_some H
  refine wpX_append (ys := ([false] : List Bool)) he_enO oc_enO em_29 (by decide) rfl rfl rfl rfl hS (fun _ => ps4) (hS.box_rd hs0) hf52 (fun A53 c54 w k55 hS => ?_)
  refine wpS_put rfl rfl rfl (yv_fieldAddr fo_32_7 rfl) ?_
  refine wpS_store rfl rfl rfl CellsOf.slice hS ps8 st18_1 (by kernel_rfl) rfl (fun w hS hB => ?_)
  refine wpS_nil ?_
  refine QH_seq_k hK48 ?_
  refine wpC_seq_k (fun K hK56 => ?_)
  refine wpC_draw 9 [6, 8] (fun i b => (i = 6 → False) ∧ (i = 8 → b ≠ b19)) ⟨by kernel_rfl, by kernel_rfl⟩ hS (fun w hS hB => ?_)
  refine wpR_batchG [true] [6] (fun _ => False) (by decide +kernel) (by intro j hj b hb; simp only [List.mem_cons, List.not_mem_nil, or_false] at hj; (try rcases hj with rfl | rfl | rfl | rfl | rfl) <;> simp_all) (by repeat (first | exact PF.body | exact PF.round | apply PF.then | apply PF.inBlock | apply PF.jump)) ?_
  refine LtK.put rfl rfl rfl (yv_fieldAddr fo_32_8 rfl) ?_
  refine LtK.nil ?_
  refine wpR_batch [false, true] (by decide +kernel) (by repeat (first | exact PF.body | exact PF.round | apply PF.then | apply PF.inBlock | apply PF.jump)) ?_
  refine LtK.put rfl rfl rfl (yv_load_box sc_30 rfl (RW.below _) hS hs8 trivial sg19_1) ?_
  refine LtK.nil ?_
  refine wpR_call [false, false, true] 2 ⟨by decide, by kernel_rfl, by kernel_rfl⟩ rfl rfl ?_
  dsimp only [pickL]
  refine wpS_put rfl rfl rfl (yv_load_boxA ag_26 rfl (RW.here _) hS hs7 trivial sg0_8) ?_
  refine wpS_nil ?_
  refine QH_step (Below.refl _ _) ?_
  refine wpR_call [false, false, false, true] 3 ⟨by decide, by kernel_rfl, by kernel_rfl⟩ rfl rfl ?_
  dsimp only [pickL]
  obtain ⟨r57, hm58, H⟩ := bind_some H
  refine wpS_call rfl rfl rfl rfl (by kernel_rfl) rfl (c_ref12_Last x3 A0_ c0_ _ (SlI.of_rd s0_.k (hS.rd0 s0_.rd) (hS.blk0 s0_.blk)) hm58) ?_
  rintro e w ⟨rfl, hN⟩; refine ⟨_, rfl, ?_⟩; have hB := hN.pure; have hS := hS.join hN; clear hN
  refine wpS_nil ?_
  refine QH_step hB ?_
  refine wpR_batchG [false, false, false, false, true] [6] (fun _ => False) (by decide +kernel) (by intro j hj b hb; simp only [List.mem_cons, List.not_mem_nil, or_false] at hj; (try rcases hj with rfl | rfl | rfl | rfl | rfl) <;> simp_all) (by repeat (first | exact PF.body | exact PF.round | apply PF.then | apply PF.inBlock | apply PF.jump)) ?_
  refine LtK.put rfl rfl rfl (yx_add rfl rfl) ?_
  refine LtK.nil ?_
  refine wpR_call [false, false, false, false, false, true] 5 ⟨by decide, by kernel_rfl, by kernel_rfl⟩ rfl rfl ?_
  dsimp only [pickL]
  refine wpS_sliceM (ps := [(0, .tmp 52)]) [.int .i64 (IntKind.wrap .i64 (r57 + 1))] el_30 zc_3 rfl rfl rfl rfl rfl (by kernel_rfl) hS (fun b59 w hS hB => ?_)
  refine wpS_nil ?_
  refine QH_step hB ?_
  refine wpR_seal [false, false, false, false, false, false, true] 6 ⟨by decide, by kernel_rfl, by kernel_rfl⟩ rfl rfl ?_
  dsimp only [pickL]
  obtain ⟨l61, hf62, H⟩ := bind_some H
  refine wpX_append2 (ys := ([(IntKind.wrap .i64 (r57 + 1))] : List Int)) he_enI oc_enI em_30 (by decide) rfl rfl rfl rfl hS (fun _ => ps4) (hS.box_rd hs0) hf62 (fun A63 c64 w k65 hS hB => ?_)
  refine wpS_nil ?_
  refine QH_stepG (hB.sub (fun _ _ h => by simp at h)) ?_
  refine wpR_batch [false, false, false, false, false, false, false, true] (by decide +kernel) (by repeat (first | exact PF.body | exact PF.round | apply PF.then | apply PF.inBlock | apply PF.jump)) ?_
  refine LtK.put rfl rfl rfl (yv_fieldAddr fo_32_8 rfl) ?_
  refine LtK.nil ?_
  refine wpR_seal [false, false, false, false, false, false, false, false, true] 8 ⟨by decide, by kernel_rfl, by kernel_rfl⟩ rfl rfl ?_
  dsimp only [pickL]
  refine wpS_store rfl rfl rfl CellsOf.slice hS ps9 st19_1 (by kernel_rfl) rfl (fun w hS hB => ?_)
  refine wpS_nil ?_
  refine QH_stepG (hB.sub (fun _ _ h => by simpa using h)) ?_
  refine wpR_end (by kernel_rfl) ?_
  refine QH_seq_k hK56 ?_
  refine wpC_seq_k (fun K hK66 => ?_)
  refine wpC_region ?_
  refine wpS_put rfl rfl rfl (yv_fieldAddr fo_32_9 rfl) ?_
  refine wpS_put rfl rfl rfl (yv_load_box sc_30 rfl (RW.here _) hS hs9 trivial sg20_1) ?_
  refine wpS_sliceM (ps := [(0, .const (.int .i64 0))]) [.int .i64 0] el_30 zc_3 rfl rfl rfl rfl rfl (by kernel_rfl) hS (fun b67 w hS hB => ?_)
  obtain ⟨l69, hf70, H⟩ := bind_some H
  refine wpX_append (ys := ([0] : List Int)) he_enI oc_enI em_30 (by decide) rfl rfl rfl rfl hS (fun _ => ps4) (hS.box_rd hs0) hf70 (fun A71 c72 w k73 hS => ?_)
  refine wpS_put rfl rfl rfl (yv_fieldAddr fo_32_9 rfl) ?_
  refine wpS_store rfl rfl rfl CellsOf.slice hS ps10 st20_1 (by kernel_rfl) rfl (fun w hS hB => ?_)
  refine wpS_nil ?_
  refine QH_seq_k hK66 ?_
  refine wpC_region ?_
  refine wpS_put rfl rfl rfl (yv_fieldAddr fo_32_10 rfl) ?_
  refine wpS_put rfl rfl rfl (yv_load_box sc_30 rfl (RW.here _) hS hs10 trivial sg21_1) ?_
  refine wpS_sliceM (ps := [(0, .const (.int .i64 0))]) [.int .i64 0] el_30 zc_3 rfl rfl rfl rfl rfl (by kernel_rfl) hS (fun b74 w hS hB => ?_)
  obtain ⟨l76, hf77, H⟩ := bind_some H
  refine wpX_append (ys := ([0] : List Int)) he_enI oc_enI em_30 (by decide) rfl rfl rfl rfl hS (fun _ => ps4) (hS.box_rd hs0) hf77 (fun A78 c79 w k80 hS => ?_)
  refine wpS_put rfl rfl rfl (yv_fieldAddr fo_32_10 rfl) ?_
  refine wpS_store rfl rfl rfl CellsOf.slice hS ps11 st21_1 (by kernel_rfl) rfl (fun w hS hB => ?_)
  refine wpS_nil ?_
  refine QH_block_normal ?_
  refine QH_seq_k hK47 ?_
  refine wpC_region ?_
  refine wpS_quick 1 rfl ?_
  refine wpS_put rfl rfl rfl (yx_add rfl rfl) ?_
  refine wpS_quick 1 rfl ?_
  refine wpS_nil ?_
  exact QH_again (n, (IntKind.wrap .i64 (v24 + 1)), l51, A53, c54, l61, A63, c64, l69, A71, c72, l76, A78, c79) (by repeat (first | exact Sub.nil | refine Sub.cons rfl ?_)) ⟨(hS.sub (List.Sublist.cons _ (List.Sublist.cons _ (List.Sublist.cons _ (List.Sublist.cons _ (List.Sublist.cons_cons _ (List.Sublist.cons_cons _ (List.Sublist.cons_cons _ (List.Sublist.cons_cons _ (List.Sublist.cons_cons _ (List.Sublist.cons_cons _ (List.Sublist.cons_cons _ (List.Sublist.cons_cons _ List.Sublist.slnil))))))))))))), k55, k65, k73, k80, H⟩ (Nat.lt_succ_self _)
theorem c_advert_To (x0 : Co) (x1 : Ms) (A0_ : Option Addr) (c0_ : Nat) (A1_ : Option Addr) (c1_ : Nat) (A2_ : Option Addr) (c2_ : Nat) (A3_ : Option Addr) (c3_ : Nat) (A4_ : Option Addr) (c4_ : Nat) (A5_ : Option Addr) (c5_ : Nat) (w0 : World) (s0_ : SlI w0 enE A0_ c0_ x0.tuple.log) (s1_ : SlI w0 enO A1_ c1_ x0.votes) (s2_ : SlI w0 enI A2_ c2_ x0.next) (s3_ : SlI w0 enI A3_ c3_ x0.mtch) (s4_ : SlI w0 enI A4_ c4_ x0.caps) (s5_ : SlI w0 enE A5_ c5_ x1.entries) {r : Bool} (H : m_advert_To x0 x1 = some r) : Calls Try.prog 32 #[.agg #[.int .i64 x0.id, .int .i64 x0.n, .int .u8 x0.role, .int .i64 x0.binary, .int .i64 x0.tuple.snap.index, .int .i64 x0.tuple.snap.term, .int .i64 x0.tuple.snap.sum, .int .i64 x0.tuple.snap.level, .bool x0.tuple.snap.final, .slice A0_ x0.tuple.log.length c0_, .int .i64 x0.tuple.term, .int .i64 x0.tuple.vote, .int .i64 x0.commit, .int .i64 x0.applied.index, .int .i64 x0.applied.term, .int .i64 x0.applied.sum, .int .i64 x0.applied.level, .bool x0.applied.final, .slice A1_ x0.votes.length c1_, .slice A2_ x0.next.length c2_, .slice A3_ x0.mtch.length c3_, .slice A4_ x0.caps.length c4_], .agg #[.int .u8 x1.kind, .int .i64 x1.frm, .int .i64 x1.dst, .int .i64 x1.term, .int .i64 x1.cap, .int .i64 x1.last, .int .i64 x1.lastTerm, .int .i64 x1.commit, .bool x1.okk, .slice A5_ x1.entries.length c5_, .int .i64 x1.snap.index, .int .i64 x1.snap.term, .int .i64 x1.snap.sum, .int .i64 x1.snap.level, .bool x1.snap.final]] w0 fun e w' => e = .returned (.bool r) ∧ St0 All w0 w' [] := by
  unfold m_advert_To at H
  refine gw_enter2 Try.func32 rfl Try.ntmps32 rfl ?_
  have hS := St0.start All w0
  refine wpC_seq_k (fun K hK1 => ?_)
  refine wpC_region ?_
  refine wpS_box rfl rfl rfl CellsOf.agg hS (fun b2 w hS hB => ?_)
  refine wpS_box rfl rfl rfl CellsOf.agg hS (fun b4 w hS hB => ?_)
  refine wpS_quick 1 rfl ?_
  refine wpS_nil ?_
  refine QH_seq_k hK1 ?_
  refine wpC_scope1 0 rfl ?_
  refine wpC_seq_k (fun K hK6 => ?_)
  refine wpC_seq_k (fun K hK7 => ?_)
  refine wpC_region ?_
  refine wpS_put rfl rfl rfl (yv_fieldAddr fo_39_2 rfl) ?_
  refine wpS_put rfl rfl rfl (yv_load_box sc_3 rfl (RW.here _) hS hs0 trivial sg2_1) ?_
  refine wpS_put rfl rfl rfl (yv_fieldAddr fo_32_0 rfl) ?_
  refine wpS_put rfl rfl rfl (yv_load_box sc_3 rfl (RW.here _) hS hs1 trivial sg0_1) ?_
  refine wpS_put rfl rfl rfl (yv_neq rfl rfl) ?_
  refine wpS_quick 1 rfl ?_
  refine wpS_case 10 rfl (fun hb => ?_) (fun hb => ?_)
  · replace H := cond_t H hb
    refine wpS_quick 4 rfl ?_
    refine wpS_nil ?_
    refine QH_seq_k hK7 ?_
    refine wpC_cond_t rfl rfl ?_
    refine wpC_goto ?_
    refine QH_then_goto ?_
    refine QH_ahead ?_
    refine wpC_seq_k (fun K hK8 => ?_)
    refine wpC_skip ?_
    refine QH_seq_k hK8 ?_
    refine wpC_seq_k (fun K hK9 => ?_)
    refine wpC_region ?_
    refine wpS_quick 2 rfl ?_
    refine wpS_nil ?_
    refine QH_seq_k hK9 ?_
    refine wpC_ret ?_
    refine QH_jmp_ret ?_
    refine QH_ret rfl (RV.tmp rfl RV.nil) rfl ?_
    obtain rfl := Option.some.inj H
    replace hS := hS.cut 0
    exact ⟨rfl, hS⟩
  replace H := cond_f H hb
  refine wpS_put rfl rfl rfl (yv_load_boxA ag_32 rfl (RW.here _) hS hs1 trivial sg0_22) ?_
  obtain ⟨r10, hm11, H⟩ := bind_some H
  refine wpS_call rfl rfl rfl rfl (by kernel_rfl) rfl (c_msg_Right x0 A0_ c0_ A1_ c1_ A2_ c2_ A3_ c3_ A4_ c4_ _ (SlI.of_rd s0_.k (hS.rd0 s0_.rd) (hS.blk0 s0_.blk)) (SlI.of_rd s1_.k (hS.rd0 s1_.rd) (hS.blk0 s1_.blk)) (SlI.of_rd s2_.k (hS.rd0 s2_.rd) (hS.blk0 s2_.blk)) (SlI.of_rd s3_.k (hS.rd0 s3_.rd) (hS.blk0 s3_.blk)) (SlI.of_rd s4_.k (hS.rd0 s4_.rd) (hS.blk0 s4_.blk)) hm11) ?_
  rintro e w ⟨rfl, hN⟩; refine ⟨_, rfl, ?_⟩; have hB := hN.pure; have hS := hS.join hN; clear hN
  refine wpS_put rfl rfl rfl (yv_not rfl) ?_
  refine wpS_quick 1 rfl ?_
  refine wpS_nil ?_
  refine QH_seq_k hK7 ?_
  refine wpC_cond rfl (fun hb => ?_) (fun hb => ?_)
  · replace H := cond_t H hb
    refine wpC_goto ?_
    refine QH_then_goto ?_
    refine QH_ahead ?_
    refine wpC_seq_k (fun K hK12 => ?_)
    refine wpC_skip ?_
    refine QH_seq_k hK12 ?_
    refine wpC_seq_k (fun K hK13 => ?_)
    refine wpC_region ?_
    refine wpS_quick 2 rfl ?_
    refine wpS_nil ?_
    refine QH_seq_k hK13 ?_
    refine wpC_ret ?_
    refine QH_jmp_ret ?_
    refine QH_ret rfl (RV.tmp rfl RV.nil) rfl ?_
    obtain rfl := Option.some.inj H
    replace hS := hS.cut 0
    exact ⟨rfl, hS⟩
  replace H := cond_f H hb
  refine wpC_skip ?_
  refine QH_seq_k hK6 ?_
  refine wpC_seq_k (fun K hK14 => ?_)
  refine wpC_region ?_
  refine wpS_put rfl rfl rfl (yv_load_boxA ag_39 rfl (RW.here _) hS hs0 trivial sg0_15) ?_
  refine wpS_put rfl rfl rfl (yv_fieldAddr fo_32_1 rfl) ?_
  refine wpS_put rfl rfl rfl (yv_load_box sc_3 rfl (RW.here _) hS hs1 trivial sg1_1) ?_
  obtain ⟨r15, hm16, H⟩ := bind_some H
  refine wpS_call rfl rfl rfl rfl (by kernel_rfl) rfl (c_msg_Fine x1 x0.n A5_ c5_ _ (SlI.of_rd s5_.k (hS.rd0 s5_.rd) (hS.blk0 s5_.blk)) hm16) ?_
  rintro e w ⟨rfl, hN⟩; refine ⟨_, rfl, ?_⟩; have hB := hN.pure; have hS := hS.join hN; clear hN
  refine wpS_quick 1 rfl ?_
  refine wpS_nil ?_
  refine QH_seq_k hK14 ?_
  refine wpC_seq_k (fun K hK17 => ?_)
  refine wpC_label ?_
  refine QH_seq_k hK17 ?_
  refine wpC_seq_k (fun K hK18 => ?_)
  refine wpC_region ?_
  refine wpS_quick 2 rfl ?_
  refine wpS_nil ?_
  refine QH_seq_k hK18 ?_
  refine wpC_ret ?_
  refine QH_jmp_ret ?_
  refine QH_ret rfl (RV.tmp rfl RV.nil) rfl ?_
  obtain rfl := Option.some.inj H
  replace hS := hS.cut 0
  exact ⟨rfl, hS⟩
theorem c_advert_Hear (x0 : Co) (x1 : Ms) (A0_ : Option Addr) (c0_ : Nat) (A1_ : Option Addr) (c1_ : Nat) (A2_ : Option Addr) (c2_ : Nat) (A3_ : Option Addr) (c3_ : Nat) (A4_ : Option Addr) (c4_ : Nat) (A5_ : Option Addr) (c5_ : Nat) (w0 : World) (s0_ : SlI w0 enE A0_ c0_ x0.tuple.log) (s1_ : SlI w0 enO A1_ c1_ x0.votes) (s2_ : SlI w0 enI A2_ c2_ x0.next) (s3_ : SlI w0 enI A3_ c3_ x0.mtch) (s4_ : SlI w0 enI A4_ c4_ x0.caps) (s5_ : SlI w0 enE A5_ c5_ x1.entries) {r : Co} (H : m_advert_Hear x0 x1 = some r) : Calls Try.prog 28 #[.agg #[.int .i64 x0.id, .int .i64 x0.n, .int .u8 x0.role, .int .i64 x0.binary, .int .i64 x0.tuple.snap.index, .int .i64 x0.tuple.snap.term, .int .i64 x0.tuple.snap.sum, .int .i64 x0.tuple.snap.level, .bool x0.tuple.snap.final, .slice A0_ x0.tuple.log.length c0_, .int .i64 x0.tuple.term, .int .i64 x0.tuple.vote, .int .i64 x0.commit, .int .i64 x0.applied.index, .int .i64 x0.applied.term, .int .i64 x0.applied.sum, .int .i64 x0.applied.level, .bool x0.applied.final, .slice A1_ x0.votes.length c1_, .slice A2_ x0.next.length c2_, .slice A3_ x0.mtch.length c3_, .slice A4_ x0.caps.length c4_], .agg #[.int .u8 x1.kind, .int .i64 x1.frm, .int .i64 x1.dst, .int .i64 x1.term, .int .i64 x1.cap, .int .i64 x1.last, .int .i64 x1.lastTerm, .int .i64 x1.commit, .bool x1.okk, .slice A5_ x1.entries.length c5_, .int .i64 x1.snap.index, .int .i64 x1.snap.term, .int .i64 x1.snap.sum, .int .i64 x1.snap.level, .bool x1.snap.final]] w0 fun e w' => ∃ (A0 : Option Addr) (c0 : Nat) (A1 : Option Addr) (c1 : Nat) (A2 : Option Addr) (c2 : Nat) (A3 : Option Addr) (c3 : Nat) (A4 : Option Addr) (c4 : Nat), e = .returned (.agg #[.int .i64 r.id, .int .i64 r.n, .int .u8 r.role, .int .i64 r.binary, .int .i64 r.tuple.snap.index, .int .i64 r.tuple.snap.term, .int .i64 r.tuple.snap.sum, .int .i64 r.tuple.snap.level, .bool r.tuple.snap.final, .slice A0 r.tuple.log.length c0, .int .i64 r.tuple.term, .int .i64 r.tuple.vote, .int .i64 r.commit, .int .i64 r.applied.index, .int .i64 r.applied.term, .int .i64 r.applied.sum, .int .i64 r.applied.level, .bool r.applied.final, .slice A1 r.votes.length c1, .slice A2 r.next.length c2, .slice A3 r.mtch.length c3, .slice A4 r.caps.length c4]) ∧ (r.tuple.log.length ≤ c0 ∧ c0 ≤ maxLen) ∧ (r.votes.length ≤ c1 ∧ c1 ≤ maxLen) ∧ (r.next.length ≤ c2 ∧ c2 ≤ maxLen) ∧ (r.mtch.length ≤ c3 ∧ c3 ≤ maxLen) ∧ (r.caps.length ≤ c4 ∧ c4 ≤ maxLen) ∧ St0 All w0 w' [.row (.slice A0 r.tuple.log.length c0) 47 3 r.tuple.log.length (encs enE r.tuple.log), .row (.slice A1 r.votes.length c1) 4 1 r.votes.length (encs enO r.votes), .row (.slice A2 r.next.length c2) 3 1 r.next.length (encs enI r.next), .row (.slice A3 r.mtch.length c3) 3 1 r.mtch.length (encs enI r.mtch), .row (.slice A4 r.caps.length c4) 3 1 r.caps.length (encs enI r.caps)] := by
  unfold m_advert_Hear at H
  refine gw_enter2 Try.func28 rfl Try.ntmps28 rfl ?_
  have hS := St0.start All w0
  refine wpC_seq_k (fun K hK1 => ?_)
  refine wpC_region ?_
  refine wpS_box rfl rfl rfl CellsOf.agg hS (fun b2 w hS hB => ?_)
  refine wpS_box rfl rfl rfl CellsOf.agg hS (fun b4 w hS hB => ?_)
  refine wpS_alloc rfl rfl zc_32 hS (fun b6 w hS hB => ?_)
  refine wpS_nil ?_
  refine QH_seq_k hK1 ?_
  refine wpC_seq_k (fun K hK8 => ?_)
  refine wpC_draw 7 [6] (fun i b => (i = 6 → b ≠ b6)) ⟨by kernel_rfl, by kernel_rfl⟩ hS (fun w hS hB => ?_)
  refine wpR_batch [true, true, true, false, true] (by decide +kernel) (by repeat (first | exact PF.body | exact PF.round | apply PF.then | apply PF.inBlock | apply PF.jump)) ?_
  refine LtK.put rfl rfl rfl (yv_load_boxA ag_32 rfl (RW.below _) hS hs2 trivial sg0_22) ?_
  refine LtK.put rfl rfl rfl (yv_load_boxA ag_32 rfl (RW.below _) hS hs2 trivial sg0_22) ?_
  refine LtK.put rfl rfl rfl (yv_load_boxA ag_39 rfl (RW.below _) hS hs1 trivial sg0_15) ?_
  refine LtK.put rfl rfl rfl (yv_makeFunc rfl rfl) ?_
  refine LtK.nil ?_
  refine wpR_call [false, false, false, true] 3 ⟨by decide, by kernel_rfl, by kernel_rfl⟩ rfl rfl ?_
  dsimp only [pickL]
  obtain ⟨r9, hm10, H⟩ := bind_some H
  refine wpS_call rfl rfl rfl rfl (by kernel_rfl) rfl (c_advert_To x0 x1 A0_ c0_ A1_ c1_ A2_ c2_ A3_ c3_ A4_ c4_ A5_ c5_ _ (SlI.of_rd s0_.k (hS.rd0 s0_.rd) (hS.blk0 s0_.blk)) (SlI.of_rd s1_.k (hS.rd0 s1_.rd) (hS.blk0 s1_.blk)) (SlI.of_rd s2_.k (hS.rd0 s2_.rd) (hS.blk0 s2_.blk)) (SlI.of_rd s3_.k (hS.rd0 s3_.rd) (hS.blk0 s3_.blk)) (SlI.of_rd s4_.k (hS.rd0 s4_.rd) (hS.blk0 s4_.blk)) (SlI.of_rd s5_.k (hS.rd0 s5_.rd) (hS.blk0 s5_.blk)) hm10) ?_
  rintro e w ⟨rfl, hN⟩; refine ⟨_, rfl, ?_⟩; have hB := hN.pure; have hS := hS.join hN; clear hN
  refine wpS_nil ?_
  refine QH_step hB ?_
  refine wpR_call [false, false, false, false, false, true] 5 ⟨by decide, by kernel_rfl, by kernel_rfl⟩ rfl rfl ?_
  dsimp only [pickL]
  have hO11 := hS
  rename World => wS12
  have hS := St0.start All wS12
  refine wpS_in rfl rfl rfl rfl (by kernel_rfl) rfl ?_
  show Calls _ _ #[_, _, _] _ _
  refine gw_enter3 Try.func65 rfl Try.ntmps65 rfl ?_
  refine wpC_seq_k (fun K hK13 => ?_)
  refine wpC_region ?_
  refine wpS_box rfl rfl rfl CellsOf.agg hS (fun b14 w hS hB => ?_)
  refine wpS_alloc rfl rfl zc_32 hS (fun b16 w hS hB => ?_)
  refine wpS_nil ?_
  refine QH_seq_k hK13 ?_
  refine wpC_seq_k (fun K hK18 => ?_)
  refine wpC_region ?_
  refine wpS_put rfl rfl rfl (yv_load_boxA ag_32 rfl (RW.here _) (hO11.join hS) hs1 trivial sg0_22) ?_
  obtain ⟨r19, hm20, H⟩ := bind_some H
  refine wpS_call rfl rfl rfl rfl (by kernel_rfl) rfl (c_msg_Own x0 A0_ c0_ A1_ c1_ A2_ c2_ A3_ c3_ A4_ c4_ _ (SlI.of_rd s0_.k ((hO11.join hS).rd0 s0_.rd) ((hO11.join hS).blk0 s0_.blk)) (SlI.of_rd s1_.k ((hO11.join hS).rd0 s1_.rd) ((hO11.join hS).blk0 s1_.blk)) (SlI.of_rd s2_.k ((hO11.join hS).rd0 s2_.rd) ((hO11.join hS).blk0 s2_.blk)) (SlI.of_rd s3_.k ((hO11.join hS).rd0 s3_.rd) ((hO11.join hS).blk0 s3_.blk)) (SlI.of_rd s4_.k ((hO11.join hS).rd0 s4_.rd) ((hO11.join hS).blk0 s4_.blk)) hm20) ?_
  rintro e w ⟨A21, c22, A25, c26, A29, c30, A33, c34, A37, c38, rfl, k23, k27, k31, k35, k39, hN⟩; refine ⟨_, rfl, ?_⟩; have hB := hN.pure; have hS := hS.join hN; clear hN
  refine wpS_store rfl rfl rfl CellsOf.agg hS ps6 st0_22 (by kernel_rfl) rfl (fun w hS hB => ?_)
  refine wpS_nil ?_
  refine QH_seq_k hK18 ?_
  refine wpC_seq_k (fun K hK41 => ?_)
  refine wpC_seq_k (fun K hK42 => ?_)
  refine wpC_region ?_
  refine wpS_quick 2 rfl ?_
  refine wpS_case 10 rfl (fun hb => ?_) (fun hb => ?_)
  rotate_left
  · replace H := cond_f H hb
    refine wpS_quick 3 rfl ?_
    refine wpS_nil ?_
    refine QH_seq_k hK42 ?_
    refine wpC_cond_f rfl rfl ?_
    refine wpC_skip ?_
    refine QH_seq_k hK41 ?_
    refine wpC_seq_k (fun K hK50 => ?_)
    refine wpC_region ?_
    refine wpS_put rfl rfl rfl (yv_load_boxA ag_32 rfl (RW.here _) (hO11.join hS) hs6 trivial sg0_22) ?_
    refine wpS_store rfl rfl rfl CellsOf.agg hS ps5 st0_22 (by kernel_rfl) rfl (fun w hS hB => ?_)
    refine wpS_nil ?_
    refine QH_seq_k hK50 ?_
    refine wpC_ret ?_
    refine QH_ret rfl (RV.cell rfl (load_boxA ag_32 (hO11.join hS) hs5 sg0_22) RV.nil) rfl ?_
    refine ⟨_, rfl, ?_⟩
    have hB := hS.pure
    have hS := hO11.join hS
    dsimp only [List.cons_append, List.nil_append] at hS
    refine wpS_nil ?_
    refine QH_step hB ?_
    refine wpR_seal [false, false, false, false, false, false, true] 6 ⟨by decide, by kernel_rfl, by kernel_rfl⟩ rfl rfl ?_
    dsimp only [pickL]
    refine wpS_store rfl rfl rfl CellsOf.agg hS ps7 st0_22 (by kernel_rfl) rfl (fun w hS hB => ?_)
    refine wpS_nil ?_
    refine QH_stepG (hB.sub (fun _ _ h => by simpa using h)) ?_
    refine wpR_end (by kernel_rfl) ?_
    refine QH_seq_k hK8 ?_
    refine wpC_ret ?_
    refine QH_ret rfl (RV.cell rfl (load_boxA ag_32 hS hs7 sg0_22) RV.nil) rfl ?_
    obtain rfl := Option.some.inj H
    have hS := hS.front 4 rfl
    have hS := hS.front 4 rfl
    have hS := hS.front 4 rfl
    have hS := hS.front 4 rfl
    have hS := hS.front 4 rfl
    replace hS := hS.cut 5
    exact ⟨A21, c22, A25, c26, A29, c30, A33, c34, A37, c38, rfl, k23, k27, k31, k35, k39, hS⟩
  replace H := cond_t H hb
  refine wpS_put rfl rfl rfl (yv_load_boxA ag_32 rfl (RW.here _) (hO11.join hS) hs6 trivial sg0_22) ?_
  obtain ⟨r43, hm44, H⟩ := bind_some H
  refine wpS_call rfl rfl rfl rfl (by kernel_rfl) rfl (c_msg_Right r19 A21 c22 A25 c26 A29 c30 A33 c34 A37 c38 _ (SlI.of_rd k23 ((hO11.join hS).row_rd hs0) ((hO11.join hS).row_blk hs0)) (SlI.of_rd k27 ((hO11.join hS).row_rd hs1) ((hO11.join hS).row_blk hs1)) (SlI.of_rd k31 ((hO11.join hS).row_rd hs2) ((hO11.join hS).row_blk hs2)) (SlI.of_rd k35 ((hO11.join hS).row_rd hs3) ((hO11.join hS).row_blk hs3)) (SlI.of_rd k39 ((hO11.join hS).row_rd hs4) ((hO11.join hS).row_blk hs4)) hm44) ?_
  rintro e w ⟨rfl, hN⟩; refine ⟨_, rfl, ?_⟩; have hB := hN.pure; have hS := hS.join hN; clear hN
  refine wpS_quick 1 rfl ?_
  refine wpS_nil ?_
  refine QH_seq_k hK42 ?_
  refine wpC_cond rfl (fun hb => ?_) (fun hb => ?_)
  rotate_left
  · replace H := cond_f H hb
    refine wpC_skip ?_
    refine QH_seq_k hK41 ?_
    refine wpC_seq_k (fun K hK49 => ?_)
    refine wpC_region ?_
    refine wpS_put rfl rfl rfl (yv_load_boxA ag_32 rfl (RW.here _) (hO11.join hS) hs6 trivial sg0_22) ?_
    refine wpS_store rfl rfl rfl CellsOf.agg hS ps5 st0_22 (by kernel_rfl) rfl (fun w hS hB => ?_)
    refine wpS_nil ?_
    refine QH_seq_k hK49 ?_
    refine wpC_ret ?_
    refine QH_ret rfl (RV.cell rfl (load_boxA ag_32 (hO11.join hS) hs5 sg0_22) RV.nil) rfl ?_
    refine ⟨_, rfl, ?_⟩
    have hB := hS.pure
    have hS := hO11.join hS
    dsimp only [List.cons_append, List.nil_append] at hS
    refine wpS_nil ?_
    refine QH_step hB ?_
    refine wpR_seal [false, false, false, false, false, false, true] 6 ⟨by decide, by kernel_rfl, by kernel_rfl⟩ rfl rfl ?_
    dsimp only [pickL]
    refine wpS_store rfl rfl rfl CellsOf.agg hS ps7 st0_22 (by kernel_rfl) rfl (fun w hS hB => ?_)
    refine wpS_nil ?_
    refine QH_stepG (hB.sub (fun _ _ h => by simpa using h)) ?_
    refine wpR_end (by kernel_rfl) ?_
    refine QH_seq_k hK8 ?_
    refine wpC_ret ?_
    refine QH_ret rfl (RV.cell rfl (load_boxA ag_32 hS hs7 sg0_22) RV.nil) rfl ?_
    obtain rfl := Option.some.inj H
    have hS := hS.front 4 rfl
    have hS := hS.front 4 rfl
    have hS := hS.front 4 rfl
    have hS := hS.front 4 rfl
    have hS := hS.front 4 rfl
    replace hS := hS.cut 5
    exact ⟨A21, c22, A25, c26, A29, c30, A33, c34, A37, c38, rfl, k23, k27, k31, k35, k39, hS⟩
  replace H := cond_t H hb
  refine wpC_region ?_
  refine wpS_quick 1 rfl ?_
  refine wpS_in rfl rfl rfl rfl (by kernel_rfl) rfl ?_
  show Calls _ _ #[_, _] _ _
  refine gw_enter2 Try.func66 rfl Try.ntmps66 rfl ?_
  refine wpC_draw 11 [10] (fun i b => (i = 10 → False)) ⟨by kernel_rfl, by kernel_rfl⟩ hS (fun w hS hB => ?_)
  refine wpR_batch [true, true, true, true, true, true, true, true, true, true] (by decide +kernel) (by repeat (first | exact PF.body | exact PF.round | apply PF.then | apply PF.inBlock | apply PF.jump)) ?_
  refine LtK.put rfl rfl rfl (yv_move rfl) ?_
  refine LtK.put rfl rfl rfl (yv_nilCheck rfl) ?_
  refine LtK.put rfl rfl rfl (yv_fieldAddr fo_32_10 rfl) ?_
  refine LtK.put rfl rfl rfl (yv_load_box sc_30 rfl (RW.below _) (hO11.join hS) hs6 trivial sg21_1) ?_
  refine LtK.put rfl rfl rfl (yv_fieldAddr fo_39_1 rfl) ?_
  refine LtK.put rfl rfl rfl (yv_load_box sc_3 rfl (RW.below _) (hO11.join hS) hs8 trivial sg1_1) ?_
  refine LtK.put rfl rfl rfl (yx_sub rfl rfl) ?_
  refine LtK.put rfl rfl rfl (yv_fieldAddr fo_39_4 rfl) ?_
  refine LtK.put rfl rfl rfl (yv_load_box sc_3 rfl (RW.below _) (hO11.join hS) hs8 trivial sg4_1) ?_
  obtain ⟨e45, hi47, H⟩ := bind_some H
  obtain ⟨j46, hi47a, hi47b, hi47c⟩ := idx_some hi47
  refine LtK.put rfl rfl rfl (yx_idx el_30 rfl rfl hi47a hi47c (Rd.el ((hO11.join hS).row_rd hs4) he_enI hi47b)) ?_
  refine LtK.nil ?_
  refine wpR_seal [false, false, false, false, false, false, false, false, false, false, true] 10 ⟨by decide, by kernel_rfl, by kernel_rfl⟩ rfl rfl ?_
  dsimp only [pickL]
  refine wpX_storeR2 (a' := x1.cap) (zs := (setI r19.caps (IntKind.wrap .i64 (x1.frm - 1)) x1.cap)) he_enI rfl rfl rfl CellsOf.int hS ps4 (Rd.el ((hO11.join hS).row_rd hs4) he_enI hi47b) hi47a hi47b rfl st0_1 (by kernel_rfl) rfl (fun w hS hB => ?_)
  refine wpS_nil ?_
  refine QH_stepG (hB.sub (fun _ _ h => by simp at h)) ?_
  refine wpR_end (by kernel_rfl) ?_
  refine QH_end rfl RV.nil rfl ?_
  refine ⟨_, rfl, ?_⟩
  refine wpS_nil ?_
  refine QH_seq_k hK41 ?_
  refine wpC_seq_k (fun K hK48 => ?_)
  refine wpC_region ?_
  refine wpS_put rfl rfl rfl (yv_load_boxA ag_32 rfl (RW.here _) (hO11.join hS) hs6 trivial sg0_22) ?_
  refine wpS_store rfl rfl rfl CellsOf.agg hS ps5 st0_22 (by kernel_rfl) rfl (fun w hS hB => ?_)
  refine wpS_nil ?_
  refine QH_seq_k hK48 ?_
  refine wpC_ret ?_
  refine QH_ret rfl (RV.cell rfl (load_boxA ag_32 (hO11.join hS) hs5 sg0_22) RV.nil) rfl ?_
  refine ⟨_, rfl, ?_⟩
  have hB := hS.pure
  have hS := hO11.join hS
  dsimp only [List.cons_append, List.nil_append] at hS
  refine wpS_nil ?_
  refine QH_step hB ?_
  refine wpR_seal [false, false, false, false, false, false, true] 6 ⟨by decide, by kernel_rfl, by kernel_rfl⟩ rfl rfl ?_
  dsimp only [pickL]
  refine wpS_store rfl rfl rfl CellsOf.agg hS ps7 st0_22 (by kernel_rfl) rfl (fun w hS hB => ?_)
  refine wpS_nil ?_
  refine QH_stepG (hB.sub (fun _ _ h => by simpa using h)) ?_
  refine wpR_end (by kernel_rfl) ?_
  refine QH_seq_k hK8 ?_
  refine wpC_ret ?_
  refine QH_ret rfl (RV.cell rfl (load_boxA ag_32 hS hs7 sg0_22) RV.nil) rfl ?_
  obtain rfl := Option.some.inj H
  have hS := hS.front 4 rfl
  have hS := hS.front 4 rfl
  have hS := hS.front 4 rfl
  have hS := hS.front 4 rfl
  have hS := hS.front 4 rfl
  replace hS := hS.cut 5
  exact ⟨A21, c22, A25, c26, A29, c30, A33, c34, A37, c38, by rw [(setI_len rfl)]; rfl, k23, k27, k31, k35, (k_set k39), hS.eqv (by rw [(setI_len rfl)]; rfl)⟩
theorem c_advert_Forget (x0 : Co) (A0_ : Option Addr) (c0_ : Nat) (A1_ : Option Addr) (c1_ : Nat) (A2_ : Option Addr) (c2_ : Nat) (A3_ : Option Addr) (c3_ : Nat) (A4_ : Option Addr) (c4_ : Nat) (w0 : World) (s0_ : SlI w0 enE A0_ c0_ x0.tuple.log) (s1_ : SlI w0 enO A1_ c1_ x0.votes) (s2_ : SlI w0 enI A2_ c2_ x0.next) (s3_ : SlI w0 enI A3_ c3_ x0.mtch) (s4_ : SlI w0 enI A4_ c4_ x0.caps) {r : Co} (H : m_advert_Forget x0 = some r) : Calls Try.prog 29 #[.agg #[.int .i64 x0.id, .int .i64 x0.n, .int .u8 x0.role, .int .i64 x0.binary, .int .i64 x0.tuple.snap.index, .int .i64 x0.tuple.snap.term, .int .i64 x0.tuple.snap.sum, .int .i64 x0.tuple.snap.level, .bool x0.tuple.snap.final, .slice A0_ x0.tuple.log.length c0_, .int .i64 x0.tuple.term, .int .i64 x0.tuple.vote, .int .i64 x0.commit, .int .i64 x0.applied.index, .int .i64 x0.applied.term, .int .i64 x0.applied.sum, .int .i64 x0.applied.level, .bool x0.applied.final, .slice A1_ x0.votes.length c1_, .slice A2_ x0.next.length c2_, .slice A3_ x0.mtch.length c3_, .slice A4_ x0.caps.length c4_]] w0 fun e w' => ∃ (A0 : Option Addr) (c0 : Nat) (A1 : Option Addr) (c1 : Nat) (A2 : Option Addr) (c2 : Nat) (A3 : Option Addr) (c3 : Nat) (A4 : Option Addr) (c4 : Nat), e = .returned (.agg #[.int .i64 r.id, .int .i64 r.n, .int .u8 r.role, .int .i64 r.binary, .int .i64 r.tuple.snap.index, .int .i64 r.tuple.snap.term, .int .i64 r.tuple.snap.sum, .int .i64 r.tuple.snap.level, .bool r.tuple.snap.final, .slice A0 r.tuple.log.length c0, .int .i64 r.tuple.term, .int .i64 r.tuple.vote, .int .i64 r.commit, .int .i64 r.applied.index, .int .i64 r.applied.term, .int .i64 r.applied.sum, .int .i64 r.applied.level, .bool r.applied.final, .slice A1 r.votes.length c1, .slice A2 r.next.length c2, .slice A3 r.mtch.length c3, .slice A4 r.caps.length c4]) ∧ (r.tuple.log.length ≤ c0 ∧ c0 ≤ maxLen) ∧ (r.votes.length ≤ c1 ∧ c1 ≤ maxLen) ∧ (r.next.length ≤ c2 ∧ c2 ≤ maxLen) ∧ (r.mtch.length ≤ c3 ∧ c3 ≤ maxLen) ∧ (r.caps.length ≤ c4 ∧ c4 ≤ maxLen) ∧ St0 All w0 w' [.row (.slice A0 r.tuple.log.length c0) 47 3 r.tuple.log.length (encs enE r.tuple.log), .row (.slice A1 r.votes.length c1) 4 1 r.votes.length (encs enO r.votes), .row (.slice A2 r.next.length c2) 3 1 r.next.length (encs enI r.next), .row (.slice A3 r.mtch.length c3) 3 1 r.mtch.length (encs enI r.mtch), .row (.slice A4 r.caps.length c4) 3 1 r.caps.length (encs enI r.caps)] := by
  unfold m_advert_Forget at H
  refine gw_enter1 Try.func29 rfl Try.ntmps29 rfl ?_
  have hS := St0.start All w0
  refine wpC_seq_k (fun K hK1 => ?_)
  refine wpC_region ?_
  refine wpS_box rfl rfl rfl CellsOf.agg hS (fun b2 w hS hB => ?_)
  refine wpS_alloc rfl rfl zc_32 hS (fun b4 w hS hB => ?_)
  refine wpS_nil ?_
  refine QH_seq_k hK1 ?_
  refine wpC_seq_k (fun K hK6 => ?_)
  refine wpC_region ?_
  refine wpS_put rfl rfl rfl (yv_load_boxA ag_32 rfl (RW.here _) hS hs1 trivial sg0_22) ?_
  refine wpS_in rfl rfl rfl rfl (by kernel_rfl) rfl ?_
  show Calls _ _ #[_, _, _] _ _
  refine gw_enter3 Try.func65 rfl Try.ntmps65 rfl ?_
  refine wpC_seq_k (fun K hK7 => ?_)
  refine wpC_region ?_
  refine wpS_box rfl rfl rfl CellsOf.agg hS (fun b8 w hS hB => ?_)
  refine wpS_alloc rfl rfl zc_32 hS (fun b10 w hS hB => ?_)
  refine wpS_nil ?_
  refine QH_seq_k hK7 ?_
  refine wpC_seq_k (fun K hK12 => ?_)
  refine wpC_region ?_
  refine wpS_put rfl rfl rfl (yv_load_boxA ag_32 rfl (RW.here _) hS hs1 trivial sg0_22) ?_
  obtain ⟨r13, hm14, H⟩ := bind_some H
  refine wpS_call rfl rfl rfl rfl (by kernel_rfl) rfl (c_msg_Own x0 A0_ c0_ A1_ c1_ A2_ c2_ A3_ c3_ A4_ c4_ _ (SlI.of_rd s0_.k (hS.rd0 s0_.rd) (hS.blk0 s0_.blk)) (SlI.of_rd s1_.k (hS.rd0 s1_.rd) (hS.blk0 s1_.blk)) (SlI.of_rd s2_.k (hS.rd0 s2_.rd) (hS.blk0 s2_.blk)) (SlI.of_rd s3_.k (hS.rd0 s3_.rd) (hS.blk0 s3_.blk)) (SlI.of_rd s4_.k (hS.rd0 s4_.rd) (hS.blk0 s4_.blk)) hm14) ?_
  rintro e w ⟨A15, c16, A19, c20, A23, c24, A27, c28, A31, c32, rfl, k17, k21, k25, k29, k33, hN⟩; refine ⟨_, rfl, ?_⟩; have hB := hN.pure; have hS := hS.join hN; clear hN
  refine wpS_store rfl rfl rfl CellsOf.agg hS ps6 st0_22 (by kernel_rfl) rfl (fun w hS hB => ?_)
  refine wpS_nil ?_
  refine QH_seq_k hK12 ?_
  refine wpC_seq_k (fun K hK35 => ?_)
  refine wpC_seq_k (fun K hK36 => ?_)
  refine wpC_region ?_
  refine wpS_quick 2 rfl ?_
  refine wpS_put rfl rfl rfl (yv_load_boxA ag_32 rfl (RW.here _) hS hs6 trivial sg0_22) ?_
  obtain ⟨r37, hm38, H⟩ := bind_some H
  refine wpS_call rfl rfl rfl rfl (by kernel_rfl) rfl (c_msg_Right r13 A15 c16 A19 c20 A23 c24 A27 c28 A31 c32 _ (SlI.of_rd k17 (hS.row_rd hs0) (hS.row_blk hs0)) (SlI.of_rd k21 (hS.row_rd hs1) (hS.row_blk hs1)) (SlI.of_rd k25 (hS.row_rd hs2) (hS.row_blk hs2)) (SlI.of_rd k29 (hS.row_rd hs3) (hS.row_blk hs3)) (SlI.of_rd k33 (hS.row_rd hs4) (hS.row_blk hs4)) hm38) ?_
  rintro e w ⟨rfl, hN⟩; refine ⟨_, rfl, ?_⟩; have hB := hN.pure; have hS := hS.join hN; clear hN
  refine wpS_quick 1 rfl ?_
  refine wpS_nil ?_
  refine QH_seq_k hK36 ?_
  refine wpC_cond rfl (fun hb => ?_) (fun hb => ?_)
  rotate_left
  · replace H := cond_f H hb
    refine wpC_skip ?_
    refine QH_seq_k hK35 ?_
    refine wpC_seq_k (fun K hK44 => ?_)
    refine wpC_region ?_
    refine wpS_put rfl rfl rfl (yv_load_boxA ag_32 rfl (RW.here _) hS hs6 trivial sg0_22) ?_
    refine wpS_store rfl rfl rfl CellsOf.agg hS ps5 st0_22 (by kernel_rfl) rfl (fun w hS hB => ?_)
    refine wpS_nil ?_
    refine QH_seq_k hK44 ?_
    refine wpC_ret ?_
    refine QH_ret rfl (RV.cell rfl (load_boxA ag_32 hS hs5 sg0_22) RV.nil) rfl ?_
    refine ⟨_, rfl, ?_⟩
    refine wpS_store rfl rfl rfl CellsOf.agg hS ps7 st0_22 (by kernel_rfl) rfl (fun w hS hB => ?_)
    refine wpS_nil ?_
    refine QH_seq_k hK6 ?_
    refine wpC_ret ?_
    refine QH_ret rfl (RV.cell rfl (load_boxA ag_32 hS hs7 sg0_22) RV.nil) rfl ?_
    obtain rfl := Option.some.inj H
    have hS := hS.front 4 rfl
    have hS := hS.front 4 rfl
    have hS := hS.front 4 rfl
    have hS := hS.front 4 rfl
    have hS := hS.front 4 rfl
    replace hS := hS.cut 5
    exact ⟨A15, c16, A19, c20, A23, c24, A27, c28, A31, c32, rfl, k17, k21, k25, k29, k33, hS⟩
  replace H := cond_t H hb
  refine wpC_region ?_
  refine wpS_quick 1 rfl ?_
  refine wpS_in rfl rfl rfl rfl (by kernel_rfl) rfl ?_
  show Calls _ _ #[_] _ _
  refine gw_enter1 Try.func67 rfl Try.ntmps67 rfl ?_
  refine wpC_seq_k (fun K hK39 => ?_)
  refine wpC_region ?_
  refine wpS_quick 1 rfl ?_
  refine wpS_put rfl rfl rfl (yv_nilCheck rfl) ?_
  refine wpS_put rfl rfl rfl (yv_fieldAddr fo_32_10 rfl) ?_
  refine wpS_put rfl rfl rfl (yv_load_box sc_30 rfl (RW.here _) hS hs6 trivial sg21_1) ?_
  refine wpX_clear (z0 := (0 : Int)) he_enI em_30 rfl (by decide) rfl rfl rfl rfl hS ps4 (fun w hS => ?_)
  refine wpS_nil ?_
  refine QH_seq_k hK39 ?_
  refine wpC_draw 15 [14] (fun i b => (i = 14 → False)) ⟨by kernel_rfl, by kernel_rfl⟩ hS (fun w hS hB => ?_)
  refine wpR_batch [true, true, true, true, true, true, true, true, true, true, true, true, true, true] (by decide +kernel) (by repeat (first | exact PF.body | exact PF.round | apply PF.then | apply PF.inBlock | apply PF.jump)) ?_
  refine LtK.put rfl rfl rfl (yv_move rfl) ?_
  refine LtK.put rfl rfl rfl (yv_nilCheck rfl) ?_
  refine LtK.put rfl rfl rfl (yv_fieldAddr fo_32_10 rfl) ?_
  refine LtK.put rfl rfl rfl (yv_load_box sc_30 rfl (RW.below _) hS hs6 trivial sg21_1) ?_
  refine LtK.put rfl rfl rfl (yv_move rfl) ?_
  refine LtK.put rfl rfl rfl (yv_nilCheck rfl) ?_
  refine LtK.put rfl rfl rfl (yv_fieldAddr fo_32_0 rfl) ?_
  refine LtK.put rfl rfl rfl (yv_load_box sc_3 rfl (RW.below _) hS hs6 trivial sg0_1) ?_
  refine LtK.put rfl rfl rfl (yx_sub rfl rfl) ?_
  refine LtK.put rfl rfl rfl (yv_move rfl) ?_
  refine LtK.put rfl rfl rfl (yv_nilCheck rfl) ?_
  refine LtK.put rfl rfl rfl (yv_fieldAddr fo_32_3 rfl) ?_
  refine LtK.put rfl rfl rfl (yv_load_box sc_3 rfl (RW.below _) hS hs6 trivial sg3_1) ?_
  obtain ⟨e40, hi42, H⟩ := bind_some H
  obtain ⟨j41, hi42a, hi42b, hi42c⟩ := idx_some hi42
  refine LtK.put rfl rfl rfl (yx_idx el_30 rfl rfl hi42a (Nat.lt_of_lt_of_eq hi42c ((List.length_replicate ..).trans rfl)) (Rd.el (hS.row_rd hs4) he_enI hi42b)) ?_
  refine LtK.nil ?_
  refine wpR_seal [false, false, false, false, false, false, false, false, false, false, false, false, false, false, true] 14 ⟨by decide, by kernel_rfl, by kernel_rfl⟩ rfl rfl ?_
  dsimp only [pickL]
  refine wpX_storeR2 (a' := r13.binary) (zs := (setI (List.replicate r13.caps.length (0 : Int)) (IntKind.wrap .i64 (r13.id - 1)) r13.binary)) he_enI rfl rfl rfl CellsOf.int hS ps4 (Rd.el (hS.row_rd hs4) he_enI hi42b) hi42a hi42b rfl st0_1 (by kernel_rfl) rfl (fun w hS hB => ?_)
  refine wpS_nil ?_
  refine QH_stepG (hB.sub (fun _ _ h => by simp at h)) ?_
  refine wpR_end (by kernel_rfl) ?_
  refine QH_end rfl RV.nil rfl ?_
  refine ⟨_, rfl, ?_⟩
  refine wpS_nil ?_
  refine QH_seq_k hK35 ?_
  refine wpC_seq_k (fun K hK43 => ?_)
  refine wpC_region ?_
  refine wpS_put rfl rfl rfl (yv_load_boxA ag_32 rfl (RW.here _) hS hs6 trivial sg0_22) ?_
  refine wpS_store rfl rfl rfl CellsOf.agg hS ps5 st0_22 (by kernel_rfl) rfl (fun w hS hB => ?_)
  refine wpS_nil ?_
  refine QH_seq_k hK43 ?_
  refine wpC_ret ?_
  refine QH_ret rfl (RV.cell rfl (load_boxA ag_32 hS hs5 sg0_22) RV.nil) rfl ?_
  refine ⟨_, rfl, ?_⟩
  refine wpS_store rfl rfl rfl CellsOf.agg hS ps7 st0_22 (by kernel_rfl) rfl (fun w hS hB => ?_)
  refine wpS_nil ?_
  refine QH_seq_k hK6 ?_
  refine wpC_ret ?_
  refine QH_ret rfl (RV.cell rfl (load_boxA ag_32 hS hs7 sg0_22) RV.nil) rfl ?_
  obtain rfl := Option.some.inj H
  have hS := hS.front 4 rfl
  have hS := hS.front 4 rfl
  have hS := hS.front 4 rfl
  have hS := hS.front 4 rfl
  have hS := hS.front 4 rfl
  replace hS := hS.cut 5
  exact ⟨A15, c16, A19, c20, A23, c24, A27, c28, A31, c32, by rw [(setI_len ((List.length_replicate ..).trans rfl))]; rfl, k17, k21, k25, k29, (k_set (k_len (List.length_replicate ..) k33)), hS.eqv (by rw [(setI_len ((List.length_replicate ..).trans rfl))]; rfl)⟩
theorem c_advert_Binary (x0 : Co) (x1 : Int) (A0_ : Option Addr) (c0_ : Nat) (A1_ : Option Addr) (c1_ : Nat) (A2_ : Option Addr) (c2_ : Nat) (A3_ : Option Addr) (c3_ : Nat) (A4_ : Option Addr) (c4_ : Nat) (w0 : World) (s0_ : SlI w0 enE A0_ c0_ x0.tuple.log) (s1_ : SlI w0 enO A1_ c1_ x0.votes) (s2_ : SlI w0 enI A2_ c2_ x0.next) (s3_ : SlI w0 enI A3_ c3_ x0.mtch) (s4_ : SlI w0 enI A4_ c4_ x0.caps) {r : Co} (H : m_advert_Binary x0 x1 = some r) : Calls Try.prog 30 #[.agg #[.int .i64 x0.id, .int .i64 x0.n, .int .u8 x0.role, .int .i64 x0.binary, .int .i64 x0.tuple.snap.index, .int .i64 x0.tuple.snap.term, .int .i64 x0.tuple.snap.sum, .int .i64 x0.tuple.snap.level, .bool x0.tuple.snap.final, .slice A0_ x0.tuple.log.length c0_, .int .i64 x0.tuple.term, .int .i64 x0.tuple.vote, .int .i64 x0.commit, .int .i64 x0.applied.index, .int .i64 x0.applied.term, .int .i64 x0.applied.sum, .int .i64 x0.applied.level, .bool x0.applied.final, .slice A1_ x0.votes.length c1_, .slice A2_ x0.next.length c2_, .slice A3_ x0.mtch.length c3_, .slice A4_ x0.caps.length c4_], .int .i64 x1] w0 fun e w' => ∃ (A0 : Option Addr) (c0 : Nat) (A1 : Option Addr) (c1 : Nat) (A2 : Option Addr) (c2 : Nat) (A3 : Option Addr) (c3 : Nat) (A4 : Option Addr) (c4 : Nat), e = .returned (.agg #[.int .i64 r.id, .int .i64 r.n, .int .u8 r.role, .int .i64 r.binary, .int .i64 r.tuple.snap.index, .int .i64 r.tuple.snap.term, .int .i64 r.tuple.snap.sum, .int .i64 r.tuple.snap.level, .bool r.tuple.snap.final, .slice A0 r.tuple.log.length c0, .int .i64 r.tuple.term, .int .i64 r.tuple.vote, .int .i64 r.commit, .int .i64 r.applied.index, .int .i64 r.applied.term, .int .i64 r.applied.sum, .int .i64 r.applied.level, .bool r.applied.final, .slice A1 r.votes.length c1, .slice A2 r.next.length c2, .slice A3 r.mtch.length c3, .slice A4 r.caps.length c4]) ∧ (r.tuple.log.length ≤ c0 ∧ c0 ≤ maxLen) ∧ (r.votes.length ≤ c1 ∧ c1 ≤ maxLen) ∧ (r.next.length ≤ c2 ∧ c2 ≤ maxLen) ∧ (r.mtch.length ≤ c3 ∧ c3 ≤ maxLen) ∧ (r.caps.length ≤ c4 ∧ c4 ≤ maxLen) ∧ St0 All w0 w' [.row (.slice A0 r.tuple.log.length c0) 47 3 r.tuple.log.length (encs enE r.tuple.log), .row (.slice A1 r.votes.length c1) 4 1 r.votes.length (encs enO r.votes), .row (.slice A2 r.next.length c2) 3 1 r.next.length (encs enI r.next), .row (.slice A3 r.mtch.length c3) 3 1 r.mtch.length (encs enI r.mtch), .row (.slice A4 r.caps.length c4) 3 1 r.caps.length (encs enI r.caps)] := by
  unfold m_advert_Binary at H
  refine gw_enter2 Try.func30 rfl Try.ntmps30 rfl ?_
  have hS := St0.start All w0
  refine wpC_seq_k (fun K hK1 => ?_)
  refine wpC_region ?_
  refine wpS_box rfl rfl rfl CellsOf.agg hS (fun b2 w hS hB => ?_)
  refine wpS_box rfl rfl rfl CellsOf.int hS (fun b4 w hS hB => ?_)
  refine wpS_alloc rfl rfl zc_32 hS (fun b6 w hS hB => ?_)
  refine wpS_nil ?_
  refine QH_seq_k hK1 ?_
  refine wpC_seq_k (fun K hK8 => ?_)
  refine wpC_region ?_
  refine wpS_put rfl rfl rfl (yv_load_boxA ag_32 rfl (RW.here _) hS hs2 trivial sg0_22) ?_
  refine wpS_put rfl rfl rfl (yv_load_box sc_3 rfl (RW.here _) hS hs1 trivial sg0_1) ?_
  refine wpS_put rfl rfl rfl (yv_eql rfl rfl) ?_
  refine wpS_quick 1 rfl ?_
  refine wpS_case 8 rfl (fun hb => ?_) (fun hb => ?_)
  · replace H := cond_t H hb
    refine wpS_quick 3 rfl ?_
    refine wpS_put rfl rfl rfl (yv_makeFunc rfl rfl) ?_
    refine wpS_in rfl rfl rfl rfl (by kernel_rfl) rfl ?_
    show Calls _ _ #[_, _, _] _ _
    refine gw_enter3 Try.func65 rfl Try.ntmps65 rfl ?_
    refine wpC_seq_k (fun K hK9 => ?_)
    refine wpC_region ?_
    refine wpS_box rfl rfl rfl CellsOf.agg hS (fun b10 w hS hB => ?_)
    refine wpS_alloc rfl rfl zc_32 hS (fun b12 w hS hB => ?_)
    refine wpS_nil ?_
    refine QH_seq_k hK9 ?_
    refine wpC_seq_k (fun K hK14 => ?_)
    refine wpC_region ?_
    refine wpS_put rfl rfl rfl (yv_load_boxA ag_32 rfl (RW.here _) hS hs1 trivial sg0_22) ?_
    obtain ⟨r15, hm16, H⟩ := bind_some H
    refine wpS_call rfl rfl rfl rfl (by kernel_rfl) rfl (c_msg_Own x0 A0_ c0_ A1_ c1_ A2_ c2_ A3_ c3_ A4_ c4_ _ (SlI.of_rd s0_.k (hS.rd0 s0_.rd) (hS.blk0 s0_.blk)) (SlI.of_rd s1_.k (hS.rd0 s1_.rd) (hS.blk0 s1_.blk)) (SlI.of_rd s2_.k (hS.rd0 s2_.rd) (hS.blk0 s2_.blk)) (SlI.of_rd s3_.k (hS.rd0 s3_.rd) (hS.blk0 s3_.blk)) (SlI.of_rd s4_.k (hS.rd0 s4_.rd) (hS.blk0 s4_.blk)) hm16) ?_
    rintro e w ⟨A17, c18, A21, c22, A25, c26, A29, c30, A33, c34, rfl, k19, k23, k27, k31, k35, hN⟩; refine ⟨_, rfl, ?_⟩; have hB := hN.pure; have hS := hS.join hN; clear hN
    refine wpS_store rfl rfl rfl CellsOf.agg hS ps6 st0_22 (by kernel_rfl) rfl (fun w hS hB => ?_)
    refine wpS_nil ?_
    refine QH_seq_k hK14 ?_
    refine wpC_seq_k (fun K hK37 => ?_)
    refine wpC_seq_k (fun K hK38 => ?_)
    refine wpC_region ?_
    refine wpS_quick 2 rfl ?_
    refine wpS_put rfl rfl rfl (yv_load_boxA ag_32 rfl (RW.here _) hS hs6 trivial sg0_22) ?_
    obtain ⟨r39, hm40, H⟩ := bind_some H
    refine wpS_call rfl rfl rfl rfl (by kernel_rfl) rfl (c_msg_Right r15 A17 c18 A21 c22 A25 c26 A29 c30 A33 c34 _ (SlI.of_rd k19 (hS.row_rd hs0) (hS.row_blk hs0)) (SlI.of_rd k23 (hS.row_rd hs1) (hS.row_blk hs1)) (SlI.of_rd k27 (hS.row_rd hs2) (hS.row_blk hs2)) (SlI.of_rd k31 (hS.row_rd hs3) (hS.row_blk hs3)) (SlI.of_rd k35 (hS.row_rd hs4) (hS.row_blk hs4)) hm40) ?_
    rintro e w ⟨rfl, hN⟩; refine ⟨_, rfl, ?_⟩; have hB := hN.pure; have hS := hS.join hN; clear hN
    refine wpS_quick 1 rfl ?_
    refine wpS_nil ?_
    refine QH_seq_k hK38 ?_
    refine wpC_cond rfl (fun hb => ?_) (fun hb => ?_)
    rotate_left
    · replace H := cond_f H hb
      refine wpC_skip ?_
      refine QH_seq_k hK37 ?_
      refine wpC_seq_k (fun K hK45 => ?_)
      refine wpC_region ?_
      refine wpS_put rfl rfl rfl (yv_load_boxA ag_32 rfl (RW.here _) hS hs6 trivial sg0_22) ?_
      refine wpS_store rfl rfl rfl CellsOf.agg hS ps5 st0_22 (by kernel_rfl) rfl (fun w hS hB => ?_)
      refine wpS_nil ?_
      refine QH_seq_k hK45 ?_
      refine wpC_ret ?_
      refine QH_ret rfl (RV.cell rfl (load_boxA ag_32 hS hs5 sg0_22) RV.nil) rfl ?_
      refine ⟨_, rfl, ?_⟩
      refine wpS_store rfl rfl rfl CellsOf.agg hS ps7 st0_22 (by kernel_rfl) rfl (fun w hS hB => ?_)
      refine wpS_nil ?_
      refine QH_seq_k hK8 ?_
      refine wpC_ret ?_
      refine QH_ret rfl (RV.cell rfl (load_boxA ag_32 hS hs7 sg0_22) RV.nil) rfl ?_
      obtain rfl := Option.some.inj H
      have hS := hS.front 4 rfl
      have hS := hS.front 4 rfl
      have hS := hS.front 4 rfl
      have hS := hS.front 4 rfl
      have hS := hS.front 4 rfl
      replace hS := hS.cut 5
      exact ⟨A17, c18, A21, c22, A25, c26, A29, c30, A33, c34, rfl, k19, k23, k27, k31, k35, hS⟩
    replace H := cond_t H hb
    refine wpC_region ?_
    refine wpS_quick 1 rfl ?_
    refine wpS_in rfl rfl rfl rfl (by kernel_rfl) rfl ?_
    show Calls _ _ #[_, _] _ _
    refine gw_enter2 Try.func68 rfl Try.ntmps68 rfl ?_
    refine wpC_draw 17 [14, 16] (fun i b => (i = 14 → b ≠ b10) ∧ (i = 16 → False)) ⟨by kernel_rfl, by kernel_rfl⟩ hS (fun w hS hB => ?_)
    refine wpR_batch [true, false, false, false, false, false, false, false, false, false, true] (by decide +kernel) (by repeat (first | exact PF.body | exact PF.round | apply PF.then | apply PF.inBlock | apply PF.jump)) ?_
    refine LtK.put rfl rfl rfl (yv_move rfl) ?_
    refine LtK.put rfl rfl rfl (yv_load_box sc_3 rfl (RW.below _) hS hs8 trivial sg0_1) ?_
    refine LtK.nil ?_
    refine wpR_batchG [false, true, true, true, false, true, true, true, false, false, false, true] [14] (fun b => b ≠ b10) (by decide +kernel) (by intro j hj b hb; simp only [List.mem_cons, List.not_mem_nil, or_false] at hj; (try rcases hj with rfl | rfl | rfl | rfl | rfl) <;> simp_all) (by repeat (first | exact PF.body | exact PF.round | apply PF.then | apply PF.inBlock | apply PF.jump)) ?_
    refine LtK.put rfl rfl rfl (yv_move rfl) ?_
    refine LtK.put rfl rfl rfl (yv_nilCheck rfl) ?_
    refine LtK.put rfl rfl rfl (yv_fieldAddr fo_32_10 rfl) ?_
    refine LtK.put rfl rfl rfl (yv_move rfl) ?_
    refine LtK.put rfl rfl rfl (yv_nilCheck rfl) ?_
    refine LtK.put rfl rfl rfl (yv_fieldAddr fo_32_0 rfl) ?_
    refine LtK.put rfl rfl rfl (yv_load_box sc_3 rfl (RW.keepB _ _) hS hs8 (hS.ne 8 6 rfl rfl rfl) sg0_1) ?_
    refine LtK.nil ?_
    refine wpR_batch [false, false, false, false, true, false, false, false, true] (by decide +kernel) (by repeat (first | exact PF.body | exact PF.round | apply PF.then | apply PF.inBlock | apply PF.jump)) ?_
    refine LtK.put rfl rfl rfl (yv_load_box sc_30 rfl (RW.below _) hS hs6 trivial sg21_1) ?_
    refine LtK.put rfl rfl rfl (yv_load_box sc_3 rfl (RW.below _) hS hs6 trivial sg0_1) ?_
    refine LtK.nil ?_
    refine wpR_batchG [false, false, false, false, false, false, false, false, false, true, false, false, true] [14] (fun b => b ≠ b10) (by decide +kernel) (by intro j hj b hb; simp only [List.mem_cons, List.not_mem_nil, or_false] at hj; (try rcases hj with rfl | rfl | rfl | rfl | rfl) <;> simp_all) (by repeat (first | exact PF.body | exact PF.round | apply PF.then | apply PF.inBlock | apply PF.jump)) ?_
    refine LtK.put rfl rfl rfl (yx_sub rfl rfl) ?_
    refine LtK.put rfl rfl rfl (yv_nilCheck rfl) ?_
    refine LtK.nil ?_
    refine wpR_batch [false, false, false, false, false, false, false, false, false, false, false, false, false, true] (by decide +kernel) (by repeat (first | exact PF.body | exact PF.round | apply PF.then | apply PF.inBlock | apply PF.jump)) ?_
    refine LtK.put rfl rfl rfl (yv_fieldAddr fo_32_3 rfl) ?_
    refine LtK.nil ?_
    refine wpR_seal [false, false, false, false, false, false, false, false, false, false, false, false, false, false, true] 14 ⟨by decide, by kernel_rfl, by kernel_rfl⟩ rfl rfl ?_
    dsimp only [pickL]
    refine wpS_store rfl rfl rfl CellsOf.int hS ps6 st3_1 (by kernel_rfl) rfl (fun w hS hB => ?_)
    refine wpS_nil ?_
    refine QH_stepG (hB.sub (fun _ _ h => by simpa using h)) ?_
    refine wpR_batch [false, false, false, false, false, false, false, false, false, false, false, false, false, false, false, true] (by decide +kernel) (by repeat (first | exact PF.body | exact PF.round | apply PF.then | apply PF.inBlock | apply PF.jump)) ?_
    obtain ⟨e41, hi43, H⟩ := bind_some H
    obtain ⟨j42, hi43a, hi43b, hi43c⟩ := idx_some hi43
    refine LtK.put rfl rfl rfl (yx_idx el_30 rfl rfl hi43a hi43c (Rd.el (hS.row_rd hs4) he_enI hi43b)) ?_
    refine LtK.nil ?_
    refine wpR_seal [false, false, false, false, false, false, false, false, false, false, false, false, false, false, false, false, true] 16 ⟨by decide, by kernel_rfl, by kernel_rfl⟩ rfl rfl ?_
    dsimp only [pickL]
    refine wpX_storeR2 (a' := x1) (zs := (setI r15.caps (IntKind.wrap .i64 (r15.id - 1)) x1)) he_enI rfl rfl rfl CellsOf.int hS ps4 (Rd.el (hS.row_rd hs4) he_enI hi43b) hi43a hi43b rfl st0_1 (by kernel_rfl) rfl (fun w hS hB => ?_)
    refine wpS_nil ?_
    refine QH_stepG (hB.sub (fun _ _ h => by simp at h)) ?_
    refine wpR_end (by kernel_rfl) ?_
    refine QH_end rfl RV.nil rfl ?_
    refine ⟨_, rfl, ?_⟩
    refine wpS_nil ?_
    refine QH_seq_k hK37 ?_
    refine wpC_seq_k (fun K hK44 => ?_)
    refine wpC_region ?_
    refine wpS_put rfl rfl rfl (yv_load_boxA ag_32 rfl (RW.here _) hS hs6 trivial sg0_22) ?_
    refine wpS_store rfl rfl rfl CellsOf.agg hS ps5 st0_22 (by kernel_rfl) rfl (fun w hS hB => ?_)
    refine wpS_nil ?_
    refine QH_seq_k hK44 ?_
    refine wpC_ret ?_
    refine QH_ret rfl (RV.cell rfl (load_boxA ag_32 hS hs5 sg0_22) RV.nil) rfl ?_
    refine ⟨_, rfl, ?_⟩
    refine wpS_store rfl rfl rfl CellsOf.agg hS ps7 st0_22 (by kernel_rfl) rfl (fun w hS hB => ?_)
    refine wpS_nil ?_
    refine QH_seq_k hK8 ?_
    refine wpC_ret ?_
    refine QH_ret rfl (RV.cell rfl (load_boxA ag_32 hS hs7 sg0_22) RV.nil) rfl ?_
    obtain rfl := Option.some.inj H
    have hS := hS.front 4 rfl
    have hS := hS.front 4 rfl
    have hS := hS.front 4 rfl
    have hS := hS.front 4 rfl
    have hS := hS.front 4 rfl
    replace hS := hS.cut 5
    exact ⟨A17, c18, A21, c22, A25, c26, A29, c30, A33, c34, by rw [(setI_len rfl)]; rfl, k19, k23, k27, k31, (k_set k35), hS.eqv (by rw [(setI_len rfl)]; rfl)⟩
  replace H := cond_f H hb
  refine wpS_put rfl rfl rfl (yv_load_box sc_3 rfl (RW.here _) hS hs1 trivial sg0_1) ?_
  refine wpS_put rfl rfl rfl (yv_eql rfl rfl) ?_
  refine wpS_quick 1 rfl ?_
  refine wpS_put rfl rfl rfl (yv_makeFunc rfl rfl) ?_
  refine wpS_in rfl rfl rfl rfl (by kernel_rfl) rfl ?_
  show Calls _ _ #[_, _, _] _ _
  refine gw_enter3 Try.func65 rfl Try.ntmps65 rfl ?_
  refine wpC_seq_k (fun K hK46 => ?_)
  refine wpC_region ?_
  refine wpS_box rfl rfl rfl CellsOf.agg hS (fun b47 w hS hB => ?_)
  refine wpS_alloc rfl rfl zc_32 hS (fun b49 w hS hB => ?_)
  refine wpS_nil ?_
  refine QH_seq_k hK46 ?_
  refine wpC_seq_k (fun K hK51 => ?_)
  refine wpC_region ?_
  refine wpS_put rfl rfl rfl (yv_load_boxA ag_32 rfl (RW.here _) hS hs1 trivial sg0_22) ?_
  obtain ⟨r52, hm53, H⟩ := bind_some H
  refine wpS_call rfl rfl rfl rfl (by kernel_rfl) rfl (c_msg_Own x0 A0_ c0_ A1_ c1_ A2_ c2_ A3_ c3_ A4_ c4_ _ (SlI.of_rd s0_.k (hS.rd0 s0_.rd) (hS.blk0 s0_.blk)) (SlI.of_rd s1_.k (hS.rd0 s1_.rd) (hS.blk0 s1_.blk)) (SlI.of_rd s2_.k (hS.rd0 s2_.rd) (hS.blk0 s2_.blk)) (SlI.of_rd s3_.k (hS.rd0 s3_.rd) (hS.blk0 s3_.blk)) (SlI.of_rd s4_.k (hS.rd0 s4_.rd) (hS.blk0 s4_.blk)) hm53) ?_
  rintro e w ⟨A54, c55, A58, c59, A62, c63, A66, c67, A70, c71, rfl, k56, k60, k64, k68, k72, hN⟩; refine ⟨_, rfl, ?_⟩; have hB := hN.pure; have hS := hS.join hN; clear hN
  refine wpS_store rfl rfl rfl CellsOf.agg hS ps6 st0_22 (by kernel_rfl) rfl (fun w hS hB => ?_)
  refine wpS_nil ?_
  refine QH_seq_k hK51 ?_
  refine wpC_seq_k (fun K hK74 => ?_)
  refine wpC_seq_k (fun K hK75 => ?_)
  refine wpC_region ?_
  refine wpS_quick 2 rfl ?_
  refine wpS_case 10 rfl (fun hb => ?_) (fun hb => ?_)
  rotate_left
  · replace H := cond_f H hb
    refine wpS_quick 3 rfl ?_
    refine wpS_nil ?_
    refine QH_seq_k hK75 ?_
    refine wpC_cond_f rfl rfl ?_
    refine wpC_skip ?_
    refine QH_seq_k hK74 ?_
    refine wpC_seq_k (fun K hK83 => ?_)
    refine wpC_region ?_
    refine wpS_put rfl rfl rfl (yv_load_boxA ag_32 rfl (RW.here _) hS hs6 trivial sg0_22) ?_
    refine wpS_store rfl rfl rfl CellsOf.agg hS ps5 st0_22 (by kernel_rfl) rfl (fun w hS hB => ?_)
    refine wpS_nil ?_
    refine QH_seq_k hK83 ?_
    refine wpC_ret ?_
    refine QH_ret rfl (RV.cell rfl (load_boxA ag_32 hS hs5 sg0_22) RV.nil) rfl ?_
    refine ⟨_, rfl, ?_⟩
    refine wpS_store rfl rfl rfl CellsOf.agg hS ps7 st0_22 (by kernel_rfl) rfl (fun w hS hB => ?_)
    refine wpS_nil ?_
    refine QH_seq_k hK8 ?_
    refine wpC_ret ?_
    refine QH_ret rfl (RV.cell rfl (load_boxA ag_32 hS hs7 sg0_22) RV.nil) rfl ?_
    obtain rfl := Option.some.inj H
    have hS := hS.front 4 rfl
    have hS := hS.front 4 rfl
    have hS := hS.front 4 rfl
    have hS := hS.front 4 rfl
    have hS := hS.front 4 rfl
    replace hS := hS.cut 5
    exact ⟨A54, c55, A58, c59, A62, c63, A66, c67, A70, c71, rfl, k56, k60, k64, k68, k72, hS⟩
  replace H := cond_t H hb
  refine wpS_put rfl rfl rfl (yv_load_boxA ag_32 rfl (RW.here _) hS hs6 trivial sg0_22) ?_
  obtain ⟨r76, hm77, H⟩ := bind_some H
  refine wpS_call rfl rfl rfl rfl (by kernel_rfl) rfl (c_msg_Right r52 A54 c55 A58 c59 A62 c63 A66 c67 A70 c71 _ (SlI.of_rd k56 (hS.row_rd hs0) (hS.row_blk hs0)) (SlI.of_rd k60 (hS.row_rd hs1) (hS.row_blk hs1)) (SlI.of_rd k64 (hS.row_rd hs2) (hS.row_blk hs2)) (SlI.of_rd k68 (hS.row_rd hs3) (hS.row_blk hs3)) (SlI.of_rd k72 (hS.row_rd hs4) (hS.row_blk hs4)) hm77) ?_
  rintro e w ⟨rfl, hN⟩; refine ⟨_, rfl, ?_⟩; have hB := hN.pure; have hS := hS.join hN; clear hN
  refine wpS_quick 1 rfl ?_
  refine wpS_nil ?_
  refine QH_seq_k hK75 ?_
  refine wpC_cond rfl (fun hb => ?_) (fun hb => ?_)
  rotate_left
  · replace H := cond_f H hb
    refine wpC_skip ?_
    refine QH_seq_k hK74 ?_
    refine wpC_seq_k (fun K hK82 => ?_)
    refine wpC_region ?_
    refine wpS_put rfl rfl rfl (yv_load_boxA ag_32 rfl (RW.here _) hS hs6 trivial sg0_22) ?_
    refine wpS_store rfl rfl rfl CellsOf.agg hS ps5 st0_22 (by kernel_rfl) rfl (fun w hS hB => ?_)
    refine wpS_nil ?_
    refine QH_seq_k hK82 ?_
    refine wpC_ret ?_
    refine QH_ret rfl (RV.cell rfl (load_boxA ag_32 hS hs5 sg0_22) RV.nil) rfl ?_
    refine ⟨_, rfl, ?_⟩
    refine wpS_store rfl rfl rfl CellsOf.agg hS ps7 st0_22 (by kernel_rfl) rfl (fun w hS hB => ?_)
    refine wpS_nil ?_
    refine QH_seq_k hK8 ?_
    refine wpC_ret ?_
    refine QH_ret rfl (RV.cell rfl (load_boxA ag_32 hS hs7 sg0_22) RV.nil) rfl ?_
    obtain rfl := Option.some.inj H
    have hS := hS.front 4 rfl
    have hS := hS.front 4 rfl
    have hS := hS.front 4 rfl
    have hS := hS.front 4 rfl
    have hS := hS.front 4 rfl
    replace hS := hS.cut 5
    exact ⟨A54, c55, A58, c59, A62, c63, A66, c67, A70, c71, rfl, k56, k60, k64, k68, k72, hS⟩
  replace H := cond_t H hb
  refine wpC_region ?_
  refine wpS_quick 1 rfl ?_
  refine wpS_in rfl rfl rfl rfl (by kernel_rfl) rfl ?_
  show Calls _ _ #[_, _] _ _
  refine gw_enter2 Try.func68 rfl Try.ntmps68 rfl ?_
  refine wpC_draw 17 [14, 16] (fun i b => (i = 14 → b ≠ b47) ∧ (i = 16 → False)) ⟨by kernel_rfl, by kernel_rfl⟩ hS (fun w hS hB => ?_)
  refine wpR_batch [true, false, false, false, false, false, false, false, false, false, true] (by decide +kernel) (by repeat (first | exact PF.body | exact PF.round | apply PF.then | apply PF.inBlock | apply PF.jump)) ?_
  refine LtK.put rfl rfl rfl (yv_move rfl) ?_
  refine LtK.put rfl rfl rfl (yv_load_box sc_3 rfl (RW.below _) hS hs8 trivial sg0_1) ?_
  refine LtK.nil ?_
  refine wpR_batchG [false, true, true, true, false, true, true, true, false, false, false, true] [14] (fun b => b ≠ b47) (by decide +kernel) (by intro j hj b hb; simp only [List.mem_cons, List.not_mem_nil, or_false] at hj; (try rcases hj with rfl | rfl | rfl | rfl | rfl) <;> simp_all) (by repeat (first | exact PF.body | exact PF.round | apply PF.then | apply PF.inBlock | apply PF.jump)) ?_
  refine LtK.put rfl rfl rfl (yv_move rfl) ?_
  refine LtK.put rfl rfl rfl (yv_nilCheck rfl) ?_
  refine LtK.put rfl rfl rfl (yv_fieldAddr fo_32_10 rfl) ?_
  refine LtK.put rfl rfl rfl (yv_move rfl) ?_
  refine LtK.put rfl rfl rfl (yv_nilCheck rfl) ?_
  refine LtK.put rfl rfl rfl (yv_fieldAddr fo_32_0 rfl) ?_
  refine LtK.put rfl rfl rfl (yv_load_box sc_3 rfl (RW.keepB _ _) hS hs8 (hS.ne 8 6 rfl rfl rfl) sg0_1) ?_
  refine LtK.nil ?_
  refine wpR_batch [false, false, false, false, true, false, false, false, true] (by decide +kernel) (by repeat (first | exact PF.body | exact PF.round | apply PF.then | apply PF.inBlock | apply PF.jump)) ?_
  refine LtK.put rfl rfl rfl (yv_load_box sc_30 rfl (RW.below _) hS hs6 trivial sg21_1) ?_
  refine LtK.put rfl rfl rfl (yv_load_box sc_3 rfl (RW.below _) hS hs6 trivial sg0_1) ?_
  refine LtK.nil ?_
  refine wpR_batchG [false, false, false, false, false, false, false, false, false, true, false, false, true] [14] (fun b => b ≠ b47) (by decide +kernel) (by intro j hj b hb; simp only [List.mem_cons, List.not_mem_nil, or_false] at hj; (try rcases hj with rfl | rfl | rfl | rfl | rfl) <;> simp_all) (by repeat (first | exact PF.body | exact PF.round | apply PF.then | apply PF.inBlock | apply PF.jump)) ?_
  refine LtK.put rfl rfl rfl (yx_sub rfl rfl) ?_
  refine LtK.put rfl rfl rfl (yv_nilCheck rfl) ?_
  refine LtK.nil ?_
  refine wpR_batch [false, false, false, false, false, false, false, false, false, false, false, false, false, true] (by decide +kernel) (by repeat (first | exact PF.body | exact PF.round | apply PF.then | apply PF.inBlock | apply PF.jump)) ?_
  refine LtK.put rfl rfl rfl (yv_fieldAddr fo_32_3 rfl) ?_
  refine LtK.nil ?_
  refine wpR_seal [false, false, false, false, false, false, false, false, false, false, false, false, false, false, true] 14 ⟨by decide, by kernel_rfl, by kernel_rfl⟩ rfl rfl ?_
  dsimp only [pickL]
  refine wpS_store rfl rfl rfl CellsOf.int hS ps6 st3_1 (by kernel_rfl) rfl (fun w hS hB => ?_)
  refine wpS_nil ?_
  refine QH_stepG (hB.sub (fun _ _ h => by simpa using h)) ?_
  refine wpR_batch [false, false, false, false, false, false, false, false, false, false, false, false, false, false, false, true] (by decide +kernel) (by repeat (first | exact PF.body | exact PF.round | apply PF.then | apply PF.inBlock | apply PF.jump)) ?_
  obtain ⟨e78, hi80, H⟩ := bind_some H
  obtain ⟨j79, hi80a, hi80b, hi80c⟩ := idx_some hi80
  refine LtK.put rfl rfl rfl (yx_idx el_30 rfl rfl hi80a hi80c (Rd.el (hS.row_rd hs4) he_enI hi80b)) ?_
  refine LtK.nil ?_
  refine wpR_seal [false, false, false, false, false, false, false, false, false, false, false, false, false, false, false, false, true] 16 ⟨by decide, by kernel_rfl, by kernel_rfl⟩ rfl rfl ?_
  dsimp only [pickL]
  refine wpX_storeR2 (a' := x1) (zs := (setI r52.caps (IntKind.wrap .i64 (r52.id - 1)) x1)) he_enI rfl rfl rfl CellsOf.int hS ps4 (Rd.el (hS.row_rd hs4) he_enI hi80b) hi80a hi80b rfl st0_1 (by kernel_rfl) rfl (fun w hS hB => ?_)
  refine wpS_nil ?_
  refine QH_stepG (hB.sub (fun _ _ h => by simp at h)) ?_
  refine wpR_end (by kernel_rfl) ?_
  refine QH_end rfl RV.nil rfl ?_
  refine ⟨_, rfl, ?_⟩
  refine wpS_nil ?_
  refine QH_seq_k hK74 ?_
  refine wpC_seq_k (fun K hK81 => ?_)
  refine wpC_region ?_
  refine wpS_put rfl rfl rfl (yv_load_boxA ag_32 rfl (RW.here _) hS hs6 trivial sg0_22) ?_
  refine wpS_store rfl rfl rfl CellsOf.agg hS ps5 st0_22 (by kernel_rfl) rfl (fun w hS hB => ?_)
  refine wpS_nil ?_
  refine QH_seq_k hK81 ?_
  refine wpC_ret ?_
  refine QH_ret rfl (RV.cell rfl (load_boxA ag_32 hS hs5 sg0_22) RV.nil) rfl ?_
  refine ⟨_, rfl, ?_⟩
  refine wpS_store rfl rfl rfl CellsOf.agg hS ps7 st0_22 (by kernel_rfl) rfl (fun w hS hB => ?_)
  refine wpS_nil ?_
  refine QH_seq_k hK8 ?_
  refine wpC_ret ?_
  refine QH_ret rfl (RV.cell rfl (load_boxA ag_32 hS hs7 sg0_22) RV.nil) rfl ?_
  obtain rfl := Option.some.inj H
  have hS := hS.front 4 rfl
  have hS := hS.front 4 rfl
  have hS := hS.front 4 rfl
  have hS := hS.front 4 rfl
  have hS := hS.front 4 rfl
  replace hS := hS.cut 5
  exact ⟨A54, c55, A58, c59, A62, c63, A66, c67, A70, c71, by rw [(setI_len rfl)]; rfl, k56, k60, k64, k68, (k_set k72), hS.eqv (by rw [(setI_len rfl)]; rfl)⟩
theorem c_level_Known_1 (x0 : Int) (w0 : World) {r : Bool} (H : m_level_Known_1 x0 = some r) : Calls Try.prog 92 #[.int .i64 x0] w0 fun e w' => e = .returned (.bool r) ∧ St0 All w0 w' [] := by
  unfold m_level_Known_1 at H
  refine gw_enter1 Try.func92 rfl Try.ntmps92 rfl ?_
  have hS := St0.start All w0
  refine wpC_seq_k (fun K hK1 => ?_)
  refine wpC_region ?_
  refine wpS_quick 1 rfl ?_
  refine wpS_nil ?_
  refine QH_seq_k hK1 ?_
  refine wpC_seq_k (fun K hK2 => ?_)
  refine wpC_region ?_
  refine wpS_quick 1 rfl ?_
  refine wpS_put rfl rfl rfl (yv_neq rfl rfl) ?_
  refine wpS_quick 1 rfl ?_
  refine wpS_nil ?_
  refine QH_seq_k hK2 ?_
  refine wpC_ret ?_
  refine QH_ret rfl (RV.tmp rfl RV.nil) rfl ?_
  obtain rfl := Option.some.inj H
  replace hS := hS.cut 0
  exact ⟨rfl, hS⟩
theorem c_level_Known (x0 : List Int) (A0_ : Option Addr) (c0_ : Nat) (w0 : World) (s0_ : SlI w0 enI A0_ c0_ x0) {r : Bool} (H : m_level_Known x0 = some r) : Calls Try.prog 70 #[.slice A0_ x0.length c0_] w0 fun e w' => e = .returned (.bool r) ∧ St0 All w0 w' [] := by
  unfold m_level_Known at H
  refine gw_enter1 Try.func70 rfl Try.ntmps70 rfl ?_
  have hS := St0.start All w0
  refine wpC_seq_k (fun K hK1 => ?_)
  refine wpC_region ?_
  refine wpS_quick 1 rfl ?_
  refine wpS_nil ?_
  refine QH_seq_k hK1 ?_
  refine wpC_scope1 0 rfl ?_
  refine wpC_seq_k (fun K hK2 => ?_)
  refine wpC_seq_k (fun K hK3 => ?_)
  refine wpC_region ?_
  refine wpS_quick 1 rfl ?_
  refine wpS_put rfl rfl rfl (yv_len el_30 rfl) ?_
  refine wpS_put rfl rfl rfl (yv_eql rfl rfl) ?_
  refine wpS_nil ?_
  refine QH_seq_k hK3 ?_
  refine wpC_cond rfl (fun hb => ?_) (fun hb => ?_)
  · replace H := cond_t H hb
    refine wpC_goto ?_
    refine QH_then_goto ?_
    refine QH_ahead ?_
    refine wpC_seq_k (fun K hK4 => ?_)
    refine wpC_skip ?_
    refine QH_seq_k hK4 ?_
    refine wpC_seq_k (fun K hK5 => ?_)
    refine wpC_region ?_
    refine wpS_quick 2 rfl ?_
    refine wpS_nil ?_
    refine QH_seq_k hK5 ?_
    refine wpC_ret ?_
    refine QH_jmp_ret ?_
    refine QH_ret rfl (RV.tmp rfl RV.nil) rfl ?_
    obtain rfl := Option.some.inj H
    replace hS := hS.cut 0
    exact ⟨rfl, hS⟩
  replace H := cond_f H hb
  refine wpC_skip ?_
  refine QH_seq_k hK2 ?_
  refine wpC_seq_k (fun K hK6 => ?_)
  refine wpC_region ?_
  refine wpS_quick 1 rfl ?_
  refine wpS_in rfl rfl rfl rfl (by kernel_rfl) rfl ?_
  show Calls _ _ #[_, _] _ _
  refine gw_enter2 Try.func86 rfl Try.ntmps86 rfl ?_
  refine wpC_seq_k (fun K hK7 => ?_)
  refine wpC_region ?_
  refine wpS_quick 1 rfl ?_
  refine wpS_nil ?_
  refine QH_seq_k hK7 ?_
  refine wpC_seq_k (fun K hK8 => ?_)
  refine wpC_region ?_
  refine wpS_quick 2 rfl ?_
  refine wpS_in rfl rfl rfl rfl (by kernel_rfl) rfl ?_
  show Calls _ _ #[_, _] _ _
  refine gw_enter2 Try.func102 rfl Try.ntmps102 rfl ?_
  refine wpC_seq_k (fun K hK9 => ?_)
  refine wpC_region ?_
  refine wpS_quick 1 rfl ?_
  refine wpS_nil ?_
  refine QH_seq_k hK9 ?_
  refine wpC_seq_k (fun K hK10 => ?_)
  refine wpC_seq_k (fun K hK11 => ?_)
  refine wpC_region ?_
  refine wpS_quick 1 rfl ?_
  refine wpS_put rfl rfl rfl (yv_len el_30 rfl) ?_
  refine wpS_quick 1 rfl ?_
  refine wpS_nil ?_
  refine QH_seq_k hK11 ?_
  refine wpC_block ?_
  refine wpC_loop (X := Nat × Int × Int) (fun x => (0, .slice A0_ x0.length c0_) :: (1, .func (.func 92) #[] #[]) :: (4, .int .i64 x.2.1) :: (7, .int .i64 (x0.length : Int)) :: (8, .int .i64 x.2.2) :: []) (fun x w => St0 All w0 w ([]) ∧ m_level_Known_l1 x0 x.1 x.2.1 x.2.2 = some r) (fun x => x.1) (fuelN, 0, 0) (by repeat (first | exact Sub.nil | refine Sub.cons rfl ?_)) ⟨hS, H⟩ ?_
  rintro ⟨n, v12, v13⟩ w ⟨hS, H⟩
  dsimp only at hS H ⊢
  obtain _ | n := n
  · have H0 : none = some r := H
    cases H0
  rw [m_level_Known_l1] at H
  refine wpC_seq_k (fun K hK14 => ?_)
  refine wpC_region ?_
  refine wpS_put rfl rfl rfl (yv_lss rfl rfl) ?_
  refine wpS_nil ?_
  refine QH_seq_k hK14 ?_
  refine wpC_seq_k (fun K hK15 => ?_)
  refine wpC_cond rfl (fun hb => ?_) (fun hb => ?_)
  rotate_left
  · replace H := cond_f H hb
    refine wpC_exit ?_
    refine QH_then_exit ?_
    refine QH_then_exit ?_
    refine QH_block_hit ?_
    refine QH_seq_k hK10 ?_
    refine wpC_seq_k (fun K hK27 => ?_)
    refine wpC_region ?_
    refine wpS_quick 1 rfl ?_
    refine wpS_nil ?_
    refine QH_seq_k hK27 ?_
    refine wpC_ret ?_
    refine QH_ret rfl (RV.tmp rfl RV.nil) rfl ?_
    refine ⟨_, rfl, ?_⟩
    refine wpS_put rfl rfl rfl (yv_geq rfl rfl) ?_
    refine wpS_quick 1 rfl ?_
    refine wpS_nil ?_
    refine QH_seq_k hK8 ?_
    refine wpC_ret ?_
    refine QH_ret rfl (RV.tmp rfl RV.nil) rfl ?_
    refine ⟨_, rfl, ?_⟩
    refine wpS_put rfl rfl rfl (yv_not rfl) ?_
    refine wpS_quick 1 rfl ?_
    refine wpS_nil ?_
    refine QH_seq_k hK6 ?_
    refine wpC_seq_k (fun K hK28 => ?_)
    refine wpC_label ?_
    refine QH_seq_k hK28 ?_
    refine wpC_seq_k (fun K hK29 => ?_)
    refine wpC_region ?_
    refine wpS_quick 2 rfl ?_
    refine wpS_nil ?_
    refine QH_seq_k hK29 ?_
    refine wpC_ret ?_
    refine QH_jmp_ret ?_
    refine QH_ret rfl (RV.tmp rfl RV.nil) rfl ?_
    obtain rfl := Option.some.inj H
    replace hS := hS.cut 0
    exact ⟨rfl, hS⟩
  replace H := cond_t H hb
  refine wpC_skip ?_
  refine QH_seq_k hK15 ?_
  refine wpC_seq_k (fun K hK16 => ?_)
  refine wpC_block ?_
  refine wpC_seq_k (fun K hK17 => ?_)
  refine wpC_region ?_
  refine wpS_quick 2 rfl ?_
  refine wpS_nil ?_
  refine QH_seq_k hK17 ?_
  refine wpC_seq_k (fun K hK18 => ?_)
  refine wpC_region ?_
  refine wpS_quick 3 rfl ?_
  obtain ⟨e19, hi21, H⟩ := bind_some H
  obtain ⟨j20, hi21a, hi21b, hi21c⟩ := idx_some hi21
  refine wpS_put rfl rfl rfl (yx_idx el_30 rfl rfl hi21a hi21c (Rd.el (hS.rd0 s0_.rd) he_enI hi21b)) ?_
  refine wpS_put rfl rfl rfl (yx_ld0 sc_3 rfl (RW.here _) (Rd.el (hS.rd0 s0_.rd) he_enI hi21b) rfl) ?_
  obtain ⟨r22, hm23, H⟩ := bind_some H
  refine wpS_call rfl rfl rfl rfl (by kernel_rfl) rfl (c_level_Known_1 e19 _ hm23) ?_
  rintro e w ⟨rfl, hN⟩; refine ⟨_, rfl, ?_⟩; have hB := hN.pure; have hS := hS.join hN; clear hN
  refine wpS_nil ?_
  refine QH_seq_k hK18 ?_
  refine wpC_cond rfl (fun hb => ?_) (fun hb => ?_)
  rotate_left
  · replace H := cond_f H hb
    refine wpC_skip ?_
    refine QH_block_normal ?_
    refine QH_seq_k hK16 ?_
    refine wpC_region ?_
    refine wpS_put rfl rfl rfl (yx_add rfl rfl) ?_
    refine wpS_quick 1 rfl ?_
    refine wpS_nil ?_
    exact QH_again (n, v12, (IntKind.wrap .i64 (v13 + 1))) (by repeat (first | exact Sub.nil | refine Sub.cons rfl ?_)) ⟨hS, H⟩ (Nat.lt_succ_self _)
  replace H := cond_t H hb
  refine wpC_seq_k (fun K hK24 => ?_)
  refine wpC_region ?_
  refine wpS_quick 2 rfl ?_
  refine wpS_nil ?_
  refine QH_seq_k hK24 ?_
  refine wpC_ret ?_
  refine QH_block_ret ?_
  refine QH_then_ret ?_
  refine QH_then_ret ?_
  refine QH_block_ret ?_
  refine QH_then_ret ?_
  refine QH_ret rfl (RV.tmp rfl RV.nil) rfl ?_
  refine ⟨_, rfl, ?_⟩
  refine wpS_put rfl rfl rfl (yv_geq rfl rfl) ?_
  refine wpS_quick 1 rfl ?_
  refine wpS_nil ?_
  refine QH_seq_k hK8 ?_
  refine wpC_ret ?_
  refine QH_ret rfl (RV.tmp rfl RV.nil) rfl ?_
  refine ⟨_, rfl, ?_⟩
  refine wpS_put rfl rfl rfl (yv_not rfl) ?_
  refine wpS_quick 1 rfl ?_
  refine wpS_nil ?_
  refine QH_seq_k hK6 ?_
  refine wpC_seq_k (fun K hK25 => ?_)
  refine wpC_label ?_
  refine QH_seq_k hK25 ?_
  refine wpC_seq_k (fun K hK26 => ?_)
  refine wpC_region ?_
  refine wpS_quick 2 rfl ?_
  refine wpS_nil ?_
  refine QH_seq_k hK26 ?_
  refine wpC_ret ?_
  refine QH_jmp_ret ?_
  refine QH_ret rfl (RV.tmp rfl RV.nil) rfl ?_
  obtain rfl := Option.some.inj H
  replace hS := hS.cut 0
  exact ⟨rfl, hS⟩
theorem c_advert_All (x0 : Co) (A0_ : Option Addr) (c0_ : Nat) (A1_ : Option Addr) (c1_ : Nat) (A2_ : Option Addr) (c2_ : Nat) (A3_ : Option Addr) (c3_ : Nat) (A4_ : Option Addr) (c4_ : Nat) (w0 : World) (s0_ : SlI w0 enE A0_ c0_ x0.tuple.log) (s1_ : SlI w0 enO A1_ c1_ x0.votes) (s2_ : SlI w0 enI A2_ c2_ x0.next) (s3_ : SlI w0 enI A3_ c3_ x0.mtch) (s4_ : SlI w0 enI A4_ c4_ x0.caps) {r : Bool} (H : m_advert_All x0 = some r) : Calls Try.prog 33 #[.agg #[.int .i64 x0.id, .int .i64 x0.n, .int .u8 x0.role, .int .i64 x0.binary, .int .i64 x0.tuple.snap.index, .int .i64 x0.tuple.snap.term, .int .i64 x0.tuple.snap.sum, .int .i64 x0.tuple.snap.level, .bool x0.tuple.snap.final, .slice A0_ x0.tuple.log.length c0_, .int .i64 x0.tuple.term, .int .i64 x0.tuple.vote, .int .i64 x0.commit, .int .i64 x0.applied.index, .int .i64 x0.applied.term, .int .i64 x0.applied.sum, .int .i64 x0.applied.level, .bool x0.applied.final, .slice A1_ x0.votes.length c1_, .slice A2_ x0.next.length c2_, .slice A3_ x0.mtch.length c3_, .slice A4_ x0.caps.length c4_]] w0 fun e w' => e = .returned (.bool r) ∧ St0 All w0 w' [] := by
  unfold m_advert_All at H
  refine gw_enter1 Try.func33 rfl Try.ntmps33 rfl ?_
  have hS := St0.start All w0
  refine wpC_seq_k (fun K hK1 => ?_)
  refine wpC_region ?_
  refine wpS_box rfl rfl rfl CellsOf.agg hS (fun b2 w hS hB => ?_)
  refine wpS_quick 1 rfl ?_
  refine wpS_nil ?_
  refine QH_seq_k hK1 ?_
  refine wpC_seq_k (fun K hK4 => ?_)
  refine wpC_region ?_
  refine wpS_put rfl rfl rfl (yv_fieldAddr fo_32_10 rfl) ?_
  refine wpS_put rfl rfl rfl (yv_load_box sc_30 rfl (RW.here _) hS hs0 trivial sg21_1) ?_
  obtain ⟨r5, hm6, H⟩ := bind_some H
  refine wpS_call rfl rfl rfl rfl (by kernel_rfl) rfl (c_level_Known x0.caps A4_ c4_ _ (SlI.of_rd s4_.k (hS.rd0 s4_.rd) (hS.blk0 s4_.blk)) hm6) ?_
  rintro e w ⟨rfl, hN⟩; refine ⟨_, rfl, ?_⟩; have hB := hN.pure; have hS := hS.join hN; clear hN
  refine wpS_quick 1 rfl ?_
  refine wpS_nil ?_
  refine QH_seq_k hK4 ?_
  refine wpC_ret ?_
  refine QH_ret rfl (RV.tmp rfl RV.nil) rfl ?_
  obtain rfl := Option.some.inj H
  replace hS := hS.cut 0
  exact ⟨rfl, hS⟩
theorem c_advert_caps (x0 : Co) (A0_ : Option Addr) (c0_ : Nat) (A1_ : Option Addr) (c1_ : Nat) (A2_ : Option Addr) (c2_ : Nat) (A3_ : Option Addr) (c3_ : Nat) (A4_ : Option Addr) (c4_ : Nat) (w0 : World) (s0_ : SlI w0 enE A0_ c0_ x0.tuple.log) (s1_ : SlI w0 enO A1_ c1_ x0.votes) (s2_ : SlI w0 enI A2_ c2_ x0.next) (s3_ : SlI w0 enI A3_ c3_ x0.mtch) (s4_ : SlI w0 enI A4_ c4_ x0.caps) : Calls Try.prog 72 #[.agg #[.int .i64 x0.id, .int .i64 x0.n, .int .u8 x0.role, .int .i64 x0.binary, .int .i64 x0.tuple.snap.index, .int .i64 x0.tuple.snap.term, .int .i64 x0.tuple.snap.sum, .int .i64 x0.tuple.snap.level, .bool x0.tuple.snap.final, .slice A0_ x0.tuple.log.length c0_, .int .i64 x0.tuple.term, .int .i64 x0.tuple.vote, .int .i64 x0.commit, .int .i64 x0.applied.index, .int .i64 x0.applied.term, .int .i64 x0.applied.sum, .int .i64 x0.applied.level, .bool x0.applied.final, .slice A1_ x0.votes.length c1_, .slice A2_ x0.next.length c2_, .slice A3_ x0.mtch.length c3_, .slice A4_ x0.caps.length c4_]] w0 fun e w' => ∃ (b0_ : Nat), e = .returned (.func (.func 94) #[] #[.pointer (some ⟨b0_, 0, none⟩)]) ∧ St0 All w0 w' [.box b0_ [.int .i64 x0.id, .int .i64 x0.n, .int .u8 x0.role, .int .i64 x0.binary, .int .i64 x0.tuple.snap.index, .int .i64 x0.tuple.snap.term, .int .i64 x0.tuple.snap.sum, .int .i64 x0.tuple.snap.level, .bool x0.tuple.snap.final, .slice A0_ x0.tuple.log.length c0_, .int .i64 x0.tuple.term, .int .i64 x0.tuple.vote, .int .i64 x0.commit, .int .i64 x0.applied.index, .int .i64 x0.applied.term, .int .i64 x0.applied.sum, .int .i64 x0.applied.level, .bool x0.applied.final, .slice A1_ x0.votes.length c1_, .slice A2_ x0.next.length c2_, .slice A3_ x0.mtch.length c3_, .slice A4_ x0.caps.length c4_] 32] := by
  refine gw_enter1 Try.func72 rfl Try.ntmps72 rfl ?_
  have hS := St0.start All w0
  refine wpC_seq_k (fun K hK1 => ?_)
  refine wpC_region ?_
  refine wpS_box rfl rfl rfl CellsOf.agg hS (fun b2 w hS hB => ?_)
  refine wpS_quick 1 rfl ?_
  refine wpS_nil ?_
  refine QH_seq_k hK1 ?_
  refine wpC_seq_k (fun K hK4 => ?_)
  refine wpC_region ?_
  refine wpS_put rfl rfl rfl (yv_makeFunc rfl rfl) ?_
  refine wpS_quick 1 rfl ?_
  refine wpS_nil ?_
  refine QH_seq_k hK4 ?_
  refine wpC_ret ?_
  refine QH_ret rfl (RV.tmp rfl RV.nil) rfl ?_
  exact ⟨b2, rfl, hS.sub (List.Sublist.cons_cons _ List.Sublist.slnil)⟩
theorem c_advert_Least (x0 : Co) (A0_ : Option Addr) (c0_ : Nat) (A1_ : Option Addr) (c1_ : Nat) (A2_ : Option Addr) (c2_ : Nat) (A3_ : Option Addr) (c3_ : Nat) (A4_ : Option Addr) (c4_ : Nat) (w0 : World) (s0_ : SlI w0 enE A0_ c0_ x0.tuple.log) (s1_ : SlI w0 enO A1_ c1_ x0.votes) (s2_ : SlI w0 enI A2_ c2_ x0.next) (s3_ : SlI w0 enI A3_ c3_ x0.mtch) (s4_ : SlI w0 enI A4_ c4_ x0.caps) {r : Int} (H : m_advert_Least x0 = some r) : Calls Try.prog 35 #[.agg #[.int .i64 x0.id, .int .i64 x0.n, .int .u8 x0.role, .int .i64 x0.binary, .int .i64 x0.tuple.snap.index, .int .i64 x0.tuple.snap.term, .int .i64 x0.tuple.snap.sum, .int .i64 x0.tuple.snap.level, .bool x0.tuple.snap.final, .slice A0_ x0.tuple.log.length c0_, .int .i64 x0.tuple.term, .int .i64 x0.tuple.vote, .int .i64 x0.commit, .int .i64 x0.applied.index, .int .i64 x0.applied.term, .int .i64 x0.applied.sum, .int .i64 x0.applied.level, .bool x0.applied.final, .slice A1_ x0.votes.length c1_, .slice A2_ x0.next.length c2_, .slice A3_ x0.mtch.length c3_, .slice A4_ x0.caps.length c4_]] w0 fun e w' => e = .returned (.int .i64 r) ∧ St0 All w0 w' [] := by
  unfold m_advert_Least at H
  refine gw_enter1 Try.func35 rfl Try.ntmps35 rfl ?_
  have hS := St0.start All w0
  refine wpC_seq_k (fun K hK1 => ?_)
  refine wpC_region ?_
  refine wpS_box rfl rfl rfl CellsOf.agg hS (fun b2 w hS hB => ?_)
  refine wpS_alloc rfl rfl zc_3 hS (fun b4 w hS hB => ?_)
  refine wpS_nil ?_
  refine QH_seq_k hK1 ?_
  refine wpC_seq_k (fun K hK6 => ?_)
  refine wpC_seq_k (fun K hK7 => ?_)
  refine wpC_region ?_
  refine wpS_put rfl rfl rfl (yv_load_boxA ag_32 rfl (RW.here _) hS hs1 trivial sg0_22) ?_
  have hM8 := hS
  refine wpS_call rfl rfl rfl rfl (by kernel_rfl) rfl (c_advert_caps x0 A0_ c0_ A1_ c1_ A2_ c2_ A3_ c3_ A4_ c4_ _ (SlI.of_rd s0_.k (hS.rd0 s0_.rd) (hS.blk0 s0_.blk)) (SlI.of_rd s1_.k (hS.rd0 s1_.rd) (hS.blk0 s1_.blk)) (SlI.of_rd s2_.k (hS.rd0 s2_.rd) (hS.blk0 s2_.blk)) (SlI.of_rd s3_.k (hS.rd0 s3_.rd) (hS.blk0 s3_.blk)) (SlI.of_rd s4_.k (hS.rd0 s4_.rd) (hS.blk0 s4_.blk))) ?_
  rintro e w ⟨b10, rfl, hN9⟩; refine ⟨_, rfl, ?_⟩; have hB := hN9.pure; have hS := hS.join hN9
  refine wpS_nil ?_
  refine QH_seq_k hK7 ?_
  refine wpC_block ?_
  obtain ⟨xs14, hx15, H⟩ := bind_some H
  refine wpC_range (w0 := w0) (X := Int) rfl (by kernel_rfl) (it_caps x0 _ _ _ s4_ hM8.pure b10 hN9 hx15) ⟨hM8.size, hN9.size⟩ (fun _ => rfl) (by kernel_rfl) (fun k x => .box b4 [.int .i64 x] 3 :: .box b2 [.int .i64 x0.id, .int .i64 x0.n, .int .u8 x0.role, .int .i64 x0.binary, .int .i64 x0.tuple.snap.index, .int .i64 x0.tuple.snap.term, .int .i64 x0.tuple.snap.sum, .int .i64 x0.tuple.snap.level, .bool x0.tuple.snap.final, .slice A0_ x0.tuple.log.length c0_, .int .i64 x0.tuple.term, .int .i64 x0.tuple.vote, .int .i64 x0.commit, .int .i64 x0.applied.index, .int .i64 x0.applied.term, .int .i64 x0.applied.sum, .int .i64 x0.applied.level, .bool x0.applied.final, .slice A1_ x0.votes.length c1_, .slice A2_ x0.next.length c2_, .slice A3_ x0.mtch.length c3_, .slice A4_ x0.caps.length c4_] 32 :: []) (fun k x => m_advert_Least_r1 (xs14.drop k) x = some r) (fun _ _ => []) (fun _ _ => False) (fun _ => False) 0 ⟨hS.sub (List.Sublist.cons _ (List.Sublist.cons_cons _ (List.Sublist.cons_cons _ List.Sublist.slnil))), fun e he k hk => .inl (hM8.rng e he k hk).1⟩ H ?_ ?_ (fun _ _ _ h _ => h.elim) (fun _ _ h _ => h.elim)
  · rintro lo k e12 v13 A hke H hzB hRB hS
    dsimp only at hRB H ⊢
    rw [drop_of_get hke, m_advert_Least_r1] at H
    dsimp only [List.zip, List.zipWith, List.foldl]
    refine wpC_seq_k (fun K hK16 => ?_)
    refine wpC_regionR (by repeat (first | exact NL.round | exact NL.false | exact NL.body (by intro _ h; simp at h) | apply NL.then | apply NL.inBlock | apply NL.jump)) (by kernel_rfl) ?_
    refine wpS_quick 1 rfl ?_
    refine wpS_nil ?_
    refine QH_seq_k hK16 ?_
    refine wpC_regionR (by repeat (first | exact NL.round | exact NL.false | exact NL.body (by intro _ h; simp at h) | apply NL.then | apply NL.inBlock | apply NL.jump)) (by kernel_rfl) ?_
    refine wpS_quick 1 rfl ?_
    refine wpS_nil ?_
    refine QH_asg hS ?_
    rintro A2 hS hBase hE
    dsimp only [List.cons_append, List.nil_append] at hS
    refine wpC_block ?_
    refine wpC_seq_k (fun K hK17 => ?_)
    refine wpC_regionR (by repeat (first | exact NL.round | exact NL.false | exact NL.body (by intro _ h; simp at h) | apply NL.then | apply NL.inBlock | apply NL.jump)) (by kernel_rfl) ?_
    refine wpS_quick 1 rfl ?_
    refine wpS_put rfl rfl rfl (yv_eql rfl rfl) ?_
    refine wpS_quick 1 rfl ?_
    refine wpS_case 11 rfl (fun hb => ?_) (fun hb => ?_)
    · replace H := cond_t H hb
      refine wpS_quick 4 rfl ?_
      refine wpS_nil ?_
      refine QH_seq_k hK17 ?_
      refine wpC_cond_t rfl rfl ?_
      refine wpC_regionR (by repeat (first | exact NL.round | exact NL.false | exact NL.body (by intro _ h; simp at h) | apply NL.then | apply NL.inBlock | apply NL.jump)) (by kernel_rfl) ?_
      refine wpS_quick 1 rfl ?_
      refine wpS_store rfl rfl rfl CellsOf.int hS ps0 st0_1 (by kernel_rfl) rfl (fun w hS hB => ?_)
      refine wpS_nil ?_
      refine QH_block_normal ?_
      exact QH_round hBase hE hS e12.2 (List.Sublist.cons_cons _ (List.Sublist.cons_cons _ List.Sublist.slnil)) H
    replace H := cond_f H hb
    refine wpS_quick 1 rfl ?_
    refine wpS_put rfl rfl rfl (yv_load_box sc_3 rfl (RW.here _) hS hs0 trivial sg0_1) ?_
    refine wpS_put rfl rfl rfl (yv_lss rfl rfl) ?_
    refine wpS_quick 1 rfl ?_
    refine wpS_nil ?_
    refine QH_seq_k hK17 ?_
    refine wpC_cond rfl (fun hb => ?_) (fun hb => ?_)
    rotate_left
    · replace H := cond_f H hb
      refine wpC_skip ?_
      refine QH_block_normal ?_
      exact QH_round hBase hE hS v13 (List.Sublist.cons_cons _ (List.Sublist.cons_cons _ List.Sublist.slnil)) H
    replace H := cond_t H hb
    refine wpC_regionR (by repeat (first | exact NL.round | exact NL.false | exact NL.body (by intro _ h; simp at h) | apply NL.then | apply NL.inBlock | apply NL.jump)) (by kernel_rfl) ?_
    refine wpS_quick 1 rfl ?_
    refine wpS_store rfl rfl rfl CellsOf.int hS ps0 st0_1 (by kernel_rfl) rfl (fun w hS hB => ?_)
    refine wpS_nil ?_
    refine QH_block_normal ?_
    exact QH_round hBase hE hS e12.2 (List.Sublist.cons_cons _ (List.Sublist.cons_cons _ List.Sublist.slnil)) H
  · rintro v13 A H hS
    dsimp only at hS H ⊢
    rw [List.drop_length, m_advert_Least_r1] at H
    refine QH_block_normal ?_
    refine QH_seq_k hK6 ?_
    refine wpC_seq_k (fun K hK19 => ?_)
    refine wpC_region ?_
    refine wpS_put rfl rfl rfl (yv_load_box sc_3 rfl (RW.here _) hS hs1 trivial sg0_1) ?_
    refine wpS_store rfl rfl rfl CellsOf.int hS ps1 st0_1 (by kernel_rfl) rfl (fun w hS hB => ?_)
    refine wpS_nil ?_
    refine QH_seq_k hK19 ?_
    refine wpC_ret ?_
    refine QH_shut (.inl rfl) hS ps0 (fun w hS => ?_)
    replace hS := hS.sub (List.Sublist.cons _ (List.Sublist.cons_cons _ (List.Sublist.cons_cons _ List.Sublist.slnil)))
    refine QH_ret rfl (RV.cell rfl (load_box1 sc_3 hS hs0 sg0_1) RV.nil) rfl ?_
    obtain rfl := Option.some.inj H
    replace hS := hS.cut 0
    exact ⟨rfl, hS⟩
theorem c_advert_Ask (x0 : Co) (x1 : Int) (A0_ : Option Addr) (c0_ : Nat) (A1_ : Option Addr) (c1_ : Nat) (A2_ : Option Addr) (c2_ : Nat) (A3_ : Option Addr) (c3_ : Nat) (A4_ : Option Addr) (c4_ : Nat) (w0 : World) (s0_ : SlI w0 enE A0_ c0_ x0.tuple.log) (s1_ : SlI w0 enO A1_ c1_ x0.votes) (s2_ : SlI w0 enI A2_ c2_ x0.next) (s3_ : SlI w0 enI A3_ c3_ x0.mtch) (s4_ : SlI w0 enI A4_ c4_ x0.caps) {r : Int} (H : m_advert_Ask x0 x1 = some r) : Calls Try.prog 34 #[.agg #[.int .i64 x0.id, .int .i64 x0.n, .int .u8 x0.role, .int .i64 x0.binary, .int .i64 x0.tuple.snap.index, .int .i64 x0.tuple.snap.term, .int .i64 x0.tuple.snap.sum, .int .i64 x0.tuple.snap.level, .bool x0.tuple.snap.final, .slice A0_ x0.tuple.log.length c0_, .int .i64 x0.tuple.term, .int .i64 x0.tuple.vote, .int .i64 x0.commit, .int .i64 x0.applied.index, .int .i64 x0.applied.term, .int .i64 x0.applied.sum, .int .i64 x0.applied.level, .bool x0.applied.final, .slice A1_ x0.votes.length c1_, .slice A2_ x0.next.length c2_, .slice A3_ x0.mtch.length c3_, .slice A4_ x0.caps.length c4_], .int .i64 x1] w0 fun e w' => e = .returned (.int .i64 r) ∧ St0 All w0 w' [] := by
  unfold m_advert_Ask at H
  refine gw_enter2 Try.func34 rfl Try.ntmps34 rfl ?_
  have hS := St0.start All w0
  refine wpC_seq_k (fun K hK1 => ?_)
  refine wpC_region ?_
  refine wpS_box rfl rfl rfl CellsOf.agg hS (fun b2 w hS hB => ?_)
  refine wpS_quick 1 rfl ?_
  refine wpS_nil ?_
  refine QH_seq_k hK1 ?_
  refine wpC_seq_k (fun K hK4 => ?_)
  refine wpC_region ?_
  refine wpS_quick 1 rfl ?_
  refine wpS_put rfl rfl rfl (yv_fieldAddr fo_32_6 rfl) ?_
  refine wpS_put rfl rfl rfl (yv_load_boxA ag_23 rfl (RW.here _) hS hs0 trivial sg13_5) ?_
  refine wpS_put rfl rfl rfl (yv_fieldAddr fo_32_10 rfl) ?_
  refine wpS_put rfl rfl rfl (yv_load_box sc_30 rfl (RW.here _) hS hs0 trivial sg21_1) ?_
  obtain ⟨r5, hm6, H⟩ := bind_some H
  refine wpS_call rfl rfl rfl rfl (by kernel_rfl) rfl (c_level_Check x1 x0.applied x0.caps A4_ c4_ _ (SlI.of_rd s4_.k (hS.rd0 s4_.rd) (hS.blk0 s4_.blk)) hm6) ?_
  rintro e w ⟨rfl, hN⟩; refine ⟨_, rfl, ?_⟩; have hB := hN.pure; have hS := hS.join hN; clear hN
  refine wpS_quick 1 rfl ?_
  refine wpS_nil ?_
  refine QH_seq_k hK4 ?_
  refine wpC_ret ?_
  refine QH_ret rfl (RV.tmp rfl RV.nil) rfl ?_
  obtain rfl := Option.some.inj H
  replace hS := hS.cut 0
  exact ⟨rfl, hS⟩
theorem c_law21_wakes (w0 : World) {r : Bool} (H : m_law21_wakes = some r) : Calls Try.prog 26 #[] w0 fun e w' => e = .returned (.bool r) ∧ St0 All w0 w' [] := by
  unfold m_law21_wakes at H
  refine gw_enter0 Try.func26 rfl Try.ntmps26 rfl ?_
  have hS := St0.start All w0
  refine wpC_seq_k (fun K hK1 => ?_)
  refine wpC_region ?_
  refine wpS_quick 1 rfl ?_
  refine wpS_nil ?_
  refine QH_seq_k hK1 ?_
  refine wpC_seq_k (fun K hK2 => ?_)
  refine wpC_region ?_
  obtain ⟨r3, hm4, H⟩ := bind_some H
  refine wpS_call rfl rfl rfl rfl (by kernel_rfl) rfl (c_ref12_First _ hm4) ?_
  rintro e w ⟨A5, c6, rfl, k7, hN⟩; refine ⟨_, rfl, ?_⟩; have hB := hN.pure; have hS := hS.join hN; clear hN
  obtain ⟨r9, hm10, H⟩ := bind_some H
  refine wpS_call rfl rfl rfl rfl (by kernel_rfl) rfl (c_ref20_New 1 3 2 r3 A5 c6 _ (SlI.of_rd k7 (hS.rd hs0) (hS.rd_blk hs0)) hm10) ?_
  rintro e w ⟨A11, c12, A15, c16, A19, c20, A23, c24, A27, c28, rfl, k13, k17, k21, k25, k29, hN⟩; refine ⟨_, rfl, ?_⟩; have hB := hN.pure; have hS := hS.join hN; clear hN
  refine wpS_alloc rfl rfl zc_32 hS (fun b31 w hS hB => ?_)
  refine wpS_store rfl rfl rfl CellsOf.agg hS ps0 st0_22 (by kernel_rfl) rfl (fun w hS hB => ?_)
  refine wpS_nil ?_
  refine QH_seq_k hK2 ?_
  refine wpC_seq_k (fun K hK33 => ?_)
  refine wpC_region ?_
  refine wpS_put rfl rfl rfl (yv_build (cells := [.int .u8 2, .int .i64 2, .int .i64 1, .int .i64 1, .int .i64 2, .int .i64 0, .int .i64 0, .int .i64 0, .bool false, .slice none 0 0, .int .i64 0, .int .i64 0, .int .i64 0, .int .i64 0, .bool false]) rfl (by kernel_rfl)) ?_
  refine wpS_alloc rfl rfl zc_39 hS (fun b34 w hS hB => ?_)
  refine wpS_store rfl rfl rfl CellsOf.agg hS ps0 st0_15 (by kernel_rfl) rfl (fun w hS hB => ?_)
  refine wpS_nil ?_
  refine QH_seq_k hK33 ?_
  refine wpC_seq_k (fun K hK36 => ?_)
  refine wpC_region ?_
  refine wpS_put rfl rfl rfl (yv_load_boxA ag_32 rfl (RW.here _) hS hs1 trivial sg0_22) ?_
  refine wpS_put rfl rfl rfl (yv_load_boxA ag_39 rfl (RW.here _) hS hs0 trivial sg0_15) ?_
  obtain ⟨r37, hm38, H⟩ := bind_some H
  refine wpS_call rfl rfl rfl rfl (by kernel_rfl) rfl (c_advert_Hear r9 (⟨2, 2, 1, 1, 2, 0, 0, 0, false, [], (⟨0, 0, 0, 0, false⟩ : St)⟩ : Ms) A11 c12 A15 c16 A19 c20 A23 c24 A27 c28 none 0 _ (SlI.of_rd k13 (hS.row_rd hs2) (hS.row_blk hs2)) (SlI.of_rd k17 (hS.row_rd hs3) (hS.row_blk hs3)) (SlI.of_rd k21 (hS.row_rd hs4) (hS.row_blk hs4)) (SlI.of_rd k25 (hS.row_rd hs5) (hS.row_blk hs5)) (SlI.of_rd k29 (hS.row_rd hs6) (hS.row_blk hs6)) (SlI.nil _ _) hm38) ?_
  rintro e w ⟨A39, c40, A43, c44, A47, c48, A51, c52, A55, c56, rfl, k41, k45, k49, k53, k57, hN⟩; refine ⟨_, rfl, ?_⟩; have hB := hN.pure; have hS := hS.join hN; clear hN
  refine wpS_alloc rfl rfl zc_32 hS (fun b59 w hS hB => ?_)
  refine wpS_store rfl rfl rfl CellsOf.agg hS ps0 st0_22 (by kernel_rfl) rfl (fun w hS hB => ?_)
  refine wpS_nil ?_
  refine QH_seq_k hK36 ?_
  refine wpC_seq_k (fun K hK61 => ?_)
  refine wpC_region ?_
  refine wpS_put rfl rfl rfl (yv_fieldAddr fo_39_1 rfl) ?_
  refine wpS_store rfl rfl rfl CellsOf.int hS ps6 st1_1 (by kernel_rfl) rfl (fun w hS hB => ?_)
  refine wpS_nil ?_
  refine QH_seq_k hK61 ?_
  refine wpC_seq_k (fun K hK62 => ?_)
  refine wpC_region ?_
  refine wpS_put rfl rfl rfl (yv_load_boxA ag_32 rfl (RW.here _) hS hs0 trivial sg0_22) ?_
  refine wpS_put rfl rfl rfl (yv_load_boxA ag_39 rfl (RW.here _) hS hs6 trivial sg0_15) ?_
  obtain ⟨r63, hm64, H⟩ := bind_some H
  refine wpS_call rfl rfl rfl rfl (by kernel_rfl) rfl (c_advert_Hear r37 (⟨2, 3, 1, 1, 2, 0, 0, 0, false, [], (⟨0, 0, 0, 0, false⟩ : St)⟩ : Ms) A39 c40 A43 c44 A47 c48 A51 c52 A55 c56 none 0 _ (SlI.of_rd k41 (hS.row_rd hs1) (hS.row_blk hs1)) (SlI.of_rd k45 (hS.row_rd hs2) (hS.row_blk hs2)) (SlI.of_rd k49 (hS.row_rd hs3) (hS.row_blk hs3)) (SlI.of_rd k53 (hS.row_rd hs4) (hS.row_blk hs4)) (SlI.of_rd k57 (hS.row_rd hs5) (hS.row_blk hs5)) (SlI.nil _ _) hm64) ?_
  rintro e w ⟨A65, c66, A69, c70, A73, c74, A77, c78, A81, c82, rfl, k67, k71, k75, k79, k83, hN⟩; refine ⟨_, rfl, ?_⟩; have hB := hN.pure; have hS := hS.join hN; clear hN
  refine wpS_alloc rfl rfl zc_32 hS (fun b85 w hS hB => ?_)
  refine wpS_store rfl rfl rfl CellsOf.agg hS ps0 st0_22 (by kernel_rfl) rfl (fun w hS hB => ?_)
  refine wpS_nil ?_
  refine QH_seq_k hK62 ?_
  refine wpC_seq_k (fun K hK87 => ?_)
  refine wpC_region ?_
  refine wpS_put rfl rfl rfl (yv_load_boxA ag_32 rfl (RW.here _) hS hs0 trivial sg0_22) ?_
  obtain ⟨r88, hm89, H⟩ := bind_some H
  refine wpS_call rfl rfl rfl rfl (by kernel_rfl) rfl (c_advert_Forget r63 A65 c66 A69 c70 A73 c74 A77 c78 A81 c82 _ (SlI.of_rd k67 (hS.row_rd hs1) (hS.row_blk hs1)) (SlI.of_rd k71 (hS.row_rd hs2) (hS.row_blk hs2)) (SlI.of_rd k75 (hS.row_rd hs3) (hS.row_blk hs3)) (SlI.of_rd k79 (hS.row_rd hs4) (hS.row_blk hs4)) (SlI.of_rd k83 (hS.row_rd hs5) (hS.row_blk hs5)) hm89) ?_
  rintro e w ⟨A90, c91, A94, c95, A98, c99, A102, c103, A106, c107, rfl, k92, k96, k100, k104, k108, hN⟩; refine ⟨_, rfl, ?_⟩; have hB := hN.pure; have hS := hS.join hN; clear hN
  refine wpS_alloc rfl rfl zc_32 hS (fun b110 w hS hB => ?_)
  refine wpS_store rfl rfl rfl CellsOf.agg hS ps0 st0_22 (by kernel_rfl) rfl (fun w hS hB => ?_)
  refine wpS_nil ?_
  refine QH_seq_k hK87 ?_
  refine wpC_seq_k (fun K hK112 => ?_)
  refine wpC_region ?_
  refine wpS_put rfl rfl rfl (yv_load_boxA ag_32 rfl (RW.here _) hS hs6 trivial sg0_22) ?_
  obtain ⟨r113, hm114, H⟩ := bind_some H
  refine wpS_call rfl rfl rfl rfl (by kernel_rfl) rfl (c_advert_Binary r63 1 A65 c66 A69 c70 A73 c74 A77 c78 A81 c82 _ (SlI.of_rd k67 (hS.row_rd hs7) (hS.row_blk hs7)) (SlI.of_rd k71 (hS.row_rd hs8) (hS.row_blk hs8)) (SlI.of_rd k75 (hS.row_rd hs9) (hS.row_blk hs9)) (SlI.of_rd k79 (hS.row_rd hs10) (hS.row_blk hs10)) (SlI.of_rd k83 (hS.row_rd hs11) (hS.row_blk hs11)) hm114) ?_
  rintro e w ⟨A115, c116, A119, c120, A123, c124, A127, c128, A131, c132, rfl, k117, k121, k125, k129, k133, hN⟩; refine ⟨_, rfl, ?_⟩; have hB := hN.pure; have hS := hS.join hN; clear hN
  refine wpS_alloc rfl rfl zc_32 hS (fun b135 w hS hB => ?_)
  refine wpS_store rfl rfl rfl CellsOf.agg hS ps0 st0_22 (by kernel_rfl) rfl (fun w hS hB => ?_)
  refine wpS_nil ?_
  refine QH_seq_k hK112 ?_
  refine wpC_seq_k (fun K hK137 => ?_)
  refine wpC_seq_k (fun K hK138 => ?_)
  refine wpC_region ?_
  refine wpS_put rfl rfl rfl (yv_fieldAddr fo_32_10 rfl) ?_
  refine wpS_put rfl rfl rfl (yv_load_box sc_30 rfl (RW.here _) hS hs18 trivial sg21_1) ?_
  refine wpS_put rfl rfl rfl (yv_len el_30 rfl) ?_
  refine wpS_put rfl rfl rfl (yv_neq rfl rfl) ?_
  refine wpS_quick 1 rfl ?_
  refine wpS_case 25 rfl (fun hb => ?_) (fun hb => ?_)
  · replace H := cond_t H hb
    refine wpS_quick 11 rfl ?_
    refine wpS_nil ?_
    refine QH_seq_k hK138 ?_
    refine wpC_cond_t rfl rfl ?_
    refine wpC_seq_k (fun K hK139 => ?_)
    refine wpC_region ?_
    refine wpS_quick 1 rfl ?_
    refine wpS_nil ?_
    refine QH_seq_k hK139 ?_
    refine wpC_ret ?_
    refine QH_then_ret ?_
    refine QH_ret rfl (RV.tmp rfl RV.nil) rfl ?_
    obtain rfl := Option.some.inj H
    replace hS := hS.cut 0
    exact ⟨rfl, hS⟩
  replace H := cond_f H hb
  refine wpS_put rfl rfl rfl (yv_fieldAddr fo_32_10 rfl) ?_
  refine wpS_put rfl rfl rfl (yv_load_box sc_30 rfl (RW.here _) hS hs6 trivial sg21_1) ?_
  refine wpS_put rfl rfl rfl (yv_len el_30 rfl) ?_
  refine wpS_put rfl rfl rfl (yv_neq rfl rfl) ?_
  refine wpS_quick 2 rfl ?_
  refine wpS_case 31 rfl (fun hb => ?_) (fun hb => ?_)
  · replace H := cond_t H hb
    refine wpS_quick 5 rfl ?_
    refine wpS_nil ?_
    refine QH_seq_k hK138 ?_
    refine wpC_cond_t rfl rfl ?_
    refine wpC_seq_k (fun K hK140 => ?_)
    refine wpC_region ?_
    refine wpS_quick 1 rfl ?_
    refine wpS_nil ?_
    refine QH_seq_k hK140 ?_
    refine wpC_ret ?_
    refine QH_then_ret ?_
    refine QH_ret rfl (RV.tmp rfl RV.nil) rfl ?_
    obtain rfl := Option.some.inj H
    replace hS := hS.cut 0
    exact ⟨rfl, hS⟩
  replace H := cond_f H hb
  refine wpS_put rfl rfl rfl (yv_fieldAddr fo_32_10 rfl) ?_
  refine wpS_put rfl rfl rfl (yv_load_box sc_30 rfl (RW.here _) hS hs0 trivial sg21_1) ?_
  refine wpS_put rfl rfl rfl (yv_len el_30 rfl) ?_
  refine wpS_put rfl rfl rfl (yv_neq rfl rfl) ?_
  refine wpS_quick 1 rfl ?_
  refine wpS_nil ?_
  refine QH_seq_k hK138 ?_
  refine wpC_cond rfl (fun hb => ?_) (fun hb => ?_)
  · replace H := cond_t H hb
    refine wpC_seq_k (fun K hK141 => ?_)
    refine wpC_region ?_
    refine wpS_quick 1 rfl ?_
    refine wpS_nil ?_
    refine QH_seq_k hK141 ?_
    refine wpC_ret ?_
    refine QH_then_ret ?_
    refine QH_ret rfl (RV.tmp rfl RV.nil) rfl ?_
    obtain rfl := Option.some.inj H
    replace hS := hS.cut 0
    exact ⟨rfl, hS⟩
  replace H := cond_f H hb
  refine wpC_skip ?_
  refine QH_seq_k hK137 ?_
  refine wpC_seq_k (fun K hK142 => ?_)
  refine wpC_region ?_
  refine wpS_put rfl rfl rfl (yv_load_boxA ag_32 rfl (RW.here _) hS hs18 trivial sg0_22) ?_
  obtain ⟨r143, hm144, H⟩ := bind_some H
  refine wpS_call rfl rfl rfl rfl (by kernel_rfl) rfl (c_advert_All r37 A39 c40 A43 c44 A47 c48 A51 c52 A55 c56 _ (SlI.of_rd k41 (hS.row_rd hs19) (hS.row_blk hs19)) (SlI.of_rd k45 (hS.row_rd hs20) (hS.row_blk hs20)) (SlI.of_rd k49 (hS.row_rd hs21) (hS.row_blk hs21)) (SlI.of_rd k53 (hS.row_rd hs22) (hS.row_blk hs22)) (SlI.of_rd k57 (hS.row_rd hs23) (hS.row_blk hs23)) hm144) ?_
  rintro e w ⟨rfl, hN⟩; refine ⟨_, rfl, ?_⟩; have hB := hN.pure; have hS := hS.join hN; clear hN
  refine wpS_put rfl rfl rfl (yv_not rfl) ?_
  refine wpS_quick 1 rfl ?_
  refine wpS_case 40 rfl (fun hb => ?_) (fun hb => ?_)
  rotate_left
  · replace H := cond_f H hb
    refine wpS_quick 68 rfl ?_
    refine wpS_nil ?_
    refine QH_seq_k hK142 ?_
    refine wpC_ret ?_
    refine QH_ret rfl (RV.tmp rfl RV.nil) rfl ?_
    obtain rfl := Option.some.inj H
    replace hS := hS.cut 0
    exact ⟨rfl, hS⟩
  replace H := cond_t H hb
  refine wpS_put rfl rfl rfl (yv_fieldAddr fo_32_10 rfl) ?_
  refine wpS_put rfl rfl rfl (yv_load_box sc_30 rfl (RW.here _) hS hs18 trivial sg21_1) ?_
  obtain ⟨e145, hi147, H⟩ := bind_some H
  obtain ⟨j146, hi147a, hi147b, hi147c⟩ := idx_some hi147
  refine wpS_put rfl rfl rfl (yx_idx el_30 rfl rfl hi147a hi147c (Rd.el (hS.row_rd hs23) he_enI hi147b)) ?_
  refine wpS_put rfl rfl rfl (yx_ld0 sc_3 rfl (RW.here _) (Rd.el (hS.row_rd hs23) he_enI hi147b) rfl) ?_
  refine wpS_put rfl rfl rfl (yv_eql rfl rfl) ?_
  refine wpS_quick 2 rfl ?_
  refine wpS_case 47 rfl (fun hb => ?_) (fun hb => ?_)
  rotate_left
  · replace H := cond_f H hb
    refine wpS_quick 61 rfl ?_
    refine wpS_nil ?_
    refine QH_seq_k hK142 ?_
    refine wpC_ret ?_
    refine QH_ret rfl (RV.tmp rfl RV.nil) rfl ?_
    obtain rfl := Option.some.inj H
    replace hS := hS.cut 0
    exact ⟨rfl, hS⟩
  replace H := cond_t H hb
  refine wpS_put rfl rfl rfl (yv_load_boxA ag_32 rfl (RW.here _) hS hs12 trivial sg0_22) ?_
  obtain ⟨r148, hm149, H⟩ := bind_some H
  refine wpS_call rfl rfl rfl rfl (by kernel_rfl) rfl (c_advert_All r63 A65 c66 A69 c70 A73 c74 A77 c78 A81 c82 _ (SlI.of_rd k67 (hS.row_rd hs13) (hS.row_blk hs13)) (SlI.of_rd k71 (hS.row_rd hs14) (hS.row_blk hs14)) (SlI.of_rd k75 (hS.row_rd hs15) (hS.row_blk hs15)) (SlI.of_rd k79 (hS.row_rd hs16) (hS.row_blk hs16)) (SlI.of_rd k83 (hS.row_rd hs17) (hS.row_blk hs17)) hm149) ?_
  rintro e w ⟨rfl, hN⟩; refine ⟨_, rfl, ?_⟩; have hB := hN.pure; have hS := hS.join hN; clear hN
  refine wpS_quick 2 rfl ?_
  refine wpS_case 51 rfl (fun hb => ?_) (fun hb => ?_)
  rotate_left
  · replace H := cond_f H hb
    refine wpS_quick 57 rfl ?_
    refine wpS_nil ?_
    refine QH_seq_k hK142 ?_
    refine wpC_ret ?_
    refine QH_ret rfl (RV.tmp rfl RV.nil) rfl ?_
    obtain rfl := Option.some.inj H
    replace hS := hS.cut 0
    exact ⟨rfl, hS⟩
  replace H := cond_t H hb
  refine wpS_put rfl rfl rfl (yv_load_boxA ag_32 rfl (RW.here _) hS hs12 trivial sg0_22) ?_
  obtain ⟨r150, hm151, H⟩ := bind_some H
  refine wpS_call rfl rfl rfl rfl (by kernel_rfl) rfl (c_advert_Least r63 A65 c66 A69 c70 A73 c74 A77 c78 A81 c82 _ (SlI.of_rd k67 (hS.row_rd hs13) (hS.row_blk hs13)) (SlI.of_rd k71 (hS.row_rd hs14) (hS.row_blk hs14)) (SlI.of_rd k75 (hS.row_rd hs15) (hS.row_blk hs15)) (SlI.of_rd k79 (hS.row_rd hs16) (hS.row_blk hs16)) (SlI.of_rd k83 (hS.row_rd hs17) (hS.row_blk hs17)) hm151) ?_
  rintro e w ⟨rfl, hN⟩; refine ⟨_, rfl, ?_⟩; have hB := hN.pure; have hS := hS.join hN; clear hN
  refine wpS_put rfl rfl rfl (yv_eql rfl rfl) ?_
  refine wpS_quick 2 rfl ?_
  refine wpS_case 56 rfl (fun hb => ?_) (fun hb => ?_)
  rotate_left
  · replace H := cond_f H hb
    refine wpS_quick 52 rfl ?_
    refine wpS_nil ?_
    refine QH_seq_k hK142 ?_
    refine wpC_ret ?_
    refine QH_ret rfl (RV.tmp rfl RV.nil) rfl ?_
    obtain rfl := Option.some.inj H
    replace hS := hS.cut 0
    exact ⟨rfl, hS⟩
  replace H := cond_t H hb
  refine wpS_put rfl rfl rfl (yv_load_boxA ag_32 rfl (RW.here _) hS hs18 trivial sg0_22) ?_
  obtain ⟨r152, hm153, H⟩ := bind_some H
  refine wpS_call rfl rfl rfl rfl (by kernel_rfl) rfl (c_advert_Least r37 A39 c40 A43 c44 A47 c48 A51 c52 A55 c56 _ (SlI.of_rd k41 (hS.row_rd hs19) (hS.row_blk hs19)) (SlI.of_rd k45 (hS.row_rd hs20) (hS.row_blk hs20)) (SlI.of_rd k49 (hS.row_rd hs21) (hS.row_blk hs21)) (SlI.of_rd k53 (hS.row_rd hs22) (hS.row_blk hs22)) (SlI.of_rd k57 (hS.row_rd hs23) (hS.row_blk hs23)) hm153) ?_
  rintro e w ⟨rfl, hN⟩; refine ⟨_, rfl, ?_⟩; have hB := hN.pure; have hS := hS.join hN; clear hN
  refine wpS_put rfl rfl rfl (yv_eql rfl rfl) ?_
  refine wpS_quick 2 rfl ?_
  refine wpS_case 61 rfl (fun hb => ?_) (fun hb => ?_)
  rotate_left
  · replace H := cond_f H hb
    refine wpS_quick 47 rfl ?_
    refine wpS_nil ?_
    refine QH_seq_k hK142 ?_
    refine wpC_ret ?_
    refine QH_ret rfl (RV.tmp rfl RV.nil) rfl ?_
    obtain rfl := Option.some.inj H
    replace hS := hS.cut 0
    exact ⟨rfl, hS⟩
  replace H := cond_t H hb
  refine wpS_put rfl rfl rfl (yv_fieldAddr fo_32_10 rfl) ?_
  refine wpS_put rfl rfl rfl (yv_load_box sc_30 rfl (RW.here _) hS hs6 trivial sg21_1) ?_
  obtain ⟨e154, hi156, H⟩ := bind_some H
  obtain ⟨j155, hi156a, hi156b, hi156c⟩ := idx_some hi156
  refine wpS_put rfl rfl rfl (yx_idx el_30 rfl rfl hi156a hi156c (Rd.el (hS.row_rd hs11) he_enI hi156b)) ?_
  refine wpS_put rfl rfl rfl (yx_ld0 sc_3 rfl (RW.here _) (Rd.el (hS.row_rd hs11) he_enI hi156b) rfl) ?_
  refine wpS_put rfl rfl rfl (yv_eql rfl rfl) ?_
  refine wpS_quick 2 rfl ?_
  refine wpS_case 68 rfl (fun hb => ?_) (fun hb => ?_)
  rotate_left
  · replace H := cond_f H hb
    refine wpS_quick 40 rfl ?_
    refine wpS_nil ?_
    refine QH_seq_k hK142 ?_
    refine wpC_ret ?_
    refine QH_ret rfl (RV.tmp rfl RV.nil) rfl ?_
    obtain rfl := Option.some.inj H
    replace hS := hS.cut 0
    exact ⟨rfl, hS⟩
  replace H := cond_t H hb
  refine wpS_put rfl rfl rfl (yv_fieldAddr fo_32_10 rfl) ?_
  refine wpS_put rfl rfl rfl (yv_load_box sc_30 rfl (RW.here _) hS hs6 trivial sg21_1) ?_
  obtain ⟨e157, hi159, H⟩ := bind_some H
  obtain ⟨j158, hi159a, hi159b, hi159c⟩ := idx_some hi159
  refine wpS_put rfl rfl rfl (yx_idx el_30 rfl rfl hi159a hi159c (Rd.el (hS.row_rd hs11) he_enI hi159b)) ?_
  refine wpS_put rfl rfl rfl (yx_ld0 sc_3 rfl (RW.here _) (Rd.el (hS.row_rd hs11) he_enI hi159b) rfl) ?_
  refine wpS_put rfl rfl rfl (yv_eql rfl rfl) ?_
  refine wpS_quick 2 rfl ?_
  refine wpS_case 75 rfl (fun hb => ?_) (fun hb => ?_)
  rotate_left
  · replace H := cond_f H hb
    refine wpS_quick 33 rfl ?_
    refine wpS_nil ?_
    refine QH_seq_k hK142 ?_
    refine wpC_ret ?_
    refine QH_ret rfl (RV.tmp rfl RV.nil) rfl ?_
    obtain rfl := Option.some.inj H
    replace hS := hS.cut 0
    exact ⟨rfl, hS⟩
  replace H := cond_t H hb
  refine wpS_put rfl rfl rfl (yv_fieldAddr fo_32_3 rfl) ?_
  refine wpS_put rfl rfl rfl (yv_load_box sc_3 rfl (RW.here _) hS hs0 trivial sg3_1) ?_
  refine wpS_put rfl rfl rfl (yv_eql rfl rfl) ?_
  refine wpS_quick 2 rfl ?_
  refine wpS_case 80 rfl (fun hb => ?_) (fun hb => ?_)
  rotate_left
  · replace H := cond_f H hb
    refine wpS_quick 28 rfl ?_
    refine wpS_nil ?_
    refine QH_seq_k hK142 ?_
    refine wpC_ret ?_
    refine QH_ret rfl (RV.tmp rfl RV.nil) rfl ?_
    obtain rfl := Option.some.inj H
    replace hS := hS.cut 0
    exact ⟨rfl, hS⟩
  replace H := cond_t H hb
  refine wpS_put rfl rfl rfl (yv_fieldAddr fo_32_10 rfl) ?_
  refine wpS_put rfl rfl rfl (yv_load_box sc_30 rfl (RW.here _) hS hs0 trivial sg21_1) ?_
  obtain ⟨e160, hi162, H⟩ := bind_some H
  obtain ⟨j161, hi162a, hi162b, hi162c⟩ := idx_some hi162
  refine wpS_put rfl rfl rfl (yx_idx el_30 rfl rfl hi162a hi162c (Rd.el (hS.row_rd hs5) he_enI hi162b)) ?_
  refine wpS_put rfl rfl rfl (yx_ld0 sc_3 rfl (RW.here _) (Rd.el (hS.row_rd hs5) he_enI hi162b) rfl) ?_
  refine wpS_put rfl rfl rfl (yv_eql rfl rfl) ?_
  refine wpS_quick 2 rfl ?_
  refine wpS_case 87 rfl (fun hb => ?_) (fun hb => ?_)
  rotate_left
  · replace H := cond_f H hb
    refine wpS_quick 21 rfl ?_
    refine wpS_nil ?_
    refine QH_seq_k hK142 ?_
    refine wpC_ret ?_
    refine QH_ret rfl (RV.tmp rfl RV.nil) rfl ?_
    obtain rfl := Option.some.inj H
    replace hS := hS.cut 0
    exact ⟨rfl, hS⟩
  replace H := cond_t H hb
  refine wpS_put rfl rfl rfl (yv_load_boxA ag_32 rfl (RW.here _) hS hs18 trivial sg0_22) ?_
  obtain ⟨r163, hm164, H⟩ := bind_some H
  refine wpS_call rfl rfl rfl rfl (by kernel_rfl) rfl (c_advert_Ask r37 2 A39 c40 A43 c44 A47 c48 A51 c52 A55 c56 _ (SlI.of_rd k41 (hS.row_rd hs19) (hS.row_blk hs19)) (SlI.of_rd k45 (hS.row_rd hs20) (hS.row_blk hs20)) (SlI.of_rd k49 (hS.row_rd hs21) (hS.row_blk hs21)) (SlI.of_rd k53 (hS.row_rd hs22) (hS.row_blk hs22)) (SlI.of_rd k57 (hS.row_rd hs23) (hS.row_blk hs23)) hm164) ?_
  rintro e w ⟨rfl, hN⟩; refine ⟨_, rfl, ?_⟩; have hB := hN.pure; have hS := hS.join hN; clear hN
  refine wpS_put rfl rfl rfl (yv_eql rfl rfl) ?_
  refine wpS_quick 2 rfl ?_
  refine wpS_case 92 rfl (fun hb => ?_) (fun hb => ?_)
  rotate_left
  · replace H := cond_f H hb
    refine wpS_quick 16 rfl ?_
    refine wpS_nil ?_
    refine QH_seq_k hK142 ?_
    refine wpC_ret ?_
    refine QH_ret rfl (RV.tmp rfl RV.nil) rfl ?_
    obtain rfl := Option.some.inj H
    replace hS := hS.cut 0
    exact ⟨rfl, hS⟩
  replace H := cond_t H hb
  refine wpS_put rfl rfl rfl (yv_load_boxA ag_32 rfl (RW.here _) hS hs12 trivial sg0_22) ?_
  obtain ⟨r165, hm166, H⟩ := bind_some H
  refine wpS_call rfl rfl rfl rfl (by kernel_rfl) rfl (c_advert_Ask r63 2 A65 c66 A69 c70 A73 c74 A77 c78 A81 c82 _ (SlI.of_rd k67 (hS.row_rd hs13) (hS.row_blk hs13)) (SlI.of_rd k71 (hS.row_rd hs14) (hS.row_blk hs14)) (SlI.of_rd k75 (hS.row_rd hs15) (hS.row_blk hs15)) (SlI.of_rd k79 (hS.row_rd hs16) (hS.row_blk hs16)) (SlI.of_rd k83 (hS.row_rd hs17) (hS.row_blk hs17)) hm166) ?_
  rintro e w ⟨rfl, hN⟩; refine ⟨_, rfl, ?_⟩; have hB := hN.pure; have hS := hS.join hN; clear hN
  refine wpS_put rfl rfl rfl (yv_eql rfl rfl) ?_
  refine wpS_quick 2 rfl ?_
  refine wpS_case 97 rfl (fun hb => ?_) (fun hb => ?_)
  rotate_left
  · replace H := cond_f H hb
    refine wpS_quick 11 rfl ?_
    refine wpS_nil ?_
    refine QH_seq_k hK142 ?_
    refine wpC_ret ?_
    refine QH_ret rfl (RV.tmp rfl RV.nil) rfl ?_
    obtain rfl := Option.some.inj H
    replace hS := hS.cut 0
    exact ⟨rfl, hS⟩
  replace H := cond_t H hb
  refine wpS_put rfl rfl rfl (yv_load_boxA ag_32 rfl (RW.here _) hS hs25 trivial sg0_22) ?_
  refine wpS_put rfl rfl rfl (yv_load_boxA ag_39 rfl (RW.here _) hS hs24 trivial sg0_15) ?_
  obtain ⟨r167, hm168, H⟩ := bind_some H
  refine wpS_call rfl rfl rfl rfl (by kernel_rfl) rfl (c_advert_To r9 (⟨2, 3, 1, 1, 2, 0, 0, 0, false, [], (⟨0, 0, 0, 0, false⟩ : St)⟩ : Ms) A11 c12 A15 c16 A19 c20 A23 c24 A27 c28 none 0 _ (SlI.of_rd k13 (hS.row_rd hs26) (hS.row_blk hs26)) (SlI.of_rd k17 (hS.row_rd hs27) (hS.row_blk hs27)) (SlI.of_rd k21 (hS.row_rd hs28) (hS.row_blk hs28)) (SlI.of_rd k25 (hS.row_rd hs29) (hS.row_blk hs29)) (SlI.of_rd k29 (hS.row_rd hs30) (hS.row_blk hs30)) (SlI.nil _ _) hm168) ?_
  rintro e w ⟨rfl, hN⟩; refine ⟨_, rfl, ?_⟩; have hB := hN.pure; have hS := hS.join hN; clear hN
  refine wpS_quick 2 rfl ?_
  refine wpS_case 102 rfl (fun hb => ?_) (fun hb => ?_)
  rotate_left
  · replace H := cond_f H hb
    refine wpS_quick 6 rfl ?_
    refine wpS_nil ?_
    refine QH_seq_k hK142 ?_
    refine wpC_ret ?_
    refine QH_ret rfl (RV.tmp rfl RV.nil) rfl ?_
    obtain rfl := Option.some.inj H
    replace hS := hS.cut 0
    exact ⟨rfl, hS⟩
  replace H := cond_t H hb
  refine wpS_put rfl rfl rfl (yv_build (cells := [.int .i64 0, .int .i64 0, .int .u8 0, .int .i64 0, .int .i64 0, .int .i64 0, .int .i64 0, .int .i64 0, .bool false, .slice none 0 0, .int .i64 0, .int .i64 0, .int .i64 0, .int .i64 0, .int .i64 0, .int .i64 0, .int .i64 0, .bool false, .slice none 0 0, .slice none 0 0, .slice none 0 0, .slice none 0 0]) rfl (by kernel_rfl)) ?_
  refine wpS_put rfl rfl rfl (yv_load_boxA ag_39 rfl (RW.here _) hS hs24 trivial sg0_15) ?_
  obtain ⟨r169, hm170, H⟩ := bind_some H
  refine wpS_call rfl rfl rfl rfl (by kernel_rfl) rfl (c_advert_To (⟨0, 0, 0, 0, (⟨(⟨0, 0, 0, 0, false⟩ : St), [], 0, 0⟩ : Tu), 0, (⟨0, 0, 0, 0, false⟩ : St), [], [], [], []⟩ : Co) (⟨2, 3, 1, 1, 2, 0, 0, 0, false, [], (⟨0, 0, 0, 0, false⟩ : St)⟩ : Ms) none 0 none 0 none 0 none 0 none 0 none 0 _ (SlI.nil _ _) (SlI.nil _ _) (SlI.nil _ _) (SlI.nil _ _) (SlI.nil _ _) (SlI.nil _ _) hm170) ?_
  rintro e w ⟨rfl, hN⟩; refine ⟨_, rfl, ?_⟩; have hB := hN.pure; have hS := hS.join hN; clear hN
  refine wpS_put rfl rfl rfl (yv_not rfl) ?_
  refine wpS_quick 2 rfl ?_
  refine wpS_nil ?_
  refine QH_seq_k hK142 ?_
  refine wpC_ret ?_
  refine QH_ret rfl (RV.tmp rfl RV.nil) rfl ?_
  obtain rfl := Option.some.inj H
  replace hS := hS.cut 0
  exact ⟨rfl, hS⟩
theorem c_ref20_Own (x0 : Co) (A0_ : Option Addr) (c0_ : Nat) (A1_ : Option Addr) (c1_ : Nat) (A2_ : Option Addr) (c2_ : Nat) (A3_ : Option Addr) (c3_ : Nat) (A4_ : Option Addr) (c4_ : Nat) (w0 : World) (s0_ : SlI w0 enE A0_ c0_ x0.tuple.log) (s1_ : SlI w0 enO A1_ c1_ x0.votes) (s2_ : SlI w0 enI A2_ c2_ x0.next) (s3_ : SlI w0 enI A3_ c3_ x0.mtch) (s4_ : SlI w0 enI A4_ c4_ x0.caps) {r : Co} (H : m_ref20_Own x0 = some r) : Calls Try.prog 27 #[.agg #[.int .i64 x0.id, .int .i64 x0.n, .int .u8 x0.role, .int .i64 x0.binary, .int .i64 x0.tuple.snap.index, .int .i64 x0.tuple.snap.term, .int .i64 x0.tuple.snap.sum, .int .i64 x0.tuple.snap.level, .bool x0.tuple.snap.final, .slice A0_ x0.tuple.log.length c0_, .int .i64 x0.tuple.term, .int .i64 x0.tuple.vote, .int .i64 x0.commit, .int .i64 x0.applied.index, .int .i64 x0.applied.term, .int .i64 x0.applied.sum, .int .i64 x0.applied.level, .bool x0.applied.final, .slice A1_ x0.votes.length c1_, .slice A2_ x0.next.length c2_, .slice A3_ x0.mtch.length c3_, .slice A4_ x0.caps.length c4_]] w0 fun e w' => ∃ (A0 : Option Addr) (c0 : Nat) (A1 : Option Addr) (c1 : Nat) (A2 : Option Addr) (c2 : Nat) (A3 : Option Addr) (c3 : Nat) (A4 : Option Addr) (c4 : Nat), e = .returned (.agg #[.int .i64 r.id, .int .i64 r.n, .int .u8 r.role, .int .i64 r.binary, .int .i64 r.tuple.snap.index, .int .i64 r.tuple.snap.term, .int .i64 r.tuple.snap.sum, .int .i64 r.tuple.snap.level, .bool r.tuple.snap.final, .slice A0 r.tuple.log.length c0, .int .i64 r.tuple.term, .int .i64 r.tuple.vote, .int .i64 r.commit, .int .i64 r.applied.index, .int .i64 r.applied.term, .int .i64 r.applied.sum, .int .i64 r.applied.level, .bool r.applied.final, .slice A1 r.votes.length c1, .slice A2 r.next.length c2, .slice A3 r.mtch.length c3, .slice A4 r.caps.length c4]) ∧ (r.tuple.log.length ≤ c0 ∧ c0 ≤ maxLen) ∧ (r.votes.length ≤ c1 ∧ c1 ≤ maxLen) ∧ (r.next.length ≤ c2 ∧ c2 ≤ maxLen) ∧ (r.mtch.length ≤ c3 ∧ c3 ≤ maxLen) ∧ (r.caps.length ≤ c4 ∧ c4 ≤ maxLen) ∧ St0 All w0 w' [.row (.slice A0 r.tuple.log.length c0) 47 3 r.tuple.log.length (encs enE r.tuple.log), .row (.slice A1 r.votes.length c1) 4 1 r.votes.length (encs enO r.votes), .row (.slice A2 r.next.length c2) 3 1 r.next.length (encs enI r.next), .row (.slice A3 r.mtch.length c3) 3 1 r.mtch.length (encs enI r.mtch), .row (.slice A4 r.caps.length c4) 3 1 r.caps.length (encs enI r.caps)] := by
  unfold m_ref20_Own at H
  refine gw_enter1 Try.func27 rfl Try.ntmps27 rfl ?_
  have hS := St0.start All w0
  refine wpC_seq_k (fun K hK1 => ?_)
  refine wpC_region ?_
  refine wpS_box rfl rfl rfl CellsOf.agg hS (fun b2 w hS hB => ?_)
  refine wpS_alloc rfl rfl zc_32 hS (fun b4 w hS hB => ?_)
  refine wpS_nil ?_
  refine QH_seq_k hK1 ?_
  refine wpC_seq_k (fun K hK6 => ?_)
  refine wpC_region ?_
  refine wpS_put rfl rfl rfl (yv_fieldAddr fo_32_4 rfl) ?_
  refine wpS_put rfl rfl rfl (yv_load_boxA ag_26 rfl (RW.here _) hS hs1 trivial sg4_8) ?_
  obtain ⟨r7, hm8, H⟩ := bind_some H
  refine wpS_call rfl rfl rfl rfl (by kernel_rfl) rfl (c_ref12_Own x0.tuple A0_ c0_ _ (SlI.of_rd s0_.k (hS.rd0 s0_.rd) (hS.blk0 s0_.blk)) hm8) ?_
  rintro e w ⟨A9, c10, rfl, k11, hN⟩; refine ⟨_, rfl, ?_⟩; have hB := hN.pure; have hS := hS.join hN; clear hN
  refine wpS_put rfl rfl rfl (yv_fieldAddr fo_32_4 rfl) ?_
  refine wpS_store rfl rfl rfl CellsOf.agg hS ps2 st4_8 (by kernel_rfl) rfl (fun w hS hB => ?_)
  refine wpS_nil ?_
  refine QH_seq_k hK6 ?_
  refine wpC_seq_k (fun K hK13 => ?_)
  refine wpC_region ?_
  refine wpS_slice0 el_29 rfl rfl hS (fun b14 w hS hB => ?_)
  refine wpS_put rfl rfl rfl (yv_fieldAddr fo_32_7 rfl) ?_
  refine wpS_put rfl rfl rfl (yv_load_box sc_29 rfl (RW.here _) hS hs3 trivial sg18_1) ?_
  obtain ⟨l16, hf17, H⟩ := bind_some H
  refine wpX_append (ys := x0.votes) he_enO oc_enO em_29 (by decide) rfl rfl rfl rfl hS (fun _ => ps0) (hS.rd0 s1_.rd) hf17 (fun A18 c19 w k20 hS => ?_)
  refine wpS_put rfl rfl rfl (yv_fieldAddr fo_32_7 rfl) ?_
  refine wpS_store rfl rfl rfl CellsOf.slice hS ps3 st18_1 (by kernel_rfl) rfl (fun w hS hB => ?_)
  refine wpS_nil ?_
  refine QH_seq_k hK13 ?_
  refine wpC_seq_k (fun K hK21 => ?_)
  refine wpC_region ?_
  refine wpS_slice0 el_30 rfl rfl hS (fun b22 w hS hB => ?_)
  refine wpS_put rfl rfl rfl (yv_fieldAddr fo_32_8 rfl) ?_
  refine wpS_put rfl rfl rfl (yv_load_box sc_30 rfl (RW.here _) hS hs4 trivial sg19_1) ?_
  obtain ⟨l24, hf25, H⟩ := bind_some H
  refine wpX_append (ys := x0.next) he_enI oc_enI em_30 (by decide) rfl rfl rfl rfl hS (fun _ => ps0) (hS.rd0 s2_.rd) hf25 (fun A26 c27 w k28 hS => ?_)
  refine wpS_put rfl rfl rfl (yv_fieldAddr fo_32_8 rfl) ?_
  refine wpS_store rfl rfl rfl CellsOf.slice hS ps4 st19_1 (by kernel_rfl) rfl (fun w hS hB => ?_)
  refine wpS_nil ?_
  refine QH_seq_k hK21 ?_
  refine wpC_seq_k (fun K hK29 => ?_)
  refine wpC_region ?_
  refine wpS_slice0 el_30 rfl rfl hS (fun b30 w hS hB => ?_)
  refine wpS_put rfl rfl rfl (yv_fieldAddr fo_32_9 rfl) ?_
  refine wpS_put rfl rfl rfl (yv_load_box sc_30 rfl (RW.here _) hS hs5 trivial sg20_1) ?_
  obtain ⟨l32, hf33, H⟩ := bind_some H
  refine wpX_append (ys := x0.mtch) he_enI oc_enI em_30 (by decide) rfl rfl rfl rfl hS (fun _ => ps0) (hS.rd0 s3_.rd) hf33 (fun A34 c35 w k36 hS => ?_)
  refine wpS_put rfl rfl rfl (yv_fieldAddr fo_32_9 rfl) ?_
  refine wpS_store rfl rfl rfl CellsOf.slice hS ps5 st20_1 (by kernel_rfl) rfl (fun w hS hB => ?_)
  refine wpS_nil ?_
  refine QH_seq_k hK29 ?_
  refine wpC_seq_k (fun K hK37 => ?_)
  refine wpC_region ?_
  refine wpS_slice0 el_30 rfl rfl hS (fun b38 w hS hB => ?_)
  refine wpS_put rfl rfl rfl (yv_fieldAddr fo_32_10 rfl) ?_
  refine wpS_put rfl rfl rfl (yv_load_box sc_30 rfl (RW.here _) hS hs6 trivial sg21_1) ?_
  obtain ⟨l40, hf41, H⟩ := bind_some H
  refine wpX_append (ys := x0.caps) he_enI oc_enI em_30 (by decide) rfl rfl rfl rfl hS (fun _ => ps0) (hS.rd0 s4_.rd) hf41 (fun A42 c43 w k44 hS => ?_)
  refine wpS_put rfl rfl rfl (yv_fieldAddr fo_32_10 rfl) ?_
  refine wpS_store rfl rfl rfl CellsOf.slice hS ps6 st21_1 (by kernel_rfl) rfl (fun w hS hB => ?_)
  refine wpS_nil ?_
  refine QH_seq_k hK37 ?_
  refine wpC_seq_k (fun K hK45 => ?_)
  refine wpC_region ?_
  refine wpS_put rfl rfl rfl (yv_load_boxA ag_32 rfl (RW.here _) hS hs6 trivial sg0_22) ?_
  refine wpS_store rfl rfl rfl CellsOf.agg hS ps5 st0_22 (by kernel_rfl) rfl (fun w hS hB => ?_)
  refine wpS_nil ?_
  refine QH_seq_k hK45 ?_
  refine wpC_ret ?_
  refine QH_ret rfl (RV.cell rfl (load_boxA ag_32 hS hs5 sg0_22) RV.nil) rfl ?_
  obtain rfl := Option.some.inj H
  have hS := hS.front 0 rfl
  have hS := hS.front 1 rfl
  have hS := hS.front 2 rfl
  have hS := hS.front 3 rfl
  have hS := hS.front 4 rfl
  replace hS := hS.cut 5
  exact ⟨A9, c10, A18, c19, A26, c27, A34, c35, A42, c43, rfl, k11, k20, k28, k36, k44, hS⟩
theorem c_ref20_ints (x0 : List Int) (x1 : List Int) (A0_ : Option Addr) (c0_ : Nat) (A1_ : Option Addr) (c1_ : Nat) (w0 : World) (s0_ : SlI w0 enI A0_ c0_ x0) (s1_ : SlI w0 enI A1_ c1_ x1) {r : Bool} (H : m_ref20_ints x0 x1 = some r) : Calls Try.prog 69 #[.slice A0_ x0.length c0_, .slice A1_ x1.length c1_] w0 fun e w' => e = .returned (.bool r) ∧ St0 All w0 w' [] := by
  unfold m_ref20_ints at H
  refine gw_enter2 Try.func69 rfl Try.ntmps69 rfl ?_
  have hS := St0.start All w0
  refine wpC_seq_k (fun K hK1 => ?_)
  refine wpC_region ?_
  refine wpS_quick 1 rfl ?_
  refine wpS_nil ?_
  refine QH_seq_k hK1 ?_
  refine wpC_seq_k (fun K hK2 => ?_)
  refine wpC_seq_k (fun K hK3 => ?_)
  refine wpC_region ?_
  refine wpS_quick 1 rfl ?_
  refine wpS_put rfl rfl rfl (yv_len el_30 rfl) ?_
  refine wpS_quick 1 rfl ?_
  refine wpS_put rfl rfl rfl (yv_len el_30 rfl) ?_
  refine wpS_put rfl rfl rfl (yv_neq rfl rfl) ?_
  refine wpS_nil ?_
  refine QH_seq_k hK3 ?_
  refine wpC_cond rfl (fun hb => ?_) (fun hb => ?_)
  · replace H := cond_t H hb
    refine wpC_seq_k (fun K hK4 => ?_)
    refine wpC_region ?_
    refine wpS_quick 1 rfl ?_
    refine wpS_nil ?_
    refine QH_seq_k hK4 ?_
    refine wpC_ret ?_
    refine QH_then_ret ?_
    refine QH_ret rfl (RV.tmp rfl RV.nil) rfl ?_
    obtain rfl := Option.some.inj H
    replace hS := hS.cut 0
    exact ⟨rfl, hS⟩
  replace H := cond_f H hb
  refine wpC_skip ?_
  refine QH_seq_k hK2 ?_
  refine wpC_seq_k (fun K hK5 => ?_)
  refine wpC_seq_k (fun K hK6 => ?_)
  refine wpC_region ?_
  refine wpS_quick 1 rfl ?_
  refine wpS_nil ?_
  refine QH_seq_k hK6 ?_
  refine wpC_block ?_
  refine wpC_loop (X := Nat × Bool × Int) (fun x => (0, .slice A0_ x0.length c0_) :: (1, .slice A1_ x1.length c1_) :: (4, .bool x.2.1) :: (5, .int .i64 x.2.2) :: []) (fun x w => St0 All w0 w ([]) ∧ m_ref20_ints_l1 x0 x1 x.1 x.2.1 x.2.2 = some r) (fun x => x.1) (fuelN, false, 0) (by repeat (first | exact Sub.nil | refine Sub.cons rfl ?_)) ⟨hS, H⟩ ?_
  rintro ⟨n, v7, v8⟩ w ⟨hS, H⟩
  dsimp only at hS H ⊢
  obtain _ | n := n
  · have H0 : none = some r := H
    cases H0
  rw [m_ref20_ints_l1] at H
  refine wpC_seq_k (fun K hK9 => ?_)
  refine wpC_seq_k (fun K hK10 => ?_)
  refine wpC_region ?_
  refine wpS_quick 2 rfl ?_
  refine wpS_put rfl rfl rfl (yv_len el_30 rfl) ?_
  refine wpS_put rfl rfl rfl (yv_lss rfl rfl) ?_
  refine wpS_nil ?_
  refine QH_seq_k hK10 ?_
  refine wpC_cond rfl (fun hb => ?_) (fun hb => ?_)
  rotate_left
  · replace H := cond_f H hb
    refine wpC_exit ?_
    refine QH_then_exit ?_
    refine QH_then_exit ?_
    refine QH_block_hit ?_
    refine QH_seq_k hK5 ?_
    refine wpC_seq_k (fun K hK20 => ?_)
    refine wpC_region ?_
    refine wpS_quick 1 rfl ?_
    refine wpS_nil ?_
    refine QH_seq_k hK20 ?_
    refine wpC_ret ?_
    refine QH_ret rfl (RV.tmp rfl RV.nil) rfl ?_
    obtain rfl := Option.some.inj H
    replace hS := hS.cut 0
    exact ⟨rfl, hS⟩
  replace H := cond_t H hb
  refine wpC_skip ?_
  refine QH_seq_k hK9 ?_
  refine wpC_seq_k (fun K hK11 => ?_)
  refine wpC_block ?_
  refine wpC_seq_k (fun K hK12 => ?_)
  refine wpC_draw 9 [] (fun _ _ => True) ⟨by kernel_rfl, by kernel_rfl⟩ hS (fun w hS hB => ?_)
  refine wpR_batch [true, true, true, true, true, true, true, true, true] (by decide +kernel) (by repeat (first | exact PF.body | exact PF.round | apply PF.then | apply PF.inBlock | apply PF.jump)) ?_
  refine LtK.put rfl rfl rfl (yv_move rfl) ?_
  refine LtK.put rfl rfl rfl (yv_move rfl) ?_
  obtain ⟨e13, hi15, H⟩ := bind_some H
  obtain ⟨j14, hi15a, hi15b, hi15c⟩ := idx_some hi15
  refine LtK.put rfl rfl rfl (yx_idx el_30 rfl rfl hi15a hi15c (Rd.el (hS.rd0 s0_.rd) he_enI hi15b)) ?_
  refine LtK.put rfl rfl rfl (yx_ld0 sc_3 rfl (RW.below _) (Rd.el (hS.rd0 s0_.rd) he_enI hi15b) rfl) ?_
  refine LtK.put rfl rfl rfl (yv_move rfl) ?_
  refine LtK.put rfl rfl rfl (yv_move rfl) ?_
  obtain ⟨e16, hi18, H⟩ := bind_some H
  obtain ⟨j17, hi18a, hi18b, hi18c⟩ := idx_some hi18
  refine LtK.put rfl rfl rfl (yx_idx el_30 rfl rfl hi18a hi18c (Rd.el (hS.rd0 s1_.rd) he_enI hi18b)) ?_
  refine LtK.put rfl rfl rfl (yx_ld0 sc_3 rfl (RW.below _) (Rd.el (hS.rd0 s1_.rd) he_enI hi18b) rfl) ?_
  refine LtK.put rfl rfl rfl (yv_neq rfl rfl) ?_
  refine LtK.nil ?_
  refine wpR_end (by kernel_rfl) ?_
  refine QH_seq_k hK12 ?_
  refine wpC_cond rfl (fun hb => ?_) (fun hb => ?_)
  rotate_left
  · replace H := cond_f H hb
    refine wpC_skip ?_
    refine QH_block_normal ?_
    refine QH_seq_k hK11 ?_
    refine wpC_region ?_
    refine wpS_quick 1 rfl ?_
    refine wpS_put rfl rfl rfl (yx_add rfl rfl) ?_
    refine wpS_quick 1 rfl ?_
    refine wpS_nil ?_
    exact QH_again (n, v7, (IntKind.wrap .i64 (v8 + 1))) (by repeat (first | exact Sub.nil | refine Sub.cons rfl ?_)) ⟨hS, H⟩ (Nat.lt_succ_self _)
  replace H := cond_t H hb
  refine wpC_seq_k (fun K hK19 => ?_)
  refine wpC_region ?_
  refine wpS_quick 1 rfl ?_
  refine wpS_nil ?_
  refine QH_seq_k hK19 ?_
  refine wpC_ret ?_
  refine QH_block_ret ?_
  refine QH_then_ret ?_
  refine QH_then_ret ?_
  refine QH_block_ret ?_
  refine QH_then_ret ?_
  refine QH_ret rfl (RV.tmp rfl RV.nil) rfl ?_
  obtain rfl := Option.some.inj H
  replace hS := hS.cut 0
  exact ⟨rfl, hS⟩
theorem c_ref20_Same (x0 : Co) (x1 : Co) (A0_ : Option Addr) (c0_ : Nat) (A1_ : Option Addr) (c1_ : Nat) (A2_ : Option Addr) (c2_ : Nat) (A3_ : Option Addr) (c3_ : Nat) (A4_ : Option Addr) (c4_ : Nat) (A5_ : Option Addr) (c5_ : Nat) (A6_ : Option Addr) (c6_ : Nat) (A7_ : Option Addr) (c7_ : Nat) (A8_ : Option Addr) (c8_ : Nat) (A9_ : Option Addr) (c9_ : Nat) (w0 : World) (s0_ : SlI w0 enE A0_ c0_ x0.tuple.log) (s1_ : SlI w0 enO A1_ c1_ x0.votes) (s2_ : SlI w0 enI A2_ c2_ x0.next) (s3_ : SlI w0 enI A3_ c3_ x0.mtch) (s4_ : SlI w0 enI A4_ c4_ x0.caps) (s5_ : SlI w0 enE A5_ c5_ x1.tuple.log) (s6_ : SlI w0 enO A6_ c6_ x1.votes) (s7_ : SlI w0 enI A7_ c7_ x1.next) (s8_ : SlI w0 enI A8_ c8_ x1.mtch) (s9_ : SlI w0 enI A9_ c9_ x1.caps) {r : Bool} (H : m_ref20_Same x0 x1 = some r) : Calls Try.prog 31 #[.agg #[.int .i64 x0.id, .int .i64 x0.n, .int .u8 x0.role, .int .i64 x0.binary, .int .i64 x0.tuple.snap.index, .int .i64 x0.tuple.snap.term, .int .i64 x0.tuple.snap.sum, .int .i64 x0.tuple.snap.level, .bool x0.tuple.snap.final, .slice A0_ x0.tuple.log.length c0_, .int .i64 x0.tuple.term, .int .i64 x0.tuple.vote, .int .i64 x0.commit, .int .i64 x0.applied.index, .int .i64 x0.applied.term, .int .i64 x0.applied.sum, .int .i64 x0.applied.level, .bool x0.applied.final, .slice A1_ x0.votes.length c1_, .slice A2_ x0.next.length c2_, .slice A3_ x0.mtch.length c3_, .slice A4_ x0.caps.length c4_], .agg #[.int .i64 x1.id, .int .i64 x1.n, .int .u8 x1.role, .int .i64 x1.binary, .int .i64 x1.tuple.snap.index, .int .i64 x1.tuple.snap.term, .int .i64 x1.tuple.snap.sum, .int .i64 x1.tuple.snap.level, .bool x1.tuple.snap.final, .slice A5_ x1.tuple.log.length c5_, .int .i64 x1.tuple.term, .int .i64 x1.tuple.vote, .int .i64 x1.commit, .int .i64 x1.applied.index, .int .i64 x1.applied.term, .int .i64 x1.applied.sum, .int .i64 x1.applied.level, .bool x1.applied.final, .slice A6_ x1.votes.length c6_, .slice A7_ x1.next.length c7_, .slice A8_ x1.mtch.length c8_, .slice A9_ x1.caps.length c9_]] w0 fun e w' => e = .returned (.bool r) ∧ St0 All w0 w' [] := by
  unfold m_ref20_Same at H
  refine gw_enter2 Try.func31 rfl Try.ntmps31 rfl ?_
  have hS := St0.start All w0
  refine wpC_seq_k (fun K hK1 => ?_)
  refine wpC_region ?_
  refine wpS_box rfl rfl rfl CellsOf.agg hS (fun b2 w hS hB => ?_)
  refine wpS_box rfl rfl rfl CellsOf.agg hS (fun b4 w hS hB => ?_)
  refine wpS_quick 1 rfl ?_
  refine wpS_nil ?_
  refine QH_seq_k hK1 ?_
  refine wpC_seq_k (fun K hK6 => ?_)
  refine wpC_seq_k (fun K hK7 => ?_)
  refine wpC_region ?_
  refine wpS_put rfl rfl rfl (yv_fieldAddr fo_32_0 rfl) ?_
  refine wpS_put rfl rfl rfl (yv_load_box sc_3 rfl (RW.here _) hS hs1 trivial sg0_1) ?_
  refine wpS_put rfl rfl rfl (yv_fieldAddr fo_32_0 rfl) ?_
  refine wpS_put rfl rfl rfl (yv_load_box sc_3 rfl (RW.here _) hS hs0 trivial sg0_1) ?_
  refine wpS_put rfl rfl rfl (yv_neq rfl rfl) ?_
  refine wpS_quick 1 rfl ?_
  refine wpS_case 11 rfl (fun hb => ?_) (fun hb => ?_)
  · replace H := cond_t H hb
    refine wpS_quick 51 rfl ?_
    refine wpS_nil ?_
    refine QH_seq_k hK7 ?_
    refine wpC_cond_t rfl rfl ?_
    refine wpC_seq_k (fun K hK8 => ?_)
    refine wpC_region ?_
    refine wpS_quick 1 rfl ?_
    refine wpS_nil ?_
    refine QH_seq_k hK8 ?_
    refine wpC_ret ?_
    refine QH_then_ret ?_
    refine QH_ret rfl (RV.tmp rfl RV.nil) rfl ?_
    obtain rfl := Option.some.inj H
    replace hS := hS.cut 0
    exact ⟨rfl, hS⟩
  replace H := cond_f H hb
  refine wpS_put rfl rfl rfl (yv_fieldAddr fo_32_1 rfl) ?_
  refine wpS_put rfl rfl rfl (yv_load_box sc_3 rfl (RW.here _) hS hs1 trivial sg1_1) ?_
  refine wpS_put rfl rfl rfl (yv_fieldAddr fo_32_1 rfl) ?_
  refine wpS_put rfl rfl rfl (yv_load_box sc_3 rfl (RW.here _) hS hs0 trivial sg1_1) ?_
  refine wpS_put rfl rfl rfl (yv_neq rfl rfl) ?_
  refine wpS_quick 2 rfl ?_
  refine wpS_case 18 rfl (fun hb => ?_) (fun hb => ?_)
  · replace H := cond_t H hb
    refine wpS_quick 44 rfl ?_
    refine wpS_nil ?_
    refine QH_seq_k hK7 ?_
    refine wpC_cond_t rfl rfl ?_
    refine wpC_seq_k (fun K hK9 => ?_)
    refine wpC_region ?_
    refine wpS_quick 1 rfl ?_
    refine wpS_nil ?_
    refine QH_seq_k hK9 ?_
    refine wpC_ret ?_
    refine QH_then_ret ?_
    refine QH_ret rfl (RV.tmp rfl RV.nil) rfl ?_
    obtain rfl := Option.some.inj H
    replace hS := hS.cut 0
    exact ⟨rfl, hS⟩
  replace H := cond_f H hb
  refine wpS_put rfl rfl rfl (yv_fieldAddr fo_32_2 rfl) ?_
  refine wpS_put rfl rfl rfl (yv_load_box sc_5 rfl (RW.here _) hS hs1 trivial sg2_1) ?_
  refine wpS_put rfl rfl rfl (yv_fieldAddr fo_32_2 rfl) ?_
  refine wpS_put rfl rfl rfl (yv_load_box sc_5 rfl (RW.here _) hS hs0 trivial sg2_1) ?_
  refine wpS_put rfl rfl rfl (yv_neq rfl rfl) ?_
  refine wpS_quick 2 rfl ?_
  refine wpS_case 25 rfl (fun hb => ?_) (fun hb => ?_)
  · replace H := cond_t H hb
    refine wpS_quick 37 rfl ?_
    refine wpS_nil ?_
    refine QH_seq_k hK7 ?_
    refine wpC_cond_t rfl rfl ?_
    refine wpC_seq_k (fun K hK10 => ?_)
    refine wpC_region ?_
    refine wpS_quick 1 rfl ?_
    refine wpS_nil ?_
    refine QH_seq_k hK10 ?_
    refine wpC_ret ?_
    refine QH_then_ret ?_
    refine QH_ret rfl (RV.tmp rfl RV.nil) rfl ?_
    obtain rfl := Option.some.inj H
    replace hS := hS.cut 0
    exact ⟨rfl, hS⟩
  replace H := cond_f H hb
  refine wpS_put rfl rfl rfl (yv_fieldAddr fo_32_3 rfl) ?_
  refine wpS_put rfl rfl rfl (yv_load_box sc_3 rfl (RW.here _) hS hs1 trivial sg3_1) ?_
  refine wpS_put rfl rfl rfl (yv_fieldAddr fo_32_3 rfl) ?_
  refine wpS_put rfl rfl rfl (yv_load_box sc_3 rfl (RW.here _) hS hs0 trivial sg3_1) ?_
  refine wpS_put rfl rfl rfl (yv_neq rfl rfl) ?_
  refine wpS_quick 2 rfl ?_
  refine wpS_case 32 rfl (fun hb => ?_) (fun hb => ?_)
  · replace H := cond_t H hb
    refine wpS_quick 30 rfl ?_
    refine wpS_nil ?_
    refine QH_seq_k hK7 ?_
    refine wpC_cond_t rfl rfl ?_
    refine wpC_seq_k (fun K hK11 => ?_)
    refine wpC_region ?_
    refine wpS_quick 1 rfl ?_
    refine wpS_nil ?_
    refine QH_seq_k hK11 ?_
    refine wpC_ret ?_
    refine QH_then_ret ?_
    refine QH_ret rfl (RV.tmp rfl RV.nil) rfl ?_
    obtain rfl := Option.some.inj H
    replace hS := hS.cut 0
    exact ⟨rfl, hS⟩
  replace H := cond_f H hb
  refine wpS_put rfl rfl rfl (yv_fieldAddr fo_32_4 rfl) ?_
  refine wpS_put rfl rfl rfl (yv_load_boxA ag_26 rfl (RW.here _) hS hs1 trivial sg4_8) ?_
  refine wpS_put rfl rfl rfl (yv_fieldAddr fo_32_4 rfl) ?_
  refine wpS_put rfl rfl rfl (yv_load_boxA ag_26 rfl (RW.here _) hS hs0 trivial sg4_8) ?_
  obtain ⟨r12, hm13, H⟩ := bind_some H
  refine wpS_call rfl rfl rfl rfl (by kernel_rfl) rfl (c_ref12_Same x0.tuple x1.tuple A0_ c0_ A5_ c5_ _ (SlI.of_rd s0_.k (hS.rd0 s0_.rd) (hS.blk0 s0_.blk)) (SlI.of_rd s5_.k (hS.rd0 s5_.rd) (hS.blk0 s5_.blk)) hm13) ?_
  rintro e w ⟨rfl, hN⟩; refine ⟨_, rfl, ?_⟩; have hB := hN.pure; have hS := hS.join hN; clear hN
  refine wpS_put rfl rfl rfl (yv_not rfl) ?_
  refine wpS_quick 2 rfl ?_
  refine wpS_case 40 rfl (fun hb => ?_) (fun hb => ?_)
  · replace H := cond_t H hb
    refine wpS_quick 22 rfl ?_
    refine wpS_nil ?_
    refine QH_seq_k hK7 ?_
    refine wpC_cond_t rfl rfl ?_
    refine wpC_seq_k (fun K hK14 => ?_)
    refine wpC_region ?_
    refine wpS_quick 1 rfl ?_
    refine wpS_nil ?_
    refine QH_seq_k hK14 ?_
    refine wpC_ret ?_
    refine QH_then_ret ?_
    refine QH_ret rfl (RV.tmp rfl RV.nil) rfl ?_
    obtain rfl := Option.some.inj H
    replace hS := hS.cut 0
    exact ⟨rfl, hS⟩
  replace H := cond_f H hb
  refine wpS_put rfl rfl rfl (yv_fieldAddr fo_32_5 rfl) ?_
  refine wpS_put rfl rfl rfl (yv_load_box sc_3 rfl (RW.here _) hS hs1 trivial sg12_1) ?_
  refine wpS_put rfl rfl rfl (yv_fieldAddr fo_32_5 rfl) ?_
  refine wpS_put rfl rfl rfl (yv_load_box sc_3 rfl (RW.here _) hS hs0 trivial sg12_1) ?_
  refine wpS_put rfl rfl rfl (yv_neq rfl rfl) ?_
  refine wpS_quick 2 rfl ?_
  refine wpS_case 47 rfl (fun hb => ?_) (fun hb => ?_)
  · replace H := cond_t H hb
    refine wpS_quick 15 rfl ?_
    refine wpS_nil ?_
    refine QH_seq_k hK7 ?_
    refine wpC_cond_t rfl rfl ?_
    refine wpC_seq_k (fun K hK15 => ?_)
    refine wpC_region ?_
    refine wpS_quick 1 rfl ?_
    refine wpS_nil ?_
    refine QH_seq_k hK15 ?_
    refine wpC_ret ?_
    refine QH_then_ret ?_
    refine QH_ret rfl (RV.tmp rfl RV.nil) rfl ?_
    obtain rfl := Option.some.inj H
    replace hS := hS.cut 0
    exact ⟨rfl, hS⟩
  replace H := cond_f H hb
  refine wpS_put rfl rfl rfl (yv_fieldAddr fo_32_6 rfl) ?_
  refine wpS_put rfl rfl rfl (yv_load_boxA ag_23 rfl (RW.here _) hS hs1 trivial sg13_5) ?_
  refine wpS_put rfl rfl rfl (yv_fieldAddr fo_32_6 rfl) ?_
  refine wpS_put rfl rfl rfl (yv_load_boxA ag_23 rfl (RW.here _) hS hs0 trivial sg13_5) ?_
  refine wpS_put rfl rfl rfl (yv_neqS (by kernel_rfl) rfl rfl (eqT_23 _ _ _ _ _ _ _ _ _ _)) ?_
  refine wpS_quick 2 rfl ?_
  refine wpS_case 54 rfl (fun hb => ?_) (fun hb => ?_)
  · replace H := cond_t H hb
    refine wpS_quick 8 rfl ?_
    refine wpS_nil ?_
    refine QH_seq_k hK7 ?_
    refine wpC_cond_t rfl rfl ?_
    refine wpC_seq_k (fun K hK16 => ?_)
    refine wpC_region ?_
    refine wpS_quick 1 rfl ?_
    refine wpS_nil ?_
    refine QH_seq_k hK16 ?_
    refine wpC_ret ?_
    refine QH_then_ret ?_
    refine QH_ret rfl (RV.tmp rfl RV.nil) rfl ?_
    obtain rfl := Option.some.inj H
    replace hS := hS.cut 0
    exact ⟨rfl, hS⟩
  replace H := cond_f H hb
  refine wpS_put rfl rfl rfl (yv_fieldAddr fo_32_7 rfl) ?_
  refine wpS_put rfl rfl rfl (yv_load_box sc_29 rfl (RW.here _) hS hs1 trivial sg18_1) ?_
  refine wpS_put rfl rfl rfl (yv_len el_29 rfl) ?_
  refine wpS_put rfl rfl rfl (yv_fieldAddr fo_32_7 rfl) ?_
  refine wpS_put rfl rfl rfl (yv_load_box sc_29 rfl (RW.here _) hS hs0 trivial sg18_1) ?_
  refine wpS_put rfl rfl rfl (yv_len el_29 rfl) ?_
  refine wpS_put rfl rfl rfl (yv_neq rfl rfl) ?_
  refine wpS_quick 1 rfl ?_
  refine wpS_nil ?_
  refine QH_seq_k hK7 ?_
  refine wpC_cond rfl (fun hb => ?_) (fun hb => ?_)
  · replace H := cond_t H hb
    refine wpC_seq_k (fun K hK17 => ?_)
    refine wpC_region ?_
    refine wpS_quick 1 rfl ?_
    refine wpS_nil ?_
    refine QH_seq_k hK17 ?_
    refine wpC_ret ?_
    refine QH_then_ret ?_
    refine QH_ret rfl (RV.tmp rfl RV.nil) rfl ?_
    obtain rfl := Option.some.inj H
    replace hS := hS.cut 0
    exact ⟨rfl, hS⟩
  replace H := cond_f H hb
  refine wpC_skip ?_
  refine QH_seq_k hK6 ?_
  refine wpC_seq_k (fun K hK18 => ?_)
  refine wpC_seq_k (fun K hK19 => ?_)
  refine wpC_region ?_
  refine wpS_quick 1 rfl ?_
  refine wpS_nil ?_
  refine QH_seq_k hK19 ?_
  refine wpC_block ?_
  refine wpC_loop (X := Nat × Bool × Int) (fun x => (2, .pointer (some ⟨b2, 0, none⟩)) :: (3, .pointer (some ⟨b4, 0, none⟩)) :: (4, .bool x.2.1) :: (5, .int .i64 x.2.2) :: []) (fun x w => St0 All w0 w (.box b4 [.int .i64 x1.id, .int .i64 x1.n, .int .u8 x1.role, .int .i64 x1.binary, .int .i64 x1.tuple.snap.index, .int .i64 x1.tuple.snap.term, .int .i64 x1.tuple.snap.sum, .int .i64 x1.tuple.snap.level, .bool x1.tuple.snap.final, .slice A5_ x1.tuple.log.length c5_, .int .i64 x1.tuple.term, .int .i64 x1.tuple.vote, .int .i64 x1.commit, .int .i64 x1.applied.index, .int .i64 x1.applied.term, .int .i64 x1.applied.sum, .int .i64 x1.applied.level, .bool x1.applied.final, .slice A6_ x1.votes.length c6_, .slice A7_ x1.next.length c7_, .slice A8_ x1.mtch.length c8_, .slice A9_ x1.caps.length c9_] 32 :: .box b2 [.int .i64 x0.id, .int .i64 x0.n, .int .u8 x0.role, .int .i64 x0.binary, .int .i64 x0.tuple.snap.index, .int .i64 x0.tuple.snap.term, .int .i64 x0.tuple.snap.sum, .int .i64 x0.tuple.snap.level, .bool x0.tuple.snap.final, .slice A0_ x0.tuple.log.length c0_, .int .i64 x0.tuple.term, .int .i64 x0.tuple.vote, .int .i64 x0.commit, .int .i64 x0.applied.index, .int .i64 x0.applied.term, .int .i64 x0.applied.sum, .int .i64 x0.applied.level, .bool x0.applied.final, .slice A1_ x0.votes.length c1_, .slice A2_ x0.next.length c2_, .slice A3_ x0.mtch.length c3_, .slice A4_ x0.caps.length c4_] 32 :: []) ∧ m_ref20_Same_l1 x0 x1 x.1 x.2.1 x.2.2 = some r) (fun x => x.1) (fuelN, false, 0) (by repeat (first | exact Sub.nil | refine Sub.cons rfl ?_)) ⟨hS, H⟩ ?_
  rintro ⟨n, v20, v21⟩ w ⟨hS, H⟩
  dsimp only at hS H ⊢
  obtain _ | n := n
  · have H0 : none = some r := H
    cases H0
  rw [m_ref20_Same_l1] at H
  refine wpC_seq_k (fun K hK22 => ?_)
  refine wpC_seq_k (fun K hK23 => ?_)
  refine wpC_region ?_
  refine wpS_quick 1 rfl ?_
  refine wpS_put rfl rfl rfl (yv_fieldAddr fo_32_7 rfl) ?_
  refine wpS_put rfl rfl rfl (yv_load_box sc_29 rfl (RW.here _) hS hs1 trivial sg18_1) ?_
  refine wpS_put rfl rfl rfl (yv_len el_29 rfl) ?_
  refine wpS_put rfl rfl rfl (yv_lss rfl rfl) ?_
  refine wpS_nil ?_
  refine QH_seq_k hK23 ?_
  refine wpC_cond rfl (fun hb => ?_) (fun hb => ?_)
  · replace H := cond_t H hb
    refine wpC_skip ?_
    refine QH_seq_k hK22 ?_
    refine wpC_seq_k (fun K hK24 => ?_)
    refine wpC_block ?_
    refine wpC_seq_k (fun K hK25 => ?_)
    refine wpC_draw 11 [] (fun _ _ => True) ⟨by kernel_rfl, by kernel_rfl⟩ hS (fun w hS hB => ?_)
    refine wpR_batch [true, true, true, true, true, true, true, true, true, true, true] (by decide +kernel) (by repeat (first | exact PF.body | exact PF.round | apply PF.then | apply PF.inBlock | apply PF.jump)) ?_
    refine LtK.put rfl rfl rfl (yv_fieldAddr fo_32_7 rfl) ?_
    refine LtK.put rfl rfl rfl (yv_load_box sc_29 rfl (RW.below _) hS hs1 trivial sg18_1) ?_
    refine LtK.put rfl rfl rfl (yv_move rfl) ?_
    obtain ⟨e26, hi28, H⟩ := bind_some H
    obtain ⟨j27, hi28a, hi28b, hi28c⟩ := idx_some hi28
    refine LtK.put rfl rfl rfl (yx_idx el_29 rfl rfl hi28a hi28c (Rd.el (hS.rd0 s1_.rd) he_enO hi28b)) ?_
    refine LtK.put rfl rfl rfl (yx_ld0 sc_4 rfl (RW.below _) (Rd.el (hS.rd0 s1_.rd) he_enO hi28b) rfl) ?_
    refine LtK.put rfl rfl rfl (yv_fieldAddr fo_32_7 rfl) ?_
    refine LtK.put rfl rfl rfl (yv_load_box sc_29 rfl (RW.below _) hS hs0 trivial sg18_1) ?_
    refine LtK.put rfl rfl rfl (yv_move rfl) ?_
    obtain ⟨e29, hi31, H⟩ := bind_some H
    obtain ⟨j30, hi31a, hi31b, hi31c⟩ := idx_some hi31
    refine LtK.put rfl rfl rfl (yx_idx el_29 rfl rfl hi31a hi31c (Rd.el (hS.rd0 s6_.rd) he_enO hi31b)) ?_
    refine LtK.put rfl rfl rfl (yx_ld0 sc_4 rfl (RW.below _) (Rd.el (hS.rd0 s6_.rd) he_enO hi31b) rfl) ?_
    refine LtK.put rfl rfl rfl (yv_neqB (by kernel_rfl) rfl rfl) ?_
    refine LtK.nil ?_
    refine wpR_end (by kernel_rfl) ?_
    refine QH_seq_k hK25 ?_
    refine wpC_cond rfl (fun hb => ?_) (fun hb => ?_)
    rotate_left
    · replace H := cond_f H hb
      refine wpC_skip ?_
      refine QH_block_normal ?_
      refine QH_seq_k hK24 ?_
      refine wpC_region ?_
      refine wpS_quick 1 rfl ?_
      refine wpS_put rfl rfl rfl (yx_add rfl rfl) ?_
      refine wpS_quick 1 rfl ?_
      refine wpS_nil ?_
      exact QH_again (n, v20, (IntKind.wrap .i64 (v21 + 1))) (by repeat (first | exact Sub.nil | refine Sub.cons rfl ?_)) ⟨hS, H⟩ (Nat.lt_succ_self _)
    replace H := cond_t H hb
    refine wpC_seq_k (fun K hK32 => ?_)
    refine wpC_region ?_
    refine wpS_quick 1 rfl ?_
    refine wpS_nil ?_
    refine QH_seq_k hK32 ?_
    refine wpC_ret ?_
    refine QH_block_ret ?_
    refine QH_then_ret ?_
    refine QH_then_ret ?_
    refine QH_block_ret ?_
    refine QH_then_ret ?_
    refine QH_ret rfl (RV.tmp rfl RV.nil) rfl ?_
    obtain rfl := Option.some.inj H
    replace hS := hS.cut 0
    exact ⟨rfl, hS⟩
  replace H := cond_f H hb
  refine wpC_exit ?_
  refine QH_then_exit ?_
  refine QH_then_exit ?_
  refine QH_block_hit ?_
  refine QH_seq_k hK18 ?_
  refine wpC_seq_k (fun K hK33 => ?_)
  refine wpC_region ?_
  refine wpS_put rfl rfl rfl (yv_fieldAddr fo_32_8 rfl) ?_
  refine wpS_put rfl rfl rfl (yv_load_box sc_30 rfl (RW.here _) hS hs1 trivial sg19_1) ?_
  refine wpS_put rfl rfl rfl (yv_fieldAddr fo_32_8 rfl) ?_
  refine wpS_put rfl rfl rfl (yv_load_box sc_30 rfl (RW.here _) hS hs0 trivial sg19_1) ?_
  obtain ⟨r34, hm35, H⟩ := bind_some H
  refine wpS_call rfl rfl rfl rfl (by kernel_rfl) rfl (c_ref20_ints x0.next x1.next A2_ c2_ A7_ c7_ _ (SlI.of_rd s2_.k (hS.rd0 s2_.rd) (hS.blk0 s2_.blk)) (SlI.of_rd s7_.k (hS.rd0 s7_.rd) (hS.blk0 s7_.blk)) hm35) ?_
  rintro e w ⟨rfl, hN⟩; refine ⟨_, rfl, ?_⟩; have hB := hN.pure; have hS := hS.join hN; clear hN
  refine wpS_quick 1 rfl ?_
  refine wpS_case 86 rfl (fun hb => ?_) (fun hb => ?_)
  rotate_left
  · replace H := cond_f H hb
    refine wpS_quick 14 rfl ?_
    refine wpS_nil ?_
    refine QH_seq_k hK33 ?_
    refine wpC_ret ?_
    refine QH_ret rfl (RV.tmp rfl RV.nil) rfl ?_
    obtain rfl := Option.some.inj H
    replace hS := hS.cut 0
    exact ⟨rfl, hS⟩
  replace H := cond_t H hb
  refine wpS_put rfl rfl rfl (yv_fieldAddr fo_32_9 rfl) ?_
  refine wpS_put rfl rfl rfl (yv_load_box sc_30 rfl (RW.here _) hS hs1 trivial sg20_1) ?_
  refine wpS_put rfl rfl rfl (yv_fieldAddr fo_32_9 rfl) ?_
  refine wpS_put rfl rfl rfl (yv_load_box sc_30 rfl (RW.here _) hS hs0 trivial sg20_1) ?_
  obtain ⟨r36, hm37, H⟩ := bind_some H
  refine wpS_call rfl rfl rfl rfl (by kernel_rfl) rfl (c_ref20_ints x0.mtch x1.mtch A3_ c3_ A8_ c8_ _ (SlI.of_rd s3_.k (hS.rd0 s3_.rd) (hS.blk0 s3_.blk)) (SlI.of_rd s8_.k (hS.rd0 s8_.rd) (hS.blk0 s8_.blk)) hm37) ?_
  rintro e w ⟨rfl, hN⟩; refine ⟨_, rfl, ?_⟩; have hB := hN.pure; have hS := hS.join hN; clear hN
  refine wpS_quick 2 rfl ?_
  refine wpS_case 93 rfl (fun hb => ?_) (fun hb => ?_)
  rotate_left
  · replace H := cond_f H hb
    refine wpS_quick 7 rfl ?_
    refine wpS_nil ?_
    refine QH_seq_k hK33 ?_
    refine wpC_ret ?_
    refine QH_ret rfl (RV.tmp rfl RV.nil) rfl ?_
    obtain rfl := Option.some.inj H
    replace hS := hS.cut 0
    exact ⟨rfl, hS⟩
  replace H := cond_t H hb
  refine wpS_put rfl rfl rfl (yv_fieldAddr fo_32_10 rfl) ?_
  refine wpS_put rfl rfl rfl (yv_load_box sc_30 rfl (RW.here _) hS hs1 trivial sg21_1) ?_
  refine wpS_put rfl rfl rfl (yv_fieldAddr fo_32_10 rfl) ?_
  refine wpS_put rfl rfl rfl (yv_load_box sc_30 rfl (RW.here _) hS hs0 trivial sg21_1) ?_
  obtain ⟨r38, hm39, H⟩ := bind_some H
  refine wpS_call rfl rfl rfl rfl (by kernel_rfl) rfl (c_ref20_ints x0.caps x1.caps A4_ c4_ A9_ c9_ _ (SlI.of_rd s4_.k (hS.rd0 s4_.rd) (hS.blk0 s4_.blk)) (SlI.of_rd s9_.k (hS.rd0 s9_.rd) (hS.blk0 s9_.blk)) hm39) ?_
  rintro e w ⟨rfl, hN⟩; refine ⟨_, rfl, ?_⟩; have hB := hN.pure; have hS := hS.join hN; clear hN
  refine wpS_quick 2 rfl ?_
  refine wpS_nil ?_
  refine QH_seq_k hK33 ?_
  refine wpC_ret ?_
  refine QH_ret rfl (RV.tmp rfl RV.nil) rfl ?_
  obtain rfl := Option.some.inj H
  replace hS := hS.cut 0
  exact ⟨rfl, hS⟩
end Go.Proofs.Ytohkkncfofomdaa
/- The printed texts of this seat. -/
/- Tuples' changes, as plain numbers: what the laws of layer 12 ask. -/
namespace Go.Proofs.Ytohkkncfofomdaa
open Go Go.RowKit
set_option maxRecDepth 100000

/-- Up to an index terms are no greater than at the end. -/
theorem lastT_mono (t : Int) (l : List En) (h : logB t l = true) : t ≤ lastT t l := by
  induction l generalizing t with
  | nil => exact Int.le_refl _
  | cons e l ih =>
    simp only [logB, Bool.and_eq_true, decide_eq_true_eq] at h
    exact Int.le_trans h.1.2 (ih _ h.2)
end Go.Proofs.Ytohkkncfofomdaa
/- What the references of entries and tuples compute, in plain terms. -/
namespace Go.Proofs.Ytohkkncfofomdaa
open Go Go.RowKit
set_option maxRecDepth 100000
theorem p_number (x : Int) : m_ref06_number x = some (numB x) := by
  unfold m_ref06_number numB
  by_cases h : 0 ≤ x <;> simp [h]
theorem p_Fine (x : St) : m_ref06_Fine x = some (fineB x) := by
  obtain ⟨i, t, s, l, f⟩ := x
  simp only [m_ref06_Fine, m_ref06_First, p_number, Option.bind_some, fineB, firstS, numB, St.mk.injEq, Bool.cond_not, Bool.cond_decide]
  cases f <;> (repeat' split) <;> simp_all <;> omega
theorem p_Right (x : En) : m_ref06_Right x = some (rightB x) := by
  obtain ⟨t, k, v⟩ := x
  simp only [m_ref06_Right, p_number, Option.bind_some, rightB, numB, Bool.cond_not, Bool.cond_decide]
  (repeat' split) <;> (refine congrArg some ?_; rw [Bool.eq_iff_iff]; simp only [decide_eq_true_eq, true_iff, Bool.false_eq_true, false_iff]; omega)
theorem p_Right12_l1 (x : Tu) (hl : x.log.length ≤ 1000000) : ∀ (m k n : Nat) (b : Bool) (t : Int), m = x.log.length - k → k ≤ x.log.length → m < n →
    m_ref12_Right_l1 x n b t k = some (logB t (x.log.drop k) && decide (lastT t (x.log.drop k) ≤ x.term ∧ 0 ≤ x.term ∧ x.term ≤ 1073741824)) := by
  intro m
  induction m with
  | zero =>
    intro k n b t hm hk hn
    obtain ⟨n, rfl⟩ : ∃ n', n = n' + 1 := ⟨n - 1, by omega⟩
    have hkl : k = x.log.length := by omega
    have hd : x.log.drop k = [] := List.drop_eq_nil_of_le (by omega)
    rw [m_ref12_Right_l1, hd]
    simp only [logB, Bool.cond_decide, if_neg (show ¬ ((k : Int) < (x.log.length : Int)) by omega), Bool.true_and]
    (repeat' split) <;> (refine congrArg some ?_; rw [Bool.eq_iff_iff]; simp only [decide_eq_true_eq, true_iff, Bool.false_eq_true, false_iff]; simp only [lastT]; omega)
  | succ m ih =>
    intro k n b t hm hk hn
    obtain ⟨n, rfl⟩ : ∃ n', n = n' + 1 := ⟨n - 1, by omega⟩
    obtain ⟨e, he, hd⟩ := drop_step (show k < x.log.length by omega)
    have hi := ih (k + 1) n b e.term (by omega) (by omega) (by omega)
    rw [m_ref12_Right_l1, hd]
    simp only [Bool.cond_decide, if_pos (show ((k : Int) < (x.log.length : Int)) by omega), idx_nat, he, Option.bind_some, p_Right, Bool.cond_not, logB, lastT]
    rw [w64i (by omega), show ((k : Int) + 1) = ((k + 1 : Nat) : Int) by omega, hi]
    cases hr : rightB e with
    | false => rfl
    | true =>
      simp only [cond_true, Bool.true_and]
      by_cases h : e.term < t
      · rw [if_pos h, decide_eq_false (show ¬ (t ≤ e.term) by omega)]; rfl
      · rw [if_neg h, decide_eq_true (show t ≤ e.term by omega)]; rfl
theorem p_Right12 (x : Tu) : m_ref12_Right x = some (tupB x) := by
  have key : tupB x = (fineB x.snap && decide (x.snap.index ≤ 1073740824 ∧ x.log.length ≤ 200 ∧ 0 ≤ x.vote ∧ x.vote ≤ 5) && (logB x.snap.term x.log && decide (lastT x.snap.term x.log ≤ x.term ∧ 0 ≤ x.term ∧ x.term ≤ 1073741824))) := by
    rw [Bool.eq_iff_iff]
    unfold tupB
    simp only [Bool.and_eq_true, decide_eq_true_eq]
    constructor
    · rintro ⟨⟨⟨h1, h2⟩, h3⟩, h4⟩
      have h5 := lastT_mono _ _ h3
      have h6 : 0 ≤ x.snap.term := by
        rcases (fineB_iff _).1 h1 with h | h
        · rw [h]; decide
        · omega
      exact ⟨⟨h1, by omega⟩, h3, by omega⟩
    · rintro ⟨⟨h1, h2⟩, h3, h4⟩
      exact ⟨⟨⟨h1, by omega⟩, h3⟩, by omega⟩
  rw [key]
  simp only [m_ref12_Right, p_Fine, Option.bind_some, Bool.cond_not, Bool.cond_decide]
  cases hf : fineB x.snap with
  | false => rfl
  | true =>
    simp only [cond_true, Bool.true_and]
    by_cases h1 : x.snap.index ≤ 1073740824 ∧ x.log.length ≤ 200 ∧ 0 ≤ x.vote ∧ x.vote ≤ 5
    · rw [if_neg (by omega), if_neg (by omega), if_neg (by omega), if_neg (by omega), decide_eq_true h1, Bool.true_and]
      have := p_Right12_l1 x (by omega) x.log.length 0 fuelN false x.snap.term (by omega) (by omega) (by unfold fuelN; omega)
      exact this
    · rw [decide_eq_false h1, Bool.false_and]
      (repeat' split) <;> first | rfl | (exfalso; omega)
theorem p_Same_l1 (a b : List En) (hl : a.length ≤ 1000000) (hab : a.length = b.length) : ∀ (m k n : Nat) (v : Bool), m = a.length - k → k ≤ a.length → m < n → m_ref06_Same_l1 a b n v k = some (decide (a.drop k = b.drop k)) := by
  intro m
  induction m with
  | zero =>
    intro k n v hm hk hn
    obtain ⟨n, rfl⟩ : ∃ n', n = n' + 1 := ⟨n - 1, by omega⟩
    rw [m_ref06_Same_l1, List.drop_eq_nil_of_le (by omega), List.drop_eq_nil_of_le (by omega)]
    simp only [Bool.cond_decide, if_neg (show ¬ ((k : Int) < (a.length : Int)) by omega)]
    rfl
  | succ m ih =>
    intro k n v hm hk hn
    obtain ⟨n, rfl⟩ : ∃ n', n = n' + 1 := ⟨n - 1, by omega⟩
    obtain ⟨e, he, hd⟩ := drop_step (show k < a.length by omega)
    obtain ⟨f, hf, hd2⟩ := drop_step (show k < b.length by omega)
    rw [m_ref06_Same_l1, hd, hd2]
    simp only [Bool.cond_decide, if_pos (show ((k : Int) < (a.length : Int)) by omega), idx_nat, he, hf, Option.bind_some, en_eq, Bool.cond_not]
    rw [w64i (by omega), show ((k : Int) + 1) = ((k + 1 : Nat) : Int) by omega, ih (k + 1) n v (by omega) (by omega) (by omega)]
    by_cases h : e = f
    · subst h; rw [if_pos rfl]; congr 1; rw [Bool.eq_iff_iff]; simp
    · rw [if_neg h]; congr 1; rw [Bool.eq_iff_iff]; simp [h]
theorem p_Same (a b : List En) (hl : a.length ≤ 1000000) : m_ref06_Same a b = some (decide (a = b)) := by
  unfold m_ref06_Same
  by_cases h : a.length = b.length
  · simp only [Bool.cond_decide, if_neg (show ¬ ((a.length : Int) ≠ (b.length : Int)) by omega)]
    have := p_Same_l1 a b hl h a.length 0 fuelN false (by omega) (by omega) (by unfold fuelN; omega)
    simpa using this
  · simp only [Bool.cond_decide, if_pos (show ((a.length : Int) ≠ (b.length : Int)) by omega)]
    rw [decide_eq_false (fun h' => h (by rw [h']))]
theorem p_Same12 (x y : Tu) (hl : x.log.length ≤ 1000000) : m_ref12_Same x y = some (decide (x = y)) := by
  obtain ⟨s, l, t, v⟩ := x; obtain ⟨s2, l2, t2, v2⟩ := y
  simp only [m_ref12_Same, snap_eq, p_Same l l2 hl, Option.bind_some, Bool.cond_decide, Tu.mk.injEq]
  by_cases h1 : s = s2 <;> by_cases h2 : t = t2 <;> by_cases h3 : v = v2 <;> simp [h1, h2, h3]
def bdT (x : Tu) : Prop := x.log.length ≤ 1000000 ∧ -2000000000000 ≤ x.snap.index ∧ x.snap.index ≤ 2000000000000
theorem q_Right (x : Tu) (h : bdT x) : m_tuple_Right x = some (tupB x) := by unfold m_tuple_Right; rw [okT_iff.2 h]; rfl
theorem q_State_yes (x : Tu) (k : Nat) (h : bdT x) (hk : k ≤ x.log.length) : m_tuple_State x (x.snap.index + k) = some (allS x.snap (x.log.take k), true) := by
  unfold m_tuple_State
  rw [okT_iff.2 h, decide_eq_true (by omega)]
  have : (x.snap.index + (k : Int) - x.snap.index).toNat = k := by omega
  rw [this]; rfl
theorem q_State_no (x : Tu) (i : Int) (h : bdT x) (hi : i < x.snap.index ∨ x.snap.index + x.log.length < i) : m_tuple_State x i = some (⟨0, 0, 0, 0, false⟩, false) := by
  unfold m_tuple_State
  rw [okT_iff.2 h, decide_eq_false (by omega)]; rfl
theorem p_tLast (x : Tu) (h : bdT x) : m_tuple_Last x = some x.last := by unfold m_tuple_Last Tu.last; obtain ⟨h1, h2, h3⟩ := h; rw [w64i (by omega)]
theorem p_Own12 (x : Tu) (h : x.log.length ≤ 1000000) : m_ref12_Own x = some x := by
  unfold m_ref12_Own
  rw [List.nil_append, fewI_ok _ (by omega)]; rfl
theorem p_Last12 (x : Tu) (h : bdT x) : m_ref12_Last x = some x.last := p_tLast x h
theorem p_Next (s : St) (e : En) : m_ref06_Next s e = some (nextS s e) := by
  simp only [m_ref06_Next, p_Right, p_Fine, Option.bind_some]
  by_cases hc : rightB e = true ∧ fineB s = true ∧ s.index < 1073741824
  · obtain ⟨hr, hf, hi⟩ := hc
    have hn : nextS s e = deedS e.kind e.value { s with index := s.index + 1, term := e.term } := by unfold nextS; rw [if_pos ⟨hr, hf, hi⟩]
    have hb : 0 ≤ s.index ∧ 0 ≤ s.sum ∧ s.sum ≤ 1073741824 := by
      rcases (fineB_iff s).1 hf with h | h
      · rw [h]; decide
      · omega
    have hv : 0 ≤ e.value ∧ e.value ≤ 1073741824 := by
      unfold rightB at hr; simp only [decide_eq_true_eq] at hr; omega
    have w0 : IntKind.wrap .i64 (s.index + 1) = s.index + 1 := w64i (by omega)
    have w1 : IntKind.wrap .i64 (31 * s.sum) = 31 * s.sum := w64i (by omega)
    have w2 : IntKind.wrap .i64 (31 * s.sum + e.value) = 31 * s.sum + e.value := w64i (by omega)
    have w3 : IntKind.wrap .i64 (31 * s.sum + e.value + 1) = 31 * s.sum + e.value + 1 := w64i (by omega)
    rw [hn, hr, hf, w0, w1, w2, w3, Int.tmod_eq_emod_of_nonneg (by omega), decide_eq_false (show ¬ (1073741824 ≤ s.index) by omega)]
    simp only [Bool.not_true, cond_false, Bool.cond_decide]
    unfold deedS
    by_cases k1 : e.kind = 1
    · rw [if_pos k1, if_pos k1]
    · rw [if_neg k1, if_neg k1]
      by_cases k2 : e.kind = 2
      · rw [if_pos k2, if_pos k2]
      · rw [if_neg k2, if_neg k2]
        by_cases k3 : e.kind = 3
        · rw [if_pos k3, if_pos k3]
          cases hF : s.final <;> rfl
        · rw [if_neg k3, if_neg k3]
          by_cases k4 : e.kind = 4
          · rw [if_pos k4, if_pos k4]
          · rw [if_neg k4, if_neg k4]
  · have hn : nextS s e = s := by unfold nextS; rw [if_neg hc]
    rw [hn]
    cases hr : rightB e with
    | false => rfl
    | true =>
      cases hf : fineB s with
      | false => rfl
      | true =>
        rw [decide_eq_true (show 1073741824 ≤ s.index by
          have : ¬ (s.index < 1073741824) := fun h => hc ⟨hr, hf, h⟩
          omega)]
        rfl
theorem p_All_l1 (l : List En) (hl : l.length ≤ 1000000) : ∀ (m k n : Nat) (s : St), m = l.length - k → k ≤ l.length → m < n → m_ref06_All_l1 l n k s.index s.term s.sum s.level s.final = some (allS s (l.drop k)) := by
  intro m
  induction m with
  | zero =>
    intro k n s hm hk hn
    obtain ⟨n, rfl⟩ : ∃ n', n = n' + 1 := ⟨n - 1, by omega⟩
    rw [m_ref06_All_l1, List.drop_eq_nil_of_le (by omega)]
    simp only [Bool.cond_decide, if_neg (show ¬ ((k : Int) < (l.length : Int)) by omega)]
    rfl
  | succ m ih =>
    intro k n s hm hk hn
    obtain ⟨n, rfl⟩ : ∃ n', n = n' + 1 := ⟨n - 1, by omega⟩
    obtain ⟨e, he, hd⟩ := drop_step (show k < l.length by omega)
    rw [m_ref06_All_l1, hd]
    simp only [Bool.cond_decide, if_pos (show ((k : Int) < (l.length : Int)) by omega), idx_nat, he, Option.bind_some]
    have : m_ref06_Next ⟨s.index, s.term, s.sum, s.level, s.final⟩ e = some (nextS s e) := p_Next s e
    rw [this, Option.bind_some, w64i (by omega), show ((k : Int) + 1) = ((k + 1 : Nat) : Int) by omega, ih (k + 1) n (nextS s e) (by omega) (by omega) (by omega)]
    rfl
theorem p_All (s : St) (l : List En) (hl : l.length ≤ 1000000) : m_ref06_All s l = some (allS s l) := p_All_l1 l hl l.length 0 fuelN s (by omega) (by omega) (by unfold fuelN; omega)
theorem p_State12 (x : Tu) (i : Int) (h : bdT x) : m_ref12_State x i = m_tuple_State x i := by
  have h1 := h.1
  have h2 := h.2
  unfold m_ref12_State
  rw [p_Last12 x h]
  simp only [Option.bind_some, Bool.cond_decide, Tu.last]
  by_cases h3 : i < x.snap.index
  · rw [if_pos h3, q_State_no x i h (.inl h3)]
  · rw [if_neg h3]
    by_cases h4 : x.snap.index + (x.log.length : Int) < i
    · rw [if_pos h4, q_State_no x i h (.inr h4)]
    · rw [if_neg h4]
      obtain ⟨k, hk⟩ : ∃ k : Nat, i = x.snap.index + (k : Int) := ⟨(i - x.snap.index).toNat, by omega⟩
      have w1 : IntKind.wrap .i64 (i - x.snap.index) = (k : Int) := by rw [w64i (by omega)]; omega
      rw [w1, takeI_nat _ _ (by omega), Option.bind_some, p_All _ _ (by rw [List.length_take]; omega), hk, q_State_yes x k h (by omega)]
      rfl
end Go.Proofs.Ytohkkncfofomdaa
/- Cores and messages, in plain terms. -/
namespace Go.Proofs.Ytohkkncfofomdaa
open Go Go.RowKit
set_option maxRecDepth 100000
/-- A sentence as a truth value. -/
noncomputable def cdec (p : Prop) : Bool := @decide p (Classical.propDecidable p)
theorem cdec_t {p : Prop} (h : p) : cdec p = true := @decide_eq_true p (Classical.propDecidable p) h
theorem cdec_f {p : Prop} (h : ¬ p) : cdec p = false := @decide_eq_false p (Classical.propDecidable p) h
theorem cdec_congr {p q : Prop} (h : p ↔ q) : cdec p = cdec q := by rw [propext h]
theorem dec_cdec {p : Prop} [Decidable p] : decide p = cdec p := by
  by_cases h : p
  · rw [cdec_t h, decide_eq_true h]
  · rw [cdec_f h, decide_eq_false h]
def InB (l : List Int) (lo hi : Int) : Prop := ∀ x ∈ l, lo ≤ x ∧ x ≤ hi
theorem InB_nil {lo hi : Int} : InB [] lo hi := fun _ h => by cases h
theorem InB_cons {x : Int} {l : List Int} {lo hi : Int} : InB (x :: l) lo hi ↔ (lo ≤ x ∧ x ≤ hi) ∧ InB l lo hi := by
  unfold InB
  constructor
  · intro h; exact ⟨h x (by simp), fun y hy => h y (by simp [hy])⟩
  · rintro ⟨h1, h2⟩ y hy
    rcases List.mem_cons.1 hy with rfl | hy
    · exact h1
    · exact h2 y hy
theorem InB.get {l : List Int} {lo hi : Int} (h : InB l lo hi) {i : Nat} {x : Int} (hx : l[i]? = some x) : lo ≤ x ∧ x ≤ hi := h x (List.mem_of_getElem? hx)
theorem InB.set {l : List Int} {lo hi : Int} (h : InB l lo hi) {i : Nat} {x : Int} (hx : lo ≤ x ∧ x ≤ hi) : InB (l.set i x) lo hi := fun y hy => by
  rcases List.mem_or_eq_of_mem_set hy with h1 | rfl
  · exact h y h1
  · exact hx
theorem InB.repl {n : Nat} {x lo hi : Int} (hx : lo ≤ x ∧ x ≤ hi) : InB (List.replicate n x) lo hi := fun y hy => by
  rw [List.eq_of_mem_replicate hy]; exact hx
theorem p_within (x lo hi : Int) : m_msg_within x lo hi = some (cdec (lo ≤ x ∧ x ≤ hi)) := by
  unfold m_msg_within
  rw [Bool.cond_decide]
  by_cases h : lo ≤ x
  · rw [if_pos h, dec_cdec]; congr 1; exact cdec_congr ⟨fun h2 => ⟨h, h2⟩, fun h2 => h2.2⟩
  · rw [if_neg h, cdec_f (fun h2 => h h2.1)]
theorem p_each_l1 (l : List Int) (lo hi : Int) (hl : l.length ≤ 1000000) : ∀ (m k n : Nat) (v : Int), m = l.length - k → k ≤ l.length → m < n → m_msg_each_l1 l lo hi n v k = some (cdec (InB (l.drop k) lo hi)) := by
  intro m
  induction m with
  | zero =>
    intro k n v hm hk hn
    obtain ⟨n, rfl⟩ : ∃ n', n = n' + 1 := ⟨n - 1, by omega⟩
    rw [m_msg_each_l1, List.drop_eq_nil_of_le (by omega), cdec_t InB_nil]
    simp only [Bool.cond_decide, if_neg (show ¬ ((k : Int) < (l.length : Int)) by omega)]
    rfl
  | succ m ih =>
    intro k n v hm hk hn
    obtain ⟨n, rfl⟩ : ∃ n', n = n' + 1 := ⟨n - 1, by omega⟩
    obtain ⟨e, he, hd⟩ := drop_step (show k < l.length by omega)
    rw [m_msg_each_l1, hd]
    simp only [Bool.cond_decide, if_pos (show ((k : Int) < (l.length : Int)) by omega), idx_nat, he, Option.bind_some, p_within]
    rw [w64i (by omega), show ((k : Int) + 1) = ((k + 1 : Nat) : Int) by omega, ih (k + 1) n v (by omega) (by omega) (by omega)]
    by_cases h : lo ≤ e ∧ e ≤ hi
    · rw [cdec_t h]; show some _ = _; congr 1; exact cdec_congr ⟨fun h2 => InB_cons.2 ⟨h, h2⟩, fun h2 => (InB_cons.1 h2).2⟩
    · rw [cdec_f h, cdec_f (fun h2 => h (InB_cons.1 h2).1), decide_eq_true (show (0 : Int) ≤ (k : Int) by omega)]; rfl
theorem p_each (l : List Int) (n lo hi : Int) (hl : l.length ≤ 1000000) : m_msg_each l n lo hi = some (cdec ((l.length : Int) = n ∧ InB l lo hi)) := by
  unfold m_msg_each
  rw [Bool.cond_decide]
  by_cases h : (l.length : Int) = n
  · rw [if_pos h]
    have := p_each_l1 l lo hi hl l.length 0 fuelN 0 (by omega) (by omega) (by unfold fuelN; omega)
    rw [show ((0 : Nat) : Int) = 0 from rfl] at this
    rw [this, List.drop_zero]
    congr 1; exact cdec_congr ⟨fun h2 => ⟨h, h2⟩, fun h2 => h2.2⟩
  · rw [if_neg h, cdec_f (fun h2 => h h2.1)]
theorem p_eRight (e : En) : m_entry_Right e = some (rightB e) := rfl
theorem p_eNumber (x : Int) : m_entry_number x = some (numB x) := by
  unfold m_entry_number numB
  by_cases h : 0 ≤ x <;> simp [h]
theorem p_eFine (x : St) : m_entry_Fine x = some (fineB x) := by
  obtain ⟨i, t, s, l, f⟩ := x
  simp only [m_entry_Fine, m_entry_First, p_eNumber, Option.bind_some, fineB, firstS, numB, St.mk.injEq, Bool.cond_not, Bool.cond_decide]
  cases f <;> (repeat' split) <;> simp_all <;> omega
/-- The state at an index. -/
def stOf (t : Tu) (i : Int) : Option St := if t.snap.index ≤ i ∧ i ≤ t.last then some (allS t.snap (t.log.take (i - t.snap.index).toNat)) else none
theorem q_State (x : Tu) (i : Int) (h : bdT x) : m_tuple_State x i = some ((stOf x i).getD ⟨0, 0, 0, 0, false⟩, (stOf x i).isSome) := by
  unfold stOf Tu.last
  by_cases hi : x.snap.index ≤ i ∧ i ≤ x.snap.index + x.log.length
  · rw [if_pos hi]
    obtain ⟨k, hk⟩ : ∃ k : Nat, i = x.snap.index + (k : Int) := ⟨(i - x.snap.index).toNat, by omega⟩
    rw [hk, q_State_yes x k h (by omega), show (x.snap.index + (k : Int) - x.snap.index).toNat = k by omega]
    rfl
  · rw [if_neg hi, q_State_no x i h (by omega)]; rfl
/-- A core that may be. -/
structure RightC (x : Co) : Prop where
  n : 1 ≤ x.n ∧ x.n ≤ 5
  id : 1 ≤ x.id ∧ x.id ≤ x.n
  role : x.role ≤ 2
  bin : 1 ≤ x.binary ∧ x.binary ≤ 2
  tup : tupB x.tuple = true
  st : stOf x.tuple x.commit = some x.applied
  lv : (x.votes.length : Int) = x.n
  ln : (x.next.length : Int) = x.n
  lm : (x.mtch.length : Int) = x.n
  lc : (x.caps.length : Int) = x.n
  next : InB x.next 1 (x.tuple.last + 1)
  mtch : InB x.mtch 0 x.tuple.last
  caps : InB x.caps 0 2
  own : x.caps[(x.id - 1).toNat]? = some x.binary
  lead : x.role = 0 ∨ (0 < x.tuple.term ∧ x.tuple.vote = x.id)
noncomputable def rightC (x : Co) : Bool := cdec (RightC x)
/-- A core that is not too great. -/
structure BdC (x : Co) : Prop where
  tup : bdT x.tuple
  lv : x.votes.length ≤ 1000000
  ln : x.next.length ≤ 1000000
  lm : x.mtch.length ≤ 1000000
  lc : x.caps.length ≤ 1000000
theorem own_get (x : Co) (h1 : 1 ≤ x.n ∧ x.n ≤ 5) (h2 : 1 ≤ x.id ∧ x.id ≤ x.n) (h3 : (x.caps.length : Int) = x.n) : ∃ e, idx x.caps (IntKind.wrap .i64 (x.id - 1)) = some e ∧ x.caps[(x.id - 1).toNat]? = some e := by
  have hw : IntKind.wrap .i64 (x.id - 1) = (((x.id - 1).toNat : Nat) : Int) := by rw [w64i (by omega)]; omega
  obtain ⟨e, he, _⟩ := drop_step (show (x.id - 1).toNat < x.caps.length by omega)
  exact ⟨e, by rw [hw, idx_nat, he], he⟩
theorem last_bd {t : Tu} (h : bdT t) : -3000000000000 ≤ t.last ∧ t.last ≤ 3000000000000 := by
  obtain ⟨h1, h2, h3⟩ := h
  unfold Tu.last; omega
theorem p_mRight (x : Co) (h : BdC x) : m_msg_Right x = some (rightC x) := by
  have hlb := last_bd h.tup
  have hw : IntKind.wrap .i64 (x.tuple.last + 1) = x.tuple.last + 1 := w64i (by omega)
  simp only [m_msg_Right, p_tLast x.tuple h.tup, p_within, q_Right x.tuple h.tup, q_State x.tuple x.commit h.tup, p_each x.next _ _ _ h.ln, p_each x.mtch _ _ _ h.lm, p_each x.caps _ _ _ h.lc, Option.bind_some, hw, snap_eq]
  unfold rightC
  by_cases c1 : 1 ≤ x.n ∧ x.n ≤ 5
  case neg => rw [cdec_f c1, cdec_f (p := RightC x) fun h => c1 h.n]; rfl
  by_cases c2 : 1 ≤ x.id ∧ x.id ≤ x.n
  case neg => rw [cdec_t c1, cdec_f c2, cdec_f (p := RightC x) fun h => c2 h.id]; rfl
  by_cases c3 : x.role ≤ 2
  case neg => rw [cdec_t c1, cdec_t c2, decide_eq_false c3, cdec_f (p := RightC x) fun h => c3 h.role]; rfl
  by_cases c4 : 1 ≤ x.binary ∧ x.binary ≤ 2
  case neg => rw [cdec_t c1, cdec_t c2, decide_eq_true c3, cdec_f c4, cdec_f (p := RightC x) fun h => c4 h.bin]; rfl
  rw [cdec_t c1, cdec_t c2, decide_eq_true c3, cdec_t c4]
  simp only [cond_true, Bool.not_true, cond_false]
  cases c5 : tupB x.tuple
  case false => rw [cdec_f (p := RightC x) fun h => by have h2 := h.tup; rw [c5] at h2; cases h2]; rfl
  simp only [cond_true, Bool.not_true, cond_false]
  cases c6 : stOf x.tuple x.commit with
  | none => rw [cdec_f (p := RightC x) fun h => by rw [h.st] at c6; cases c6]; rfl
  | some s =>
    simp only [Option.isSome_some, Option.getD_some, cond_true]
    by_cases c7 : s = x.applied
    case neg => rw [decide_eq_false c7, cdec_f (p := RightC x) fun h => c7 (by have := h.st; rw [c6] at this; exact Option.some.inj this)]; rfl
    rw [decide_eq_true c7]
    simp only [cond_true, Bool.not_true, cond_false]
    by_cases c8 : (x.votes.length : Int) = x.n
    case neg => rw [decide_eq_false c8, cdec_f (p := RightC x) fun h => c8 h.lv]; rfl
    by_cases c9 : (x.next.length : Int) = x.n ∧ InB x.next 1 (x.tuple.last + 1)
    case neg => rw [decide_eq_true c8, cdec_f c9, cdec_f (p := RightC x) fun h => c9 ⟨h.ln, h.next⟩]; rfl
    by_cases c10 : (x.mtch.length : Int) = x.n ∧ InB x.mtch 0 x.tuple.last
    case neg => rw [decide_eq_true c8, cdec_t c9, cdec_f c10, cdec_f (p := RightC x) fun h => c10 ⟨h.lm, h.mtch⟩]; rfl
    by_cases c11 : (x.caps.length : Int) = x.n ∧ InB x.caps 0 2
    case neg => rw [decide_eq_true c8, cdec_t c9, cdec_t c10, cdec_f c11, cdec_f (p := RightC x) fun h => c11 ⟨h.lc, h.caps⟩]; rfl
    rw [decide_eq_true c8, cdec_t c9, cdec_t c10, cdec_t c11]
    obtain ⟨e, he, he2⟩ := own_get x c1 c2 c11.1
    simp only [cond_true, Bool.not_true, cond_false, Option.bind_some, he]
    by_cases c12 : e = x.binary
    case neg => rw [decide_eq_false c12, cdec_f (p := RightC x) fun h => c12 (by have := h.own; rw [he2] at this; exact Option.some.inj this)]; rfl
    rw [decide_eq_true c12]
    simp only [cond_true, Bool.not_true, cond_false, Bool.cond_decide]
    subst c12
    subst c7
    by_cases c13 : x.role = 0
    · rw [if_pos c13, cdec_t (p := RightC x) ⟨c1, c2, c3, c4, c5, c6, c8, c9.1, c10.1, c11.1, c9.2, c10.2, c11.2, he2, .inl c13⟩]
    · rw [if_neg c13]
      by_cases c14 : 0 < x.tuple.term
      · rw [if_pos c14]
        by_cases c15 : x.tuple.vote = x.id
        · rw [decide_eq_true c15, cdec_t (p := RightC x) ⟨c1, c2, c3, c4, c5, c6, c8, c9.1, c10.1, c11.1, c9.2, c10.2, c11.2, he2, .inr ⟨c14, c15⟩⟩]; rfl
        · rw [decide_eq_false c15, cdec_f (p := RightC x) fun h => by rcases h.lead with h | h; exact c13 h; exact c15 h.2]; rfl
      · rw [if_neg c14, cdec_f (p := RightC x) fun h => by rcases h.lead with h | h; exact c13 h; exact c14 h.1]
theorem p_Own20 (x : Co) (h : BdC x) : m_ref20_Own x = some x := by
  have h1 := h.tup.1
  have h2 := h.lv
  have h3 := h.ln
  have h4 := h.lm
  have h5 := h.lc
  simp only [m_ref20_Own, p_Own12 _ h1, List.nil_append, Option.bind_some, fewI_ok _ (show x.votes.length ≤ 1000000000 by omega), fewI_ok _ (show x.next.length ≤ 1000000000 by omega), fewI_ok _ (show x.mtch.length ≤ 1000000000 by omega), fewI_ok _ (show x.caps.length ≤ 1000000000 by omega)]
theorem p_mOwn (x : Co) (h : BdC x) : m_msg_Own x = some x := by
  have h1 := h.tup.1
  have h2 := h.lv
  have h3 := h.ln
  have h4 := h.lm
  have h5 := h.lc
  simp only [m_msg_Own, m_tuple_Own, m_slices_Clone___api_Entry_api_Entry_, m_slices_Clone___bool_bool_, m_slices_Clone___int_int_, Option.bind_some, fewI_ok _ (show x.tuple.log.length ≤ 1000000000 by omega), fewI_ok _ (show x.votes.length ≤ 1000000000 by omega), fewI_ok _ (show x.next.length ≤ 1000000000 by omega), fewI_ok _ (show x.mtch.length ≤ 1000000000 by omega), fewI_ok _ (show x.caps.length ≤ 1000000000 by omega)]
theorem p_ints_l1 (a b : List Int) (hl : a.length ≤ 1000000) (hab : a.length = b.length) : ∀ (m k n : Nat) (v : Bool), m = a.length - k → k ≤ a.length → m < n → m_ref20_ints_l1 a b n v k = some (decide (a.drop k = b.drop k)) := by
  intro m
  induction m with
  | zero =>
    intro k n v hm hk hn
    obtain ⟨n, rfl⟩ : ∃ n', n = n' + 1 := ⟨n - 1, by omega⟩
    rw [m_ref20_ints_l1, List.drop_eq_nil_of_le (by omega), List.drop_eq_nil_of_le (by omega)]
    simp only [Bool.cond_decide, if_neg (show ¬ ((k : Int) < (a.length : Int)) by omega)]
    rfl
  | succ m ih =>
    intro k n v hm hk hn
    obtain ⟨n, rfl⟩ : ∃ n', n = n' + 1 := ⟨n - 1, by omega⟩
    obtain ⟨e, he, hd⟩ := drop_step (show k < a.length by omega)
    obtain ⟨f, hf, hd2⟩ := drop_step (show k < b.length by omega)
    rw [m_ref20_ints_l1, hd, hd2]
    simp only [Bool.cond_decide, if_pos (show ((k : Int) < (a.length : Int)) by omega), idx_nat, he, hf, Option.bind_some]
    rw [w64i (by omega), show ((k : Int) + 1) = ((k + 1 : Nat) : Int) by omega, ih (k + 1) n v (by omega) (by omega) (by omega)]
    by_cases h : e = f
    · subst h; rw [if_neg (fun h => h rfl)]; congr 1; rw [Bool.eq_iff_iff]; simp
    · rw [if_pos h]; congr 1; rw [Bool.eq_iff_iff]; simp [h]
theorem p_ints (a b : List Int) (hl : a.length ≤ 1000000) : m_ref20_ints a b = some (decide (a = b)) := by
  unfold m_ref20_ints
  by_cases h : a.length = b.length
  · simp only [Bool.cond_decide, if_neg (show ¬ ((a.length : Int) ≠ (b.length : Int)) by omega)]
    have := p_ints_l1 a b hl h a.length 0 fuelN false (by omega) (by omega) (by unfold fuelN; omega)
    simpa using this
  · simp only [Bool.cond_decide, if_pos (show ((a.length : Int) ≠ (b.length : Int)) by omega)]
    rw [decide_eq_false (fun h' => h (by rw [h']))]
theorem p_Same20_l1 (x y : Co) (h : BdC x) (hab : x.votes.length = y.votes.length) : ∀ (m k n : Nat) (v : Bool), m = x.votes.length - k → k ≤ x.votes.length → m < n → m_ref20_Same_l1 x y n v k = some (decide (x.votes.drop k = y.votes.drop k ∧ x.next = y.next ∧ x.mtch = y.mtch ∧ x.caps = y.caps)) := by
  have hv := h.lv
  intro m
  induction m with
  | zero =>
    intro k n v hm hk hn
    obtain ⟨n, rfl⟩ : ∃ n', n = n' + 1 := ⟨n - 1, by omega⟩
    rw [m_ref20_Same_l1, List.drop_eq_nil_of_le (by omega), List.drop_eq_nil_of_le (by omega)]
    simp only [Bool.cond_decide, if_neg (show ¬ ((k : Int) < (x.votes.length : Int)) by omega), p_ints _ _ h.ln, p_ints _ _ h.lm, p_ints _ _ h.lc, Option.bind_some]
    (repeat' split) <;> (congr 1; rw [Bool.eq_iff_iff]; simp_all)
  | succ m ih =>
    intro k n v hm hk hn
    obtain ⟨n, rfl⟩ : ∃ n', n = n' + 1 := ⟨n - 1, by omega⟩
    obtain ⟨e, he, hd⟩ := drop_step (show k < x.votes.length by omega)
    obtain ⟨f, hf, hd2⟩ := drop_step (show k < y.votes.length by omega)
    rw [m_ref20_Same_l1, hd, hd2]
    simp only [Bool.cond_decide, if_pos (show ((k : Int) < (x.votes.length : Int)) by omega), idx_nat, he, hf, Option.bind_some]
    rw [w64i (by omega), show ((k : Int) + 1) = ((k + 1 : Nat) : Int) by omega, ih (k + 1) n v (by omega) (by omega) (by omega)]
    by_cases h : e = f
    · subst h; rw [if_neg (fun h => h rfl)]; congr 1; rw [Bool.eq_iff_iff]; simp
    · rw [if_pos h]; congr 1; rw [Bool.eq_iff_iff]; simp [h]
theorem p_Same20 (x y : Co) (h : BdC x) : m_ref20_Same x y = some (decide (x = y)) := by
  have hv := h.lv
  obtain ⟨a1, a2, a3, a4, a5, a6, a7, a8, a9, a10, a11⟩ := x
  obtain ⟨b1, b2, b3, b4, b5, b6, b7, b8, b9, b10, b11⟩ := y
  simp only [m_ref20_Same, p_Same12 a5 b5 h.tup.1, snap_eq, Option.bind_some, Bool.cond_decide, Co.mk.injEq, Bool.cond_not]
  by_cases c1 : a1 = b1
  case neg => simp [c1]
  by_cases c2 : a2 = b2
  case neg => simp [c2]
  by_cases c3 : a3 = b3
  case neg => simp [c3]
  by_cases c4 : a4 = b4
  case neg => simp [c4]
  by_cases c5 : a5 = b5
  case neg => simp [c5]
  by_cases c6 : a6 = b6
  case neg => simp [c6]
  by_cases c7 : a7 = b7
  case neg => simp [c7]
  by_cases c8 : a8.length = b8.length
  case neg =>
    have : a8 ≠ b8 := fun h => c8 (by rw [h])
    simp [c8, this]
    intros; omega
  have := p_Same20_l1 ⟨a1, a2, a3, a4, a5, a6, a7, a8, a9, a10, a11⟩ ⟨b1, b2, b3, b4, b5, b6, b7, b8, b9, b10, b11⟩ h c8 a8.length 0 fuelN false (by simp) (by omega) (by dsimp only at hv; unfold fuelN; omega)
  dsimp only at this
  rw [show ((0 : Nat) : Int) = 0 from rfl] at this
  rw [this]
  subst c1; subst c2; subst c3; subst c4; subst c5; subst c6; subst c7
  simp [c8]
/-- What is too great. -/
theorem p_Great_no (x : Co) (h : m_ref20_Great x = some false) : BdC x ∧ x.votes.length ≤ 9 ∧ x.next.length ≤ 9 ∧ x.mtch.length ≤ 9 ∧ x.caps.length ≤ 9 ∧ x.tuple.log.length ≤ 250 := by
  unfold m_ref20_Great m_ref12_Great at h
  simp only [Option.bind_some, Bool.cond_decide] at h
  repeat' split at h
  all_goals first | (cases h; done) | skip
  simp only [Option.some.injEq, decide_eq_false_iff_not] at h
  refine ⟨⟨⟨by omega, by omega, by omega⟩, by omega, by omega, by omega, by omega⟩, by omega, by omega, by omega, by omega, by omega⟩
theorem p_Great_some (x : Co) : ∃ b, m_ref20_Great x = some b := by
  unfold m_ref20_Great m_ref12_Great
  simp only [Option.bind_some, Bool.cond_decide]
  repeat' split
  all_goals exact ⟨_, rfl⟩
/-- A core that may be is not too great. -/
theorem RightC.bd {x : Co} (h : RightC x) : BdC x := by
  have h1 := tupB_bd _ h.tup
  have := h.n
  have := h.lv
  have := h.ln
  have := h.lm
  have := h.lc
  exact ⟨⟨by omega, h1.1, by omega⟩, by omega, by omega, by omega, by omega⟩
theorem p_State12' (x : Tu) (i : Int) (h : bdT x) : m_ref12_State x i = some ((stOf x i).getD ⟨0, 0, 0, 0, false⟩, (stOf x i).isSome) := by rw [p_State12 x i h, q_State x i h]
theorem p_Right20_l1 (x : Co) (hn : 1 ≤ x.n ∧ x.n ≤ 5) (hi : 1 ≤ x.id ∧ x.id ≤ x.n) (h2 : (x.next.length : Int) = x.n) (h3 : (x.mtch.length : Int) = x.n) (h4 : (x.caps.length : Int) = x.n) (hb : bdT x.tuple) : ∀ (m k n : Nat) (b : Bool), m = x.caps.length - k → k ≤ x.caps.length → m < n →
    m_ref20_Right_l1 x x.tuple.last n b k = some (cdec (InB (x.next.drop k) 1 (x.tuple.last + 1) ∧ InB (x.mtch.drop k) 0 x.tuple.last ∧ InB (x.caps.drop k) 0 2 ∧ x.caps[(x.id - 1).toNat]? = some x.binary ∧ (x.role = 0 ∨ (0 < x.tuple.term ∧ x.tuple.vote = x.id)))) := by
  have hlb := last_bd hb
  have hw : IntKind.wrap .i64 (x.tuple.last + 1) = x.tuple.last + 1 := w64i (by omega)
  obtain ⟨e0, he0, he1⟩ := own_get x hn hi h4
  intro m
  induction m with
  | zero =>
    intro k n b hm hk hn'
    obtain ⟨n, rfl⟩ : ∃ n', n = n' + 1 := ⟨n - 1, by omega⟩
    rw [m_ref20_Right_l1, List.drop_eq_nil_of_le (by omega), List.drop_eq_nil_of_le (by omega), List.drop_eq_nil_of_le (by omega)]
    simp only [Bool.cond_decide, if_neg (show ¬ ((k : Int) < x.n) by omega), he0, he1, Option.bind_some, Option.some.injEq]
    by_cases c1 : x.role = 0
    · rw [if_neg (fun h => h c1), dec_cdec]; congr 1; exact cdec_congr ⟨fun h => ⟨InB_nil, InB_nil, InB_nil, h, .inl c1⟩, fun h => h.2.2.2.1⟩
    · rw [if_pos c1]
      by_cases c2 : x.tuple.term < 1
      · rw [if_pos c2, cdec_f]; rintro ⟨_, _, _, _, h | h⟩; exact c1 h; omega
      · rw [if_neg c2]
        by_cases c3 : x.tuple.vote = x.id
        · rw [if_neg (fun h => h c3), dec_cdec]; congr 1; exact cdec_congr ⟨fun h => ⟨InB_nil, InB_nil, InB_nil, h, .inr ⟨by omega, c3⟩⟩, fun h => h.2.2.2.1⟩
        · rw [if_pos c3, cdec_f]; rintro ⟨_, _, _, _, h | h⟩; exact c1 h; exact c3 h.2
  | succ m ih =>
    intro k n b hm hk hn'
    obtain ⟨n, rfl⟩ : ∃ n', n = n' + 1 := ⟨n - 1, by omega⟩
    obtain ⟨e, he, hd⟩ := drop_step (show k < x.next.length by omega)
    obtain ⟨f, hf, hd2⟩ := drop_step (show k < x.mtch.length by omega)
    obtain ⟨g, hg, hd3⟩ := drop_step (show k < x.caps.length by omega)
    rw [m_ref20_Right_l1, hd, hd2, hd3]
    simp only [Bool.cond_decide, if_pos (show ((k : Int) < x.n) by omega), idx_nat, he, hf, hg, Option.bind_some, hw]
    rw [w64i (n := (k : Int) + 1) (by omega), show ((k : Int) + 1) = ((k + 1 : Nat) : Int) by omega, ih (k + 1) n b (by omega) (by omega) (by omega)]
    by_cases c1 : e < 1
    · rw [if_pos c1, cdec_f]; rintro ⟨h, _⟩; have := (InB_cons.1 h).1; omega
    rw [if_neg c1]
    by_cases c2 : x.tuple.last + 1 < e
    · rw [if_pos c2, cdec_f]; rintro ⟨h, _⟩; have := (InB_cons.1 h).1; omega
    rw [if_neg c2]
    by_cases c3 : f < 0
    · rw [if_pos c3, cdec_f]; rintro ⟨_, h, _⟩; have := (InB_cons.1 h).1; omega
    rw [if_neg c3]
    by_cases c4 : x.tuple.last < f
    · rw [if_pos c4, cdec_f]; rintro ⟨_, h, _⟩; have := (InB_cons.1 h).1; omega
    rw [if_neg c4]
    by_cases c5 : g < 0
    · rw [if_pos c5, cdec_f]; rintro ⟨_, _, h, _⟩; have := (InB_cons.1 h).1; omega
    rw [if_neg c5]
    by_cases c6 : 2 < g
    · rw [if_pos c6, cdec_f]; rintro ⟨_, _, h, _⟩; have := (InB_cons.1 h).1; omega
    rw [if_neg c6]
    congr 1
    exact cdec_congr ⟨fun h => ⟨InB_cons.2 ⟨by omega, h.1⟩, InB_cons.2 ⟨by omega, h.2.1⟩, InB_cons.2 ⟨by omega, h.2.2.1⟩, h.2.2.2⟩, fun h => ⟨(InB_cons.1 h.1).2, (InB_cons.1 h.2.1).2, (InB_cons.1 h.2.2.1).2, h.2.2.2⟩⟩
theorem p_Right20 (x : Co) (h : BdC x) : m_ref20_Right x = some (rightC x) := by
  simp only [m_ref20_Right, p_Right12, p_State12' x.tuple x.commit h.tup, p_Last12 x.tuple h.tup, Option.bind_some, snap_eq, Bool.cond_decide]
  unfold rightC
  by_cases c1 : x.n < 1
  · rw [if_pos c1, cdec_f (p := RightC x) fun h => by have := h.n; omega]
  rw [if_neg c1]
  by_cases c2 : 5 < x.n
  · rw [if_pos c2, cdec_f (p := RightC x) fun h => by have := h.n; omega]
  rw [if_neg c2]
  by_cases c3 : x.id < 1
  · rw [if_pos c3, cdec_f (p := RightC x) fun h => by have := h.id; omega]
  rw [if_neg c3]
  by_cases c4 : x.n < x.id
  · rw [if_pos c4, cdec_f (p := RightC x) fun h => by have := h.id; omega]
  rw [if_neg c4]
  by_cases c5 : 2 < x.role
  · rw [if_pos c5, cdec_f (p := RightC x) fun h => by have := h.role; omega]
  rw [if_neg c5]
  by_cases c6 : x.binary < 1
  · rw [if_pos c6, cdec_f (p := RightC x) fun h => by have := h.bin; omega]
  rw [if_neg c6]
  by_cases c7 : 2 < x.binary
  · rw [if_pos c7, cdec_f (p := RightC x) fun h => by have := h.bin; omega]
  rw [if_neg c7]
  cases c8 : tupB x.tuple with
  | false => rw [cdec_f (p := RightC x) fun h => by have h2 := h.tup; rw [c8] at h2; cases h2]; rfl
  | true =>
    simp only [Bool.not_true, cond_false]
    cases c9 : stOf x.tuple x.commit with
    | none => rw [cdec_f (p := RightC x) fun h => by rw [h.st] at c9; cases c9]; rfl
    | some s =>
      simp only [Option.isSome_some, Option.getD_some, Bool.not_true, cond_false]
      by_cases d1 : s = x.applied
      case neg => rw [decide_eq_false d1, cdec_f (p := RightC x) fun h => d1 (by have := h.st; rw [c9] at this; exact Option.some.inj this)]; rfl
      rw [decide_eq_true d1]
      simp only [Bool.not_true, cond_false]
      by_cases d2 : (x.votes.length : Int) = x.n
      case neg => rw [if_pos d2, cdec_f (p := RightC x) fun h => d2 h.lv]
      rw [if_neg (fun h => h d2)]
      by_cases d3 : (x.next.length : Int) = x.n
      case neg => rw [if_pos d3, cdec_f (p := RightC x) fun h => d3 h.ln]
      rw [if_neg (fun h => h d3)]
      by_cases d4 : (x.mtch.length : Int) = x.n
      case neg => rw [if_pos d4, cdec_f (p := RightC x) fun h => d4 h.lm]
      rw [if_neg (fun h => h d4)]
      by_cases d5 : (x.caps.length : Int) = x.n
      case neg => rw [if_pos d5, cdec_f (p := RightC x) fun h => d5 h.lc]
      rw [if_neg (fun h => h d5)]
      have := p_Right20_l1 x (by omega) (by omega) d3 d4 d5 h.tup x.caps.length 0 fuelN false (by omega) (by omega) (by have := h.lc; unfold fuelN; omega)
      rw [show ((0 : Nat) : Int) = 0 from rfl] at this
      rw [this]
      simp only [List.drop_zero]
      congr 1
      subst d1
      exact cdec_congr ⟨fun h => ⟨by omega, by omega, by omega, by omega, c8, c9, d2, d3, d4, d5, h.1, h.2.1, h.2.2.1, h.2.2.2.1, h.2.2.2.2⟩, fun h => ⟨h.next, h.mtch, h.caps, h.own, h.lead⟩⟩
end Go.Proofs.Ytohkkncfofomdaa
/- Messages, and what was heard of binaries, in plain terms. -/
namespace Go.Proofs.Ytohkkncfofomdaa
open Go Go.RowKit
set_option maxRecDepth 100000
def entB (last term : Int) : List En → Prop
  | [] => True
  | e :: l => rightB e = true ∧ (last ≤ e.term ∧ e.term ≤ term) ∧ entB e.term term l
/-- A message that may be. -/
structure FineM (m : Ms) (n : Int) : Prop where
  many : 1 ≤ n ∧ n ≤ 5
  frm : 1 ≤ m.frm ∧ m.frm ≤ n
  dst : 1 ≤ m.dst ∧ m.dst ≤ n
  ne : m.frm ≠ m.dst
  kind : 1 ≤ m.kind ∧ m.kind ≤ 5
  term : 1 ≤ m.term ∧ m.term ≤ 1073741824
  cap : 1 ≤ m.cap ∧ m.cap ≤ 2
  last : 0 ≤ m.last ∧ m.last ≤ 1073741824
  lastTerm : 0 ≤ m.lastTerm ∧ m.lastTerm ≤ 1073741824
  commit : 0 ≤ m.commit ∧ m.commit ≤ 1073741824
  ents : entB m.lastTerm m.term m.entries
  few : m.entries.length ≤ 4
  app : m.kind ≠ 3 → m.entries.length = 0 ∧ m.commit = 0
  okk : m.okk = true → m.kind = 2 ∨ m.kind = 4
  snap : m.kind = 5 → 0 < m.snap.index ∧ fineB m.snap = true
  nosnap : m.kind ≠ 5 → m.snap = ⟨0, 0, 0, 0, false⟩
noncomputable def fineM (m : Ms) (n : Int) : Bool := cdec (FineM m n)
/-- A message that is not too great. -/
structure BdM (m : Ms) : Prop where
  kind : 0 ≤ m.kind ∧ m.kind ≤ 255
  ents : m.entries.length ≤ 1000000
theorem p_entries_l1 (x : Ms) (h : x.entries.length ≤ 1000000) : ∀ (m k n : Nat) (v : Bool) (last : Int), m = x.entries.length - k → k ≤ x.entries.length → m < n → m_msg_entries_l1 x n v last k = some (cdec (entB last x.term (x.entries.drop k) ∧ x.entries.length ≤ 4)) := by
  intro m
  induction m with
  | zero =>
    intro k n v last hm hk hn
    obtain ⟨n, rfl⟩ : ∃ n', n = n' + 1 := ⟨n - 1, by omega⟩
    rw [m_msg_entries_l1, List.drop_eq_nil_of_le (by omega)]
    simp only [Bool.cond_decide, if_neg (show ¬ ((k : Int) < (x.entries.length : Int)) by omega)]
    rw [dec_cdec]; congr 1
    exact cdec_congr ⟨fun h => ⟨trivial, by omega⟩, fun h => by have := h.2; omega⟩
  | succ m ih =>
    intro k n v last hm hk hn
    obtain ⟨n, rfl⟩ : ∃ n', n = n' + 1 := ⟨n - 1, by omega⟩
    obtain ⟨e, he, hd⟩ := drop_step (show k < x.entries.length by omega)
    rw [m_msg_entries_l1, hd]
    simp only [Bool.cond_decide, if_pos (show ((k : Int) < (x.entries.length : Int)) by omega), idx_nat, he, Option.bind_some, p_eRight, p_within]
    rw [w64i (by omega), show ((k : Int) + 1) = ((k + 1 : Nat) : Int) by omega, ih (k + 1) n v e.term (by omega) (by omega) (by omega)]
    cases c1 : rightB e with
    | false => rw [cdec_f (p := entB last x.term (e :: x.entries.drop (k + 1)) ∧ x.entries.length ≤ 4) fun h => by have h2 := h.1.1; rw [c1] at h2; cases h2]; rfl
    | true =>
      by_cases c2 : last ≤ e.term ∧ e.term ≤ x.term
      · rw [cdec_t c2]; show some _ = some _; congr 1
        exact cdec_congr ⟨fun h => ⟨⟨c1, c2, h.1⟩, h.2⟩, fun h => ⟨h.1.2.2, h.2⟩⟩
      · rw [cdec_f c2, cdec_f (p := entB last x.term (e :: x.entries.drop (k + 1)) ∧ x.entries.length ≤ 4) fun h => c2 h.1.2.1]; rfl
theorem p_entries (x : Ms) (h : x.entries.length ≤ 1000000) : m_msg_entries x = some (cdec (entB x.lastTerm x.term x.entries ∧ x.entries.length ≤ 4)) := by
  have := p_entries_l1 x h x.entries.length 0 fuelN false x.lastTerm (by omega) (by omega) (by unfold fuelN; omega)
  unfold m_msg_entries
  simpa using this
theorem st_zero (s : St) : (decide (s.index = 0) && (decide (s.term = 0) && (decide (s.sum = 0) && (decide (s.level = 0) && decide (s.final = false))))) = decide (s = ⟨0, 0, 0, 0, false⟩) := by
  obtain ⟨a1, a2, a3, a4, a5⟩ := s
  rw [Bool.eq_iff_iff]; simp
theorem p_mFine (m : Ms) (n : Int) (h : BdM m) : m_msg_Fine m n = some (fineM m n) := by
  have hw : IntKind.wrap .i64 m.kind = m.kind := w64i (by have := h.kind; omega)
  simp only [m_msg_Fine, p_within, p_each [m.frm, m.dst] _ _ _ (by simp), p_each [m.last, m.lastTerm, m.commit] _ _ _ (by simp), p_entries m h.ents, p_eFine, Option.bind_some, hw, st_zero]
  unfold fineM
  by_cases c1 : 1 ≤ n ∧ n ≤ 5
  case neg => rw [cdec_f c1, cdec_f (p := FineM m n) fun h => c1 h.many]; rfl
  rw [cdec_t c1]
  by_cases c2 : (([m.frm, m.dst].length : Nat) : Int) = 2 ∧ InB [m.frm, m.dst] 1 n
  case neg => rw [cdec_f c2, cdec_f (p := FineM m n) fun h => c2 ⟨rfl, InB_cons.2 ⟨h.frm, InB_cons.2 ⟨h.dst, InB_nil⟩⟩⟩]; rfl
  rw [cdec_t c2]
  have c21 := (InB_cons.1 c2.2).1
  have c22 := (InB_cons.1 (InB_cons.1 c2.2).2).1
  by_cases c3 : m.frm = m.dst
  case pos => rw [decide_eq_true c3, cdec_f (p := FineM m n) fun h => h.ne c3]; rfl
  rw [decide_eq_false c3]
  by_cases c4 : 1 ≤ m.kind ∧ m.kind ≤ 5
  case neg => rw [cdec_f c4, cdec_f (p := FineM m n) fun h => c4 h.kind]; rfl
  rw [cdec_t c4]
  by_cases c5 : 1 ≤ m.term ∧ m.term ≤ 1073741824
  case neg => rw [cdec_f c5, cdec_f (p := FineM m n) fun h => c5 h.term]; rfl
  rw [cdec_t c5]
  by_cases c6 : 1 ≤ m.cap ∧ m.cap ≤ 2
  case neg => rw [cdec_f c6, cdec_f (p := FineM m n) fun h => c6 h.cap]; rfl
  rw [cdec_t c6]
  by_cases c7 : (([m.last, m.lastTerm, m.commit].length : Nat) : Int) = 3 ∧ InB [m.last, m.lastTerm, m.commit] 0 1073741824
  case neg => rw [cdec_f c7, cdec_f (p := FineM m n) fun h => c7 ⟨rfl, InB_cons.2 ⟨h.last, InB_cons.2 ⟨h.lastTerm, InB_cons.2 ⟨h.commit, InB_nil⟩⟩⟩⟩]; rfl
  rw [cdec_t c7]
  have c71 := (InB_cons.1 c7.2).1
  have c72 := (InB_cons.1 (InB_cons.1 c7.2).2).1
  have c73 := (InB_cons.1 (InB_cons.1 (InB_cons.1 c7.2).2).2).1
  by_cases c8 : entB m.lastTerm m.term m.entries ∧ m.entries.length ≤ 4
  case neg => rw [cdec_f c8, cdec_f (p := FineM m n) fun h => c8 ⟨h.ents, h.few⟩]; rfl
  rw [cdec_t c8]
  have yes : ∀ (d1 : m.kind ≠ 3 → m.entries.length = 0 ∧ m.commit = 0) (d2 : m.okk = true → m.kind = 2 ∨ m.kind = 4), (if m.kind = 5 then (if 0 < m.snap.index then some (fineB m.snap) else some false) else some (decide (m.snap = ⟨0, 0, 0, 0, false⟩))) = some (cdec (FineM m n)) := by
    intro d1 d2
    by_cases e1 : m.kind = 5
    · rw [if_pos e1]
      by_cases e2 : 0 < m.snap.index
      · rw [if_pos e2]
        cases e3 : fineB m.snap with
        | true => rw [cdec_t (p := FineM m n) ⟨c1, c21, c22, c3, c4, c5, c6, c71, c72, c73, c8.1, c8.2, d1, d2, fun _ => ⟨e2, e3⟩, fun h => (h e1).elim⟩]
        | false => rw [cdec_f (p := FineM m n) fun h => by have h2 := (h.snap e1).2; rw [e3] at h2; cases h2]
      · rw [if_neg e2, cdec_f (p := FineM m n) fun h => e2 (h.snap e1).1]
    · rw [if_neg e1, dec_cdec]
      congr 1
      exact cdec_congr ⟨fun e2 => ⟨c1, c21, c22, c3, c4, c5, c6, c71, c72, c73, c8.1, c8.2, d1, d2, fun h => (e1 h).elim, fun _ => e2⟩, fun h => h.nosnap e1⟩
  simp only [Bool.not_true, cond_false, Bool.cond_decide]
  by_cases d1 : m.kind = 3
  · rw [if_neg (fun h => h d1)]
    cases d2 : m.okk with
    | false => exact yes (fun h => (h d1).elim) (fun h => by rw [d2] at h; cases h)
    | true =>
      rw [if_pos (by omega), if_pos (by omega), cdec_f (p := FineM m n) fun h => by have := h.okk d2; omega]; rfl
  · rw [if_pos d1]
    by_cases d3 : (0 : Int) < (m.entries.length : Int)
    · rw [if_pos d3, cdec_f (p := FineM m n) fun h => by have := (h.app d1).1; omega]
    rw [if_neg d3]
    by_cases d4 : 0 < m.commit
    · rw [if_pos d4, cdec_f (p := FineM m n) fun h => by have := (h.app d1).2; omega]
    rw [if_neg d4]
    have d5 : m.kind ≠ 3 → m.entries.length = 0 ∧ m.commit = 0 := fun _ => ⟨by omega, by omega⟩
    cases d2 : m.okk with
    | false => exact yes d5 (fun h => by rw [d2] at h; cases h)
    | true =>
      show (if m.kind ≠ 2 then _ else _) = _
      by_cases d6 : m.kind = 2
      · rw [if_neg (fun h => h d6)]; exact yes d5 (fun _ => .inl d6)
      · rw [if_pos d6]
        by_cases d7 : m.kind = 4
        · rw [if_neg (fun h => h d7)]; exact yes d5 (fun _ => .inr d7)
        · rw [if_pos d7, cdec_f (p := FineM m n) fun h => by have := h.okk d2; omega]
/-- A message that comes to a core. -/
def ToC (x : Co) (m : Ms) : Prop := m.dst = x.id ∧ RightC x ∧ FineM m x.n
theorem p_To (x : Co) (m : Ms) (hx : BdC x) (hm : BdM m) : m_advert_To x m = some (cdec (ToC x m)) := by
  simp only [m_advert_To, p_mRight x hx, p_mFine m x.n hm, Option.bind_some, Bool.cond_decide]
  by_cases c1 : m.dst = x.id
  case neg => rw [if_pos c1, cdec_f fun h => c1 h.1]
  rw [if_neg (fun h => h c1)]
  unfold rightC fineM
  by_cases c2 : RightC x
  case neg => rw [cdec_f c2, cdec_f (p := ToC x m) fun h => c2 h.2.1]; rfl
  rw [cdec_t c2]
  show some _ = some _
  congr 1
  exact cdec_congr ⟨fun h => ⟨c1, c2, h⟩, fun h => h.2.2⟩
open Classical in
/-- A core that heard a message. -/
noncomputable def hearC (x : Co) (m : Ms) : Co := if ToC x m then { x with caps := x.caps.set (m.frm - 1).toNat m.cap } else x
theorem idx_in {α : Type} (l : List α) (i : Int) (h : 1 ≤ i ∧ i ≤ (l.length : Int)) (hl : l.length ≤ 1000000) : ∃ e, idx l (i - 1) = some e ∧ l[(i - 1).toNat]? = some e ∧ IntKind.wrap .i64 (i - 1) = i - 1 := by
  have hw : i - 1 = (((i - 1).toNat : Nat) : Int) := by omega
  obtain ⟨e, he, _⟩ := drop_step (show (i - 1).toNat < l.length by omega)
  exact ⟨e, by rw [hw, idx_nat]; exact he, he, w64i (by omega)⟩
theorem p_Hear (x : Co) (m : Ms) (hx : BdC x) (hm : BdM m) : m_advert_Hear x m = some (hearC x m) := by
  simp only [m_advert_Hear, p_To x m hx hm, p_mOwn x hx, p_mRight x hx, Option.bind_some]
  unfold hearC
  by_cases c1 : ToC x m
  · rw [cdec_t c1, if_pos c1]
    unfold rightC
    rw [cdec_t c1.2.1]
    obtain ⟨e, he, _, hw⟩ := idx_in x.caps m.frm (by have := c1.2.2.frm; have := c1.2.1.lc; omega) hx.lc
    simp only [cond_true, he, Option.bind_some, hw]
    rfl
  · rw [cdec_f c1, if_neg c1]; rfl
theorem hear_right (x : Co) (m : Ms) (h : RightC x) : RightC (hearC x m) := by
  unfold hearC
  split
  · rename_i c
    have hf := c.2.2
    refine ⟨h.n, h.id, h.role, h.bin, h.tup, h.st, h.lv, h.ln, h.lm, ?_, h.next, h.mtch, InB.set h.caps (by have := hf.cap; omega), ?_, h.lead⟩
    · dsimp only; rw [List.length_set]; exact h.lc
    · dsimp only
      rw [List.getElem?_set_ne]
      · exact h.own
      · have h1 := hf.ne; have h2 := c.1; have h3 := hf.frm; have h4 := h.id; omega
  · exact h
open Classical in
noncomputable def forgetC (x : Co) : Co := if RightC x then { x with caps := (List.replicate x.caps.length 0).set (x.id - 1).toNat x.binary } else x
theorem p_Forget (x : Co) (hx : BdC x) : m_advert_Forget x = some (forgetC x) := by
  simp only [m_advert_Forget, p_mOwn x hx, p_mRight x hx, Option.bind_some]
  unfold forgetC rightC
  by_cases c1 : RightC x
  · rw [cdec_t c1, if_pos c1]
    obtain ⟨e, he, _, hw⟩ := idx_in (List.replicate x.caps.length (0 : Int)) x.id (by have := c1.id; have := c1.lc; rw [List.length_replicate]; omega) (by rw [List.length_replicate]; exact hx.lc)
    simp only [cond_true, he, Option.bind_some, hw]
    rfl
  · rw [cdec_f c1, if_neg c1]; rfl
theorem forget_right (x : Co) (h : RightC x) : RightC (forgetC x) := by
  unfold forgetC
  rw [if_pos h]
  have hl := h.lc
  have hi := h.id
  have hb := h.bin
  refine ⟨h.n, h.id, h.role, h.bin, h.tup, h.st, h.lv, h.ln, h.lm, ?_, h.next, h.mtch, InB.set (InB.repl (by omega)) (by omega), ?_, h.lead⟩
  · dsimp only; rw [List.length_set, List.length_replicate]; exact h.lc
  · dsimp only
    rw [List.getElem?_set_self (by rw [List.length_replicate]; omega)]
open Classical in
noncomputable def binaryC (x : Co) (b : Int) : Co := if (b = 1 ∨ b = 2) ∧ RightC x then { x with binary := b, caps := x.caps.set (x.id - 1).toNat b } else x
theorem binaryC_no (x : Co) (b : Int) (h : ¬ RightC x) : binaryC x b = x := by unfold binaryC; rw [if_neg (fun h2 => h h2.2)]
theorem p_Binary (x : Co) (b : Int) (hx : BdC x) : m_advert_Binary x b = some (binaryC x b) := by
  simp only [m_advert_Binary, p_mOwn x hx, p_mRight x hx, Option.bind_some, Bool.cond_decide]
  unfold rightC
  by_cases c1 : RightC x
  · unfold binaryC
    rw [cdec_t c1]
    obtain ⟨e, he, _, hw⟩ := idx_in x.caps x.id (by have := c1.id; have := c1.lc; omega) hx.lc
    simp only [cond_true, he, Option.bind_some, hw]
    by_cases c2 : b = 1
    · rw [if_pos c2, if_pos ⟨.inl c2, c1⟩]; rfl
    · rw [if_neg c2]
      by_cases c3 : b = 2
      · rw [if_pos c3, if_pos ⟨.inr c3, c1⟩]; rfl
      · rw [if_neg c3, if_neg (by rintro ⟨h | h, _⟩; exact c2 h; exact c3 h)]
  · rw [cdec_f c1, binaryC_no x b c1]
    simp only [cond_false]
    repeat' split
    all_goals rfl
theorem binary_right (x : Co) (b : Int) (h : RightC x) : RightC (binaryC x b) := by
  unfold binaryC
  split
  · rename_i c
    have hl := h.lc
    have hi := h.id
    have hb : 1 ≤ b ∧ b ≤ 2 := by rcases c.1 with h | h <;> omega
    refine ⟨h.n, h.id, h.role, hb, h.tup, h.st, h.lv, h.ln, h.lm, ?_, h.next, h.mtch, InB.set h.caps (by omega), ?_, h.lead⟩
    · dsimp only; rw [List.length_set]; exact h.lc
    · dsimp only
      rw [List.getElem?_set_self (by omega)]
  · exact h
theorem p_wakes21 : m_law21_wakes = some true := by decide +kernel
end Go.Proofs.Ytohkkncfofomdaa
/- Layer 21's statements, in plain terms. -/
namespace Go.Proofs.Ytohkkncfofomdaa
open Go Go.RowKit
set_option maxRecDepth 100000
theorem hear_caps (x : Co) (m : Ms) : { hearC x m with caps := x.caps } = x := by unfold hearC; split <;> rfl
theorem hear_at (x : Co) (m : Ms) (k : Nat) (e : Int) (he : x.caps[k]? = some e) : ∃ a, (hearC x m).caps[k]? = some a ∧ ((ToC x m ∧ m.frm = (k : Int) + 1) → a = m.cap) ∧ (¬ (ToC x m ∧ m.frm = (k : Int) + 1) → a = e) := by
  have hk := (List.getElem?_eq_some_iff.1 he).1
  unfold hearC
  by_cases c : ToC x m
  · rw [if_pos c]
    have hf := c.2.2.frm
    dsimp only
    by_cases d : (m.frm - 1).toNat = k
    · subst d
      exact ⟨m.cap, List.getElem?_set_self hk, fun _ => rfl, fun h => (h ⟨c, by omega⟩).elim⟩
    · exact ⟨e, by rw [List.getElem?_set_ne d]; exact he, fun h => by omega, fun _ => rfl⟩
  · rw [if_neg c]
    exact ⟨e, he, fun h => (c h.1).elim, fun _ => rfl⟩
theorem forget_at (x : Co) (h : RightC x) (k : Nat) (hk : k < x.caps.length) : ∃ a, (forgetC x).caps[k]? = some a ∧ ((k : Int) ≠ x.id - 1 → a = 0) := by
  have hi := h.id
  unfold forgetC
  rw [if_pos h]
  dsimp only
  by_cases d : (x.id - 1).toNat = k
  · subst d
    exact ⟨x.binary, List.getElem?_set_self (by rw [List.length_replicate]; exact hk), fun h => by omega⟩
  · exact ⟨0, by rw [List.getElem?_set_ne d]; simp [hk], fun _ => rfl⟩
theorem binary_at (x : Co) (b : Int) (h : RightC x) (k : Nat) (e : Int) (he : x.caps[k]? = some e) : ∃ a, (binaryC x b).caps[k]? = some a ∧ ((k : Int) ≠ x.id - 1 → a = e) := by
  have hk := (List.getElem?_eq_some_iff.1 he).1
  have hi := h.id
  unfold binaryC
  split
  · dsimp only
    by_cases d : (x.id - 1).toNat = k
    · subst d
      exact ⟨b, List.getElem?_set_self hk, fun h => by omega⟩
    · exact ⟨e, by rw [List.getElem?_set_ne d]; exact he, fun _ => rfl⟩
  · exact ⟨e, he, fun _ => rfl⟩
theorem forget_caps (x : Co) : { forgetC x with caps := x.caps } = x := by unfold forgetC; split <;> rfl
theorem binary_caps (x : Co) (b : Int) : { binaryC x b with binary := x.binary, caps := x.caps } = x := by unfold binaryC; split <;> rfl
theorem forget_twice (x : Co) (h : RightC x) : forgetC (forgetC x) = forgetC x := by
  have h2 := forget_right x h
  have e : ∀ y, RightC y → forgetC y = { y with caps := (List.replicate y.caps.length 0).set (y.id - 1).toNat y.binary } := fun y hy => by unfold forgetC; rw [if_pos hy]
  rw [e _ h2, e _ h]
  simp
theorem hearC_yes (x : Co) (m : Ms) (c : ToC x m) : hearC x m = { x with caps := x.caps.set (m.frm - 1).toNat m.cap } := by unfold hearC; rw [if_pos c]
theorem hear_twice (x : Co) (m : Ms) : hearC (hearC x m) m = hearC x m := by
  by_cases c : ToC x m
  · have e : hearC x m = { x with caps := x.caps.set (m.frm - 1).toNat m.cap } := by unfold hearC; rw [if_pos c]
    have c2 : ToC (hearC x m) m := ⟨by rw [e]; exact c.1, hear_right x m c.2.1, by rw [e]; exact c.2.2⟩
    have e2 := hearC_yes (hearC x m) m c2
    rw [e2, e]
    simp
  · have e : hearC x m = x := by unfold hearC; rw [if_neg c]
    rw [e, e]
theorem right_l1 (x : Co) (m : Ms) (b : Int) (h : RightC x) (hm : BdM m) : ∀ (q k n : Nat) (v : Bool), q = x.caps.length - k → k ≤ x.caps.length → q < n →
    m_law21_AdvertRight_l1 x m (hearC x m) (forgetC x) (binaryC x b) n v k = some true := by
  have hl := h.lc
  have hn := h.n
  have hid := h.id
  have hbd := h.bd
  intro q
  induction q with
  | zero =>
    intro k n v hq hk hn'
    obtain ⟨n, rfl⟩ : ∃ n', n = n' + 1 := ⟨n - 1, by omega⟩
    rw [m_law21_AdvertRight_l1]
    have e1 := p_Same20 { hearC x m with caps := x.caps } x (by rw [hear_caps]; exact hbd)
    have e2 := p_Same20 { forgetC x with caps := x.caps } x (by rw [forget_caps]; exact hbd)
    have e3 := p_Same20 { binaryC x b with binary := x.binary, caps := x.caps } x (by rw [binary_caps]; exact hbd)
    rw [decide_eq_true (hear_caps x m)] at e1
    rw [decide_eq_true (forget_caps x)] at e2
    rw [decide_eq_true (binary_caps x b)] at e3
    simp only [Bool.cond_decide, if_neg (show ¬ ((k : Int) < x.n) by omega), e1, e2, e3, p_wakes21, Option.bind_some, cond_true]
  | succ q ih =>
    intro k n v hq hk hn'
    obtain ⟨n, rfl⟩ : ∃ n', n = n' + 1 := ⟨n - 1, by omega⟩
    obtain ⟨e, he, _⟩ := drop_step (show k < x.caps.length by omega)
    obtain ⟨a, ha, ha1, ha2⟩ := hear_at x m k e he
    obtain ⟨f, hf, hf1⟩ := forget_at x h k (by omega)
    obtain ⟨g, hg, hg1⟩ := binary_at x b h k e he
    rw [m_law21_AdvertRight_l1]
    have w1 : IntKind.wrap .i64 ((k : Int) + 1) = (k : Int) + 1 := w64i (by omega)
    have w2 : IntKind.wrap .i64 (x.id - 1) = x.id - 1 := w64i (by omega)
    have hi := ih (k + 1) n v (by omega) (by omega) (by omega)
    rw [show ((k + 1 : Nat) : Int) = (k : Int) + 1 by omega] at hi
    simp only [Bool.cond_decide, if_pos (show (k : Int) < x.n by omega), idx_nat, he, ha, hf, hg, p_To x m hbd hm, Option.bind_some, w1, w2, hi]
    have hg2 : (k : Int) ≠ x.id - 1 → ¬ (f ≠ 0) ∧ ¬ (g ≠ e) := fun hne => ⟨fun h => h (hf1 hne), fun h => h (hg1 hne)⟩
    by_cases c1 : ToC x m
    · rw [cdec_t c1]
      by_cases c2 : m.frm = (k : Int) + 1
      · have := ha1 ⟨c1, c2⟩
        subst this
        by_cases c3 : (k : Int) = x.id - 1
        · simp [c2, c3]
        · simp [c2, c3, hf1 c3, hg1 c3]
      · have := ha2 (fun h => c2 h.2)
        subst this
        by_cases c3 : (k : Int) = x.id - 1
        · have c2' : m.frm ≠ x.id := by omega
          simp [c2', c3]
        · simp [c2, c3, hf1 c3, hg1 c3]
    · rw [cdec_f c1]
      have := ha2 (fun h => c1 h.1)
      subst this
      by_cases c3 : (k : Int) = x.id - 1
      · simp [c3]
      · simp [c3, hf1 c3, hg1 c3]
theorem p_AdvertRight (x : Co) (m : Ms) (b : Int) (hk : 0 ≤ m.kind ∧ m.kind ≤ 255) : m_law21_AdvertRight x m b = some true := by
  obtain ⟨g, hg⟩ := p_Great_some x
  simp only [m_law21_AdvertRight, m_law21_great, hg, p_wakes21, Option.bind_some]
  cases g with
  | true => rfl
  | false =>
    have hbd := (p_Great_no x hg).1
    simp only [cond_false, Option.bind_some]
    by_cases c1 : (20 : Int) < (m.entries.length : Int)
    · rw [decide_eq_true c1]; rfl
    rw [decide_eq_false c1]
    have hm : BdM m := ⟨hk, by omega⟩
    simp only [cond_false, p_Right20 x hbd, Option.bind_some]
    unfold rightC
    by_cases c2 : RightC x
    case neg => rw [cdec_f c2]; rfl
    rw [cdec_t c2]
    have r1 := hear_right x m c2
    have r2 := forget_right x c2
    have r3 := binary_right x b c2
    have n1 : (hearC x m).n = x.n := by rw [← congrArg Co.n (hear_caps x m)]
    have n2 : (forgetC x).n = x.n := by rw [← congrArg Co.n (forget_caps x)]
    have n3 : (binaryC x b).n = x.n := by rw [← congrArg Co.n (binary_caps x b)]
    have l1 := r1.lc
    have l2 := r2.lc
    have l3 := r3.lc
    rw [n1] at l1
    rw [n2] at l2
    rw [n3] at l3
    have hl := right_l1 x m b c2 hm x.caps.length 0 fuelN false (by omega) (by omega) (by have := hbd.lc; unfold fuelN; omega)
    rw [show ((0 : Nat) : Int) = 0 from rfl] at hl
    simp only [Bool.not_true, cond_false, p_Own20 x hbd, p_Hear x m hbd hm, p_Forget x hbd, p_Binary x b hbd, Option.bind_some, l1, l2, l3, ne_eq, not_true, decide_false, p_Right20 _ r1.bd, p_Right20 _ r2.bd, p_Right20 _ r3.bd, rightC, cdec_t r1, cdec_t r2, cdec_t r3, p_Same20 x x hbd, decide_true, p_Hear _ m r1.bd hm, p_Forget _ r2.bd, hear_twice, forget_twice x c2, p_Same20 _ _ r1.bd, p_Same20 _ _ r2.bd, hl]
theorem p_AdvertNot (x : Co) (m : Ms) (t : Int) (hk : 0 ≤ m.kind ∧ m.kind ≤ 255) (hid : I64 x.id) : m_law21_AdvertNot x m t = some true := by
  obtain ⟨g, hg⟩ := p_Great_some x
  simp only [m_law21_AdvertNot, m_law21_great, hg, p_wakes21, Option.bind_some]
  cases g with
  | true => rfl
  | false =>
    have hbd := (p_Great_no x hg).1
    simp only [cond_false, Option.bind_some]
    by_cases c1 : (20 : Int) < (m.entries.length : Int)
    · rw [decide_eq_true c1]; rfl
    rw [decide_eq_false c1]
    have hm : BdM m := ⟨hk, by omega⟩
    have hno : ∀ m' : Ms, ¬ ToC x m' → hearC x m' = x := fun m' h => by unfold hearC; rw [if_neg h]
    have hy : ¬ ToC x ⟨m.kind, m.frm, m.dst, m.term, 3, m.last, m.lastTerm, m.commit, m.okk, m.entries, m.snap⟩ := fun h => by have := h.2.2.cap; dsimp only at this; omega
    have hto : ∀ t', t' ≠ x.id → ¬ ToC x ⟨m.kind, m.frm, t', m.term, m.cap, m.last, m.lastTerm, m.commit, m.okk, m.entries, m.snap⟩ := fun t' ht h => ht h.1
    have key : ∀ t', t' ≠ x.id → ((m_advert_Hear x ⟨m.kind, m.frm, t', m.term, m.cap, m.last, m.lastTerm, m.commit, m.okk, m.entries, m.snap⟩).bind fun r24 => (m_ref20_Same r24 x).bind fun r46 => cond r46 ((m_advert_To x ⟨m.kind, m.frm, t', m.term, m.cap, m.last, m.lastTerm, m.commit, m.okk, m.entries, m.snap⟩).bind fun r48 => cond (!r48) ((m_advert_Hear x ⟨m.kind, m.frm, m.dst, m.term, 3, m.last, m.lastTerm, m.commit, m.okk, m.entries, m.snap⟩).bind fun r50 => (m_ref20_Same r50 x).bind fun r72 => cond r72 ((m_ref20_Right x).bind fun r74 => cond r74 (some true) ((m_advert_Hear x m).bind fun r78 => (m_ref20_Same r78 x).bind fun r100 => cond r100 ((m_advert_Forget x).bind fun r102 => (m_ref20_Same r102 x).bind fun r124 => cond r124 (some true) (some false)) (some false))) (some false)) (some false)) (some false)) = some true := by
      intro t' ht
      rw [p_Hear x (⟨m.kind, m.frm, t', m.term, m.cap, m.last, m.lastTerm, m.commit, m.okk, m.entries, m.snap⟩ : Ms) hbd ⟨hk, hm.ents⟩, hno _ (hto t' ht), p_To x (⟨m.kind, m.frm, t', m.term, m.cap, m.last, m.lastTerm, m.commit, m.okk, m.entries, m.snap⟩ : Ms) hbd ⟨hk, hm.ents⟩, cdec_f (hto t' ht), p_Hear x (⟨m.kind, m.frm, m.dst, m.term, 3, m.last, m.lastTerm, m.commit, m.okk, m.entries, m.snap⟩ : Ms) hbd ⟨hk, hm.ents⟩, hno _ hy, p_Right20 x hbd, p_Hear x m hbd hm, p_Forget x hbd]
      simp only [Option.bind_some, p_Same20 x x hbd, decide_true, cond_true, Bool.not_false]
      unfold rightC
      by_cases c2 : RightC x
      · rw [cdec_t c2]; rfl
      · have hf : forgetC x = x := by unfold forgetC; rw [if_neg c2]
        rw [cdec_f c2, hno m (fun h => c2 h.2.1), hf]
        simp only [cond_false, p_Same20 x x hbd, Option.bind_some, decide_true, cond_true]
    simp only [Bool.cond_decide, cond_false]
    by_cases c3 : t = x.id
    · rw [if_pos c3]
      refine key _ fun h => ?_
      unfold I64 at hid
      by_cases c4 : x.id = 9223372036854775807
      · rw [c4] at h; revert h; decide
      · rw [w64i (by omega)] at h; omega
    · rw [if_neg c3]
      exact key _ c3
/-! ### What is asked -/
def allTwo (l : List Int) : Bool := l.all fun c => decide (c = 2)
theorem p_Known_l1 (l : List Int) (hl : l.length ≤ 1000000) : ∀ (m k n : Nat) (v : Int), m = l.length - k → k ≤ l.length → m < n → m_level_Known_l1 l n v k = some (allTwo (l.drop k)) := by
  intro m
  induction m with
  | zero =>
    intro k n v hm hk hn
    obtain ⟨n, rfl⟩ : ∃ n', n = n' + 1 := ⟨n - 1, by omega⟩
    rw [m_level_Known_l1, List.drop_eq_nil_of_le (by omega)]
    simp only [Bool.cond_decide, if_neg (show ¬ ((k : Int) < (l.length : Int)) by omega)]
    rfl
  | succ m ih =>
    intro k n v hm hk hn
    obtain ⟨n, rfl⟩ : ∃ n', n = n' + 1 := ⟨n - 1, by omega⟩
    obtain ⟨e, he, hd⟩ := drop_step (show k < l.length by omega)
    rw [m_level_Known_l1, hd]
    simp only [Bool.cond_decide, if_pos (show ((k : Int) < (l.length : Int)) by omega), idx_nat, he, Option.bind_some, m_level_Known_1]
    rw [w64i (by omega), show ((k : Int) + 1) = ((k + 1 : Nat) : Int) by omega, ih (k + 1) n v (by omega) (by omega) (by omega)]
    by_cases h : e = 2
    · rw [if_neg (fun h2 => h2 h)]; simp [allTwo, h]
    · rw [if_pos h, decide_eq_true (show (0 : Int) ≤ (k : Int) by omega)]; simp [allTwo, h]
theorem p_All21 (x : Co) (hx : BdC x) (hn : 0 < x.caps.length) : m_advert_All x = some (allTwo x.caps) := by
  have := p_Known_l1 x.caps hx.lc x.caps.length 0 fuelN 0 (by omega) (by omega) (by have := hx.lc; unfold fuelN; omega)
  rw [show ((0 : Nat) : Int) = 0 from rfl, List.drop_zero] at this
  simp only [m_advert_All, m_level_Known, Bool.cond_decide, if_neg (show ¬ ((x.caps.length : Int) = 0) by omega), this, Option.bind_some]
theorem known_two (l : List Int) (h : 0 < l.length) : knownB l = allTwo l := by
  unfold knownB allTwo not2
  cases l with
  | nil => simp at h
  | cons a l =>
    rw [Bool.eq_iff_iff]
    simp
def leastL : List Int → Int
  | [] => 0
  | a :: l => l.foldl min a
theorem least_r1 (l : List Int) : ∀ (j : Nat) (v : Int), 1 ≤ j → m_advert_Least_r1 (l.mapIdx fun i n => (((i + j : Nat) : Int) + 1, n)) v = some (l.foldl min v) := by
  induction l with
  | nil => intro j v _; rfl
  | cons a l ih =>
    intro j v hj
    rw [List.mapIdx_cons]
    have e : (l.mapIdx fun i n => (((i + 1 + j : Nat) : Int) + 1, n)) = l.mapIdx fun i n => (((i + (j + 1) : Nat) : Int) + 1, n) := by
      congr 1; funext i n; rw [show i + 1 + j = i + (j + 1) by omega]
    rw [m_advert_Least_r1, e]
    simp only [Bool.cond_decide, if_neg (show ¬ (((0 + j : Nat) : Int) + 1 = 1) by omega), List.foldl_cons]
    by_cases h : a < v
    · rw [if_pos h, ih _ _ (by omega), show min v a = a by omega]
    · rw [if_neg h, ih _ _ (by omega), show min v a = v by omega]
theorem p_Least (x : Co) (hx : BdC x) : m_advert_Least x = some (leastL x.caps) := by
  unfold m_advert_Least m_it_caps
  rw [if_pos hx.lc, Option.bind_some]
  cases x.caps with
  | nil => rfl
  | cons a l =>
    rw [List.mapIdx_cons, m_advert_Least_r1]
    have e : (l.mapIdx fun i n => (((i + 1 : Nat) : Int) + 1, n)) = l.mapIdx fun i n => (((i + 1 : Nat) : Int) + 1, n) := rfl
    have := least_r1 l 1 a (by omega)
    simp only [Bool.cond_decide, if_pos (show (((0 : Nat) : Int) + 1 = 1) by omega)]
    exact this
theorem foldl_min_le (l : List Int) : ∀ (v : Int), l.foldl min v ≤ v ∧ ∀ a ∈ l, l.foldl min v ≤ a := by
  induction l with
  | nil => intro v; exact ⟨Int.le_refl _, fun _ h => by cases h⟩
  | cons b l ih =>
    intro v
    obtain ⟨h1, h2⟩ := ih (min v b)
    rw [List.foldl_cons]
    refine ⟨by omega, fun a ha => ?_⟩
    rcases List.mem_cons.1 ha with rfl | ha
    · omega
    · exact h2 a ha
theorem foldl_min_mem (l : List Int) : ∀ (v : Int), l.foldl min v = v ∨ l.foldl min v ∈ l := by
  induction l with
  | nil => intro v; exact .inl rfl
  | cons b l ih =>
    intro v
    rw [List.foldl_cons]
    rcases ih (min v b) with h | h
    · rw [h]
      by_cases h2 : v ≤ b
      · left; omega
      · right; rw [show min v b = b by omega]; simp
    · right; simp [h]
theorem least_two (l : List Int) (h : 0 < l.length) (hb : InB l 0 2) : decide (leastL l = 2) = allTwo l := by
  cases l with
  | nil => simp at h
  | cons a l =>
    rw [Bool.eq_iff_iff]
    unfold leastL allTwo
    simp only [decide_eq_true_eq, List.all_eq_true]
    obtain ⟨h1, h2⟩ := foldl_min_le l a
    constructor
    · intro h3 c hc
      have := hb c hc
      rcases List.mem_cons.1 hc with rfl | hc
      · omega
      · have := h2 c hc; omega
    · intro h3
      rcases foldl_min_mem l a with h4 | h4
      · rw [h4]; exact h3 a (by simp)
      · exact h3 _ (by simp [h4])
theorem all_take (l : List Int) (k : Nat) (e : Int) (h : l[k]? = some e) : allTwo (l.take (k + 1)) = (allTwo (l.take k) && decide (e = 2)) := by
  unfold allTwo
  rw [List.take_add_one, h]
  simp
theorem p_Ask (x : Co) (k : Int) (hx : BdC x) : m_advert_Ask x k = some (checkS k x.applied x.caps) := by
  unfold m_advert_Ask m_level_Check
  rw [decide_eq_true hx.lc]; rfl
theorem check_same (k : Int) (s : St) (l l' : List Int) (h : k ≠ 2) : checkS k s l = checkS k s l' := by
  unfold checkS
  by_cases h1 : k = 1
  · rw [if_pos h1, if_pos h1]
  · rw [if_neg h1, if_neg h1, if_neg h, if_neg h]
theorem asks_l1 (x o : Co) (kd : Int) (h : RightC x) (ho : BdC o) : ∀ (q k n : Nat), q = x.caps.length - k → k ≤ x.caps.length → q < n →
    m_law21_AdvertAsks_l1 x o kd n (allTwo (x.caps.take k)) k = some true := by
  have hl := h.lc
  have hn := h.n
  have hid := h.id
  have hbd := h.bd
  have hf := forget_right x h
  have hfe : forgetC x = { x with caps := (List.replicate x.caps.length 0).set (x.id - 1).toNat x.binary } := by unfold forgetC; rw [if_pos h]
  intro q
  induction q with
  | zero =>
    intro k n hq hk hn'
    obtain ⟨n, rfl⟩ : ∃ n', n = n' + 1 := ⟨n - 1, by omega⟩
    have hkl : k = x.caps.length := by omega
    rw [m_law21_AdvertAsks_l1, hkl, List.take_length]
    have a1 := p_All21 x hbd (by omega)
    have a2 := p_Ask x 2 hbd
    have hfl := hf.lc
    have hfn : (forgetC x).n = x.n := by rw [hfe]
    have a3 := p_All21 (forgetC x) hf.bd (by omega)
    have a4 := p_Least x hbd
    have a5 := p_Least (forgetC x) hf.bd
    have e2 : decide (checkS 2 x.applied x.caps = 0) = allTwo x.caps := by
      unfold checkS
      rw [if_neg (by decide), if_pos rfl, known_two _ (by omega)]
      cases allTwo x.caps <;> rfl
    have e4 := least_two x.caps (by omega) h.caps
    have hcap : (forgetC x).caps = (List.replicate x.caps.length 0).set (x.id - 1).toNat x.binary := by rw [hfe]
    have e3 : allTwo (forgetC x).caps = decide (x.n = 1 ∧ x.binary = 2) := by
      rw [Bool.eq_iff_iff, decide_eq_true_eq]
      unfold allTwo
      simp only [List.all_eq_true, decide_eq_true_eq]
      constructor
      · intro h3
        obtain ⟨b0, hb0, _⟩ := forget_at x h (x.id - 1).toNat (by omega)
        have hb1 := hf.own
        rw [show (forgetC x).id = x.id by rw [hfe], show (forgetC x).binary = x.binary by rw [hfe]] at hb1
        refine ⟨?_, h3 _ (List.mem_of_getElem? hb1)⟩
        by_cases c : x.n = 1
        · exact c
        · exfalso
          have : ∃ j : Nat, j < x.caps.length ∧ (j : Int) ≠ x.id - 1 := by
            by_cases c2 : x.id = 1
            · exact ⟨1, by omega, by omega⟩
            · exact ⟨0, by omega, by omega⟩
          obtain ⟨j, hj, hj2⟩ := this
          obtain ⟨a, ha, ha2⟩ := forget_at x h j hj
          have := h3 _ (List.mem_of_getElem? ha)
          rw [ha2 hj2] at this
          omega
      · rintro ⟨c1, c2⟩ c hc
        rw [hcap] at hc
        rw [show x.caps.length = 1 by omega, show (x.id - 1).toNat = 0 by omega] at hc
        simp at hc
        omega
    have own := p_Own20 x hbd
    have few := fewI_ok o.caps (by have := ho.lc; omega)
    have ask2 : ∀ l', l'.length ≤ 1000000 → m_advert_Ask ⟨x.id, x.n, x.role, x.binary, x.tuple, x.commit, x.applied, x.votes, x.next, x.mtch, l'⟩ kd = some (checkS kd x.applied l') := fun l' hl' => p_Ask ⟨x.id, x.n, x.role, x.binary, x.tuple, x.commit, x.applied, x.votes, x.next, x.mtch, l'⟩ kd ⟨hbd.tup, hbd.lv, hbd.ln, hbd.lm, hl'⟩
    have hend : (m_ref20_Own x).bind (fun r83 => (fewI ([] ++ o.caps)).bind fun l110 => if kd = 2 then some true else (m_advert_Ask x kd).bind fun r118 => (m_advert_Ask ⟨r83.id, r83.n, r83.role, r83.binary, r83.tuple, r83.commit, r83.applied, r83.votes, r83.next, r83.mtch, l110⟩ kd).bind fun r120 => if r118 = r120 then some true else some false) = some true := by
      rw [own, List.nil_append, few]
      simp only [Option.bind_some, p_Ask x kd hbd, ask2 _ ho.lc]
      by_cases c : kd = 2
      · rw [if_pos c]
      · rw [if_neg c, if_pos (check_same kd _ _ _ c)]
    simp only [Bool.cond_decide, if_neg (show ¬ ((x.caps.length : Int) < x.n) by omega), p_Forget x hbd, a1, a2, a3, a4, a5, e2, e3, e4, Option.bind_some, ne_eq, not_true, if_false, p_wakes21, hend]
    by_cases c1 : x.n = 1
    · have hlf : leastL (forgetC x).caps ≠ 0 := by
        rw [hcap, show x.caps.length = 1 by omega, show (x.id - 1).toNat = 0 by omega]
        have := h.bin
        simp [leastL]
        omega
      simp [c1, hlf]
    · simp [c1]
  | succ q ih =>
    intro k n hq hk hn'
    obtain ⟨n, rfl⟩ : ∃ n', n = n' + 1 := ⟨n - 1, by omega⟩
    obtain ⟨e, he, _⟩ := drop_step (show k < x.caps.length by omega)
    have hi := ih (k + 1) n (by omega) (by omega) (by omega)
    rw [show ((k + 1 : Nat) : Int) = (k : Int) + 1 by omega, all_take _ _ _ he] at hi
    rw [m_law21_AdvertAsks_l1]
    have w1 : IntKind.wrap .i64 ((k : Int) + 1) = (k : Int) + 1 := w64i (by omega)
    simp only [Bool.cond_decide, if_pos (show (k : Int) < x.n by omega), idx_nat, he, Option.bind_some, w1]
    cases hv : allTwo (x.caps.take k) with
    | true => rw [hv, Bool.true_and] at hi; exact hi
    | false => rw [hv, Bool.false_and] at hi; exact hi
theorem p_AdvertAsks (x o : Co) (kd : Int) : m_law21_AdvertAsks x o kd = some true := by
  obtain ⟨g, hg⟩ := p_Great_some x
  obtain ⟨g2, hg2⟩ := p_Great_some o
  simp only [m_law21_AdvertAsks, hg, hg2, p_wakes21, Option.bind_some]
  cases g with
  | true => rfl
  | false =>
    cases g2 with
    | true => rfl
    | false =>
      have hbd := (p_Great_no x hg).1
      have hbo := (p_Great_no o hg2).1
      simp only [cond_false, p_Right20 x hbd, p_Right20 o hbo, Option.bind_some]
      unfold rightC
      by_cases c1 : RightC x
      case neg => rw [cdec_f c1]; rfl
      by_cases c2 : RightC o
      case neg => rw [cdec_t c1, cdec_f c2]; rfl
      rw [cdec_t c1, cdec_t c2]
      have h3 := asks_l1 x o kd c1 hbo x.caps.length 0 fuelN (by omega) (by omega) (by have := hbd.lc; unfold fuelN; omega)
      rw [List.take_zero, show ((0 : Nat) : Int) = 0 from rfl, show allTwo [] = true from rfl] at h3
      simp only [Bool.not_true, cond_false, h3]
end Go.Proofs.Ytohkkncfofomdaa
