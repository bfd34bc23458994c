/- What functions compute, in plain terms, and that they do; printed. -/
import Derived.Test.YtohkkncfofomdaaMh1
import Derived.Test.YtohkkncfofomdaaMh2
import Derived.Test.YtohkkncfofomdaaMh5
namespace Go.Proofs.Ytohkkncfofomdaa
open Go Go.RowKit
set_option maxRecDepth 100000
set_option maxHeartbeats 4000000
theorem c_law20_MsgNew (x0 : Tu) (x1 : Int) (x2 : Int) (x3 : Int) (A0_ : Option Addr) (c0_ : Nat) (w0 : World) (s0_ : SlI w0 enE A0_ c0_ x0.log) {r : Bool} (H : m_law20_MsgNew x0 x1 x2 x3 = some r) : Calls Try.prog 3 #[.agg #[.int .i64 x0.snap.index, .int .i64 x0.snap.term, .int .i64 x0.snap.sum, .int .i64 x0.snap.level, .bool x0.snap.final, .slice A0_ x0.log.length c0_, .int .i64 x0.term, .int .i64 x0.vote], .int .i64 x1, .int .i64 x2, .int .i64 x3] w0 fun e w' => e = .returned (.bool r) ∧ St0 All w0 w' [] := by
  unfold m_law20_MsgNew at H
  refine gw_enter4 Try.func3 rfl Try.ntmps3 rfl ?_
  have hS := St0.start All w0
  refine wpC_seq_k (fun K hK1 => ?_)
  refine wpC_region ?_
  refine wpS_box rfl rfl rfl CellsOf.agg hS (fun b2 w hS hB => ?_)
  refine wpS_quick 1 rfl ?_
  refine wpS_nil ?_
  refine QH_seq_k hK1 ?_
  refine wpC_seq_k (fun K hK4 => ?_)
  refine wpC_seq_k (fun K hK5 => ?_)
  refine wpC_region ?_
  refine wpS_put rfl rfl rfl (yv_load_boxA ag_26 rfl (RW.here _) hS hs0 trivial sg0_8) ?_
  obtain ⟨r6, hm7, H⟩ := bind_some H
  refine wpS_call rfl rfl rfl rfl (by kernel_rfl) rfl (c_ref12_Right x0 A0_ c0_ _ (SlI.of_rd s0_.k (hS.rd0 s0_.rd) (hS.blk0 s0_.blk)) hm7) ?_
  rintro e w ⟨rfl, hN⟩; refine ⟨_, rfl, ?_⟩; have hB := hN.pure; have hS := hS.join hN; clear hN
  refine wpS_put rfl rfl rfl (yv_not rfl) ?_
  refine wpS_quick 1 rfl ?_
  refine wpS_case 14 rfl (fun hb => ?_) (fun hb => ?_)
  · replace H := cond_t H hb
    refine wpS_quick 24 rfl ?_
    refine wpS_nil ?_
    refine QH_seq_k hK5 ?_
    refine wpC_cond_t rfl rfl ?_
    refine wpC_seq_k (fun K hK8 => ?_)
    refine wpC_region ?_
    obtain ⟨r9, hm10, H⟩ := bind_some H
    refine wpS_call rfl rfl rfl rfl (by kernel_rfl) rfl (c_law20_wakes _ hm10) ?_
    rintro e w ⟨rfl, hN⟩; refine ⟨_, rfl, ?_⟩; have hB := hN.pure; have hS := hS.join hN; clear hN
    refine wpS_quick 1 rfl ?_
    refine wpS_nil ?_
    refine QH_seq_k hK8 ?_
    refine wpC_ret ?_
    refine QH_then_ret ?_
    refine QH_ret rfl (RV.tmp rfl RV.nil) rfl ?_
    obtain rfl := Option.some.inj H
    replace hS := hS.cut 0
    exact ⟨rfl, hS⟩
  replace H := cond_f H hb
  refine wpS_quick 1 rfl ?_
  refine wpS_put rfl rfl rfl (yv_lss rfl rfl) ?_
  refine wpS_quick 2 rfl ?_
  refine wpS_case 18 rfl (fun hb => ?_) (fun hb => ?_)
  · replace H := cond_t H hb
    refine wpS_quick 20 rfl ?_
    refine wpS_nil ?_
    refine QH_seq_k hK5 ?_
    refine wpC_cond_t rfl rfl ?_
    refine wpC_seq_k (fun K hK11 => ?_)
    refine wpC_region ?_
    obtain ⟨r12, hm13, H⟩ := bind_some H
    refine wpS_call rfl rfl rfl rfl (by kernel_rfl) rfl (c_law20_wakes _ hm13) ?_
    rintro e w ⟨rfl, hN⟩; refine ⟨_, rfl, ?_⟩; have hB := hN.pure; have hS := hS.join hN; clear hN
    refine wpS_quick 1 rfl ?_
    refine wpS_nil ?_
    refine QH_seq_k hK11 ?_
    refine wpC_ret ?_
    refine QH_then_ret ?_
    refine QH_ret rfl (RV.tmp rfl RV.nil) rfl ?_
    obtain rfl := Option.some.inj H
    replace hS := hS.cut 0
    exact ⟨rfl, hS⟩
  replace H := cond_f H hb
  refine wpS_quick 1 rfl ?_
  refine wpS_put rfl rfl rfl (yv_gtr rfl rfl) ?_
  refine wpS_quick 2 rfl ?_
  refine wpS_case 22 rfl (fun hb => ?_) (fun hb => ?_)
  · replace H := cond_t H hb
    refine wpS_quick 16 rfl ?_
    refine wpS_nil ?_
    refine QH_seq_k hK5 ?_
    refine wpC_cond_t rfl rfl ?_
    refine wpC_seq_k (fun K hK14 => ?_)
    refine wpC_region ?_
    obtain ⟨r15, hm16, H⟩ := bind_some H
    refine wpS_call rfl rfl rfl rfl (by kernel_rfl) rfl (c_law20_wakes _ hm16) ?_
    rintro e w ⟨rfl, hN⟩; refine ⟨_, rfl, ?_⟩; have hB := hN.pure; have hS := hS.join hN; clear hN
    refine wpS_quick 1 rfl ?_
    refine wpS_nil ?_
    refine QH_seq_k hK14 ?_
    refine wpC_ret ?_
    refine QH_then_ret ?_
    refine QH_ret rfl (RV.tmp rfl RV.nil) rfl ?_
    obtain rfl := Option.some.inj H
    replace hS := hS.cut 0
    exact ⟨rfl, hS⟩
  replace H := cond_f H hb
  refine wpS_quick 1 rfl ?_
  refine wpS_put rfl rfl rfl (yv_lss rfl rfl) ?_
  refine wpS_quick 2 rfl ?_
  refine wpS_case 26 rfl (fun hb => ?_) (fun hb => ?_)
  · replace H := cond_t H hb
    refine wpS_quick 12 rfl ?_
    refine wpS_nil ?_
    refine QH_seq_k hK5 ?_
    refine wpC_cond_t rfl rfl ?_
    refine wpC_seq_k (fun K hK17 => ?_)
    refine wpC_region ?_
    obtain ⟨r18, hm19, H⟩ := bind_some H
    refine wpS_call rfl rfl rfl rfl (by kernel_rfl) rfl (c_law20_wakes _ hm19) ?_
    rintro e w ⟨rfl, hN⟩; refine ⟨_, rfl, ?_⟩; have hB := hN.pure; have hS := hS.join hN; clear hN
    refine wpS_quick 1 rfl ?_
    refine wpS_nil ?_
    refine QH_seq_k hK17 ?_
    refine wpC_ret ?_
    refine QH_then_ret ?_
    refine QH_ret rfl (RV.tmp rfl RV.nil) rfl ?_
    obtain rfl := Option.some.inj H
    replace hS := hS.cut 0
    exact ⟨rfl, hS⟩
  replace H := cond_f H hb
  refine wpS_quick 2 rfl ?_
  refine wpS_put rfl rfl rfl (yv_gtr rfl rfl) ?_
  refine wpS_quick 2 rfl ?_
  refine wpS_case 31 rfl (fun hb => ?_) (fun hb => ?_)
  · replace H := cond_t H hb
    refine wpS_quick 7 rfl ?_
    refine wpS_nil ?_
    refine QH_seq_k hK5 ?_
    refine wpC_cond_t rfl rfl ?_
    refine wpC_seq_k (fun K hK20 => ?_)
    refine wpC_region ?_
    obtain ⟨r21, hm22, H⟩ := bind_some H
    refine wpS_call rfl rfl rfl rfl (by kernel_rfl) rfl (c_law20_wakes _ hm22) ?_
    rintro e w ⟨rfl, hN⟩; refine ⟨_, rfl, ?_⟩; have hB := hN.pure; have hS := hS.join hN; clear hN
    refine wpS_quick 1 rfl ?_
    refine wpS_nil ?_
    refine QH_seq_k hK20 ?_
    refine wpC_ret ?_
    refine QH_then_ret ?_
    refine QH_ret rfl (RV.tmp rfl RV.nil) rfl ?_
    obtain rfl := Option.some.inj H
    replace hS := hS.cut 0
    exact ⟨rfl, hS⟩
  replace H := cond_f H hb
  refine wpS_quick 1 rfl ?_
  refine wpS_put rfl rfl rfl (yv_lss rfl rfl) ?_
  refine wpS_quick 2 rfl ?_
  refine wpS_case 35 rfl (fun hb => ?_) (fun hb => ?_)
  · replace H := cond_t H hb
    refine wpS_quick 3 rfl ?_
    refine wpS_nil ?_
    refine QH_seq_k hK5 ?_
    refine wpC_cond_t rfl rfl ?_
    refine wpC_seq_k (fun K hK23 => ?_)
    refine wpC_region ?_
    obtain ⟨r24, hm25, H⟩ := bind_some H
    refine wpS_call rfl rfl rfl rfl (by kernel_rfl) rfl (c_law20_wakes _ hm25) ?_
    rintro e w ⟨rfl, hN⟩; refine ⟨_, rfl, ?_⟩; have hB := hN.pure; have hS := hS.join hN; clear hN
    refine wpS_quick 1 rfl ?_
    refine wpS_nil ?_
    refine QH_seq_k hK23 ?_
    refine wpC_ret ?_
    refine QH_then_ret ?_
    refine QH_ret rfl (RV.tmp rfl RV.nil) rfl ?_
    obtain rfl := Option.some.inj H
    replace hS := hS.cut 0
    exact ⟨rfl, hS⟩
  replace H := cond_f H hb
  refine wpS_quick 1 rfl ?_
  refine wpS_put rfl rfl rfl (yv_gtr rfl rfl) ?_
  refine wpS_quick 1 rfl ?_
  refine wpS_nil ?_
  refine QH_seq_k hK5 ?_
  refine wpC_cond rfl (fun hb => ?_) (fun hb => ?_)
  · replace H := cond_t H hb
    refine wpC_seq_k (fun K hK26 => ?_)
    refine wpC_region ?_
    obtain ⟨r27, hm28, H⟩ := bind_some H
    refine wpS_call rfl rfl rfl rfl (by kernel_rfl) rfl (c_law20_wakes _ hm28) ?_
    rintro e w ⟨rfl, hN⟩; refine ⟨_, rfl, ?_⟩; have hB := hN.pure; have hS := hS.join hN; clear hN
    refine wpS_quick 1 rfl ?_
    refine wpS_nil ?_
    refine QH_seq_k hK26 ?_
    refine wpC_ret ?_
    refine QH_then_ret ?_
    refine QH_ret rfl (RV.tmp rfl RV.nil) rfl ?_
    obtain rfl := Option.some.inj H
    replace hS := hS.cut 0
    exact ⟨rfl, hS⟩
  replace H := cond_f H hb
  refine wpC_skip ?_
  refine QH_seq_k hK4 ?_
  refine wpC_seq_k (fun K hK29 => ?_)
  refine wpC_region ?_
  refine wpS_quick 3 rfl ?_
  refine wpS_put rfl rfl rfl (yv_load_boxA ag_26 rfl (RW.here _) hS hs0 trivial sg0_8) ?_
  obtain ⟨r30, hm31, H⟩ := bind_some H
  refine wpS_call rfl rfl rfl rfl (by kernel_rfl) rfl (c_msg_New x1 x2 x3 x0 A0_ c0_ _ (SlI.of_rd s0_.k (hS.rd0 s0_.rd) (hS.blk0 s0_.blk)) hm31) ?_
  rintro e w ⟨A32, c33, A36, c37, A40, c41, A44, c45, A48, c49, rfl, k34, k38, k42, k46, k50, hN⟩; refine ⟨_, rfl, ?_⟩; have hB := hN.pure; have hS := hS.join hN; clear hN
  refine wpS_alloc rfl rfl zc_32 hS (fun b52 w hS hB => ?_)
  refine wpS_store rfl rfl rfl CellsOf.agg hS ps0 st0_22 (by kernel_rfl) rfl (fun w hS hB => ?_)
  refine wpS_nil ?_
  refine QH_seq_k hK29 ?_
  refine wpC_seq_k (fun K hK54 => ?_)
  refine wpC_seq_k (fun K hK55 => ?_)
  refine wpC_region ?_
  refine wpS_put rfl rfl rfl (yv_load_boxA ag_32 rfl (RW.here _) hS hs0 trivial sg0_22) ?_
  obtain ⟨r56, hm57, H⟩ := bind_some H
  refine wpS_call rfl rfl rfl rfl (by kernel_rfl) rfl (c_ref20_Right r30 A32 c33 A36 c37 A40 c41 A44 c45 A48 c49 _ (SlI.of_rd k34 (hS.row_rd hs1) (hS.row_blk hs1)) (SlI.of_rd k38 (hS.row_rd hs2) (hS.row_blk hs2)) (SlI.of_rd k42 (hS.row_rd hs3) (hS.row_blk hs3)) (SlI.of_rd k46 (hS.row_rd hs4) (hS.row_blk hs4)) (SlI.of_rd k50 (hS.row_rd hs5) (hS.row_blk hs5)) hm57) ?_
  rintro e w ⟨rfl, hN⟩; refine ⟨_, rfl, ?_⟩; have hB := hN.pure; have hS := hS.join hN; clear hN
  refine wpS_put rfl rfl rfl (yv_not rfl) ?_
  refine wpS_quick 1 rfl ?_
  refine wpS_case 48 rfl (fun hb => ?_) (fun hb => ?_)
  · replace H := cond_t H hb
    refine wpS_quick 45 rfl ?_
    refine wpS_nil ?_
    refine QH_seq_k hK55 ?_
    refine wpC_cond_t rfl rfl ?_
    refine wpC_seq_k (fun K hK58 => ?_)
    refine wpC_region ?_
    refine wpS_quick 1 rfl ?_
    refine wpS_nil ?_
    refine QH_seq_k hK58 ?_
    refine wpC_ret ?_
    refine QH_then_ret ?_
    refine QH_ret rfl (RV.tmp rfl RV.nil) rfl ?_
    obtain rfl := Option.some.inj H
    replace hS := hS.cut 0
    exact ⟨rfl, hS⟩
  replace H := cond_f H hb
  refine wpS_put rfl rfl rfl (yv_load_boxA ag_32 rfl (RW.here _) hS hs0 trivial sg0_22) ?_
  obtain ⟨r59, hm60, H⟩ := bind_some H
  refine wpS_call rfl rfl rfl rfl (by kernel_rfl) rfl (c_msg_Right r30 A32 c33 A36 c37 A40 c41 A44 c45 A48 c49 _ (SlI.of_rd k34 (hS.row_rd hs1) (hS.row_blk hs1)) (SlI.of_rd k38 (hS.row_rd hs2) (hS.row_blk hs2)) (SlI.of_rd k42 (hS.row_rd hs3) (hS.row_blk hs3)) (SlI.of_rd k46 (hS.row_rd hs4) (hS.row_blk hs4)) (SlI.of_rd k50 (hS.row_rd hs5) (hS.row_blk hs5)) hm60) ?_
  rintro e w ⟨rfl, hN⟩; refine ⟨_, rfl, ?_⟩; have hB := hN.pure; have hS := hS.join hN; clear hN
  refine wpS_put rfl rfl rfl (yv_not rfl) ?_
  refine wpS_quick 2 rfl ?_
  refine wpS_case 53 rfl (fun hb => ?_) (fun hb => ?_)
  · replace H := cond_t H hb
    refine wpS_quick 40 rfl ?_
    refine wpS_nil ?_
    refine QH_seq_k hK55 ?_
    refine wpC_cond_t rfl rfl ?_
    refine wpC_seq_k (fun K hK61 => ?_)
    refine wpC_region ?_
    refine wpS_quick 1 rfl ?_
    refine wpS_nil ?_
    refine QH_seq_k hK61 ?_
    refine wpC_ret ?_
    refine QH_then_ret ?_
    refine QH_ret rfl (RV.tmp rfl RV.nil) rfl ?_
    obtain rfl := Option.some.inj H
    replace hS := hS.cut 0
    exact ⟨rfl, hS⟩
  replace H := cond_f H hb
  refine wpS_put rfl rfl rfl (yv_fieldAddr fo_32_2 rfl) ?_
  refine wpS_put rfl rfl rfl (yv_load_box sc_5 rfl (RW.here _) hS hs0 trivial sg2_1) ?_
  refine wpS_put rfl rfl rfl (yv_neq rfl rfl) ?_
  refine wpS_quick 2 rfl ?_
  refine wpS_case 58 rfl (fun hb => ?_) (fun hb => ?_)
  · replace H := cond_t H hb
    refine wpS_quick 35 rfl ?_
    refine wpS_nil ?_
    refine QH_seq_k hK55 ?_
    refine wpC_cond_t rfl rfl ?_
    refine wpC_seq_k (fun K hK62 => ?_)
    refine wpC_region ?_
    refine wpS_quick 1 rfl ?_
    refine wpS_nil ?_
    refine QH_seq_k hK62 ?_
    refine wpC_ret ?_
    refine QH_then_ret ?_
    refine QH_ret rfl (RV.tmp rfl RV.nil) rfl ?_
    obtain rfl := Option.some.inj H
    replace hS := hS.cut 0
    exact ⟨rfl, hS⟩
  replace H := cond_f H hb
  refine wpS_put rfl rfl rfl (yv_fieldAddr fo_32_5 rfl) ?_
  refine wpS_put rfl rfl rfl (yv_load_box sc_3 rfl (RW.here _) hS hs0 trivial sg12_1) ?_
  refine wpS_put rfl rfl rfl (yv_fieldAddr fo_26_0 rfl) ?_
  refine wpS_put rfl rfl rfl (yv_fieldAddr fo_23_0 rfl) ?_
  refine wpS_put rfl rfl rfl (yv_load_box sc_3 rfl (RW.here _) hS hs6 trivial sg0_1) ?_
  refine wpS_put rfl rfl rfl (yv_neq rfl rfl) ?_
  refine wpS_quick 2 rfl ?_
  refine wpS_case 66 rfl (fun hb => ?_) (fun hb => ?_)
  · replace H := cond_t H hb
    refine wpS_quick 27 rfl ?_
    refine wpS_nil ?_
    refine QH_seq_k hK55 ?_
    refine wpC_cond_t rfl rfl ?_
    refine wpC_seq_k (fun K hK63 => ?_)
    refine wpC_region ?_
    refine wpS_quick 1 rfl ?_
    refine wpS_nil ?_
    refine QH_seq_k hK63 ?_
    refine wpC_ret ?_
    refine QH_then_ret ?_
    refine QH_ret rfl (RV.tmp rfl RV.nil) rfl ?_
    obtain rfl := Option.some.inj H
    replace hS := hS.cut 0
    exact ⟨rfl, hS⟩
  replace H := cond_f H hb
  refine wpS_put rfl rfl rfl (yv_fieldAddr fo_32_6 rfl) ?_
  refine wpS_put rfl rfl rfl (yv_load_boxA ag_23 rfl (RW.here _) hS hs0 trivial sg13_5) ?_
  refine wpS_put rfl rfl rfl (yv_fieldAddr fo_26_0 rfl) ?_
  refine wpS_put rfl rfl rfl (yv_load_boxA ag_23 rfl (RW.here _) hS hs6 trivial sg0_5) ?_
  refine wpS_put rfl rfl rfl (yv_neqS (by kernel_rfl) rfl rfl (eqT_23 _ _ _ _ _ _ _ _ _ _)) ?_
  refine wpS_quick 2 rfl ?_
  refine wpS_case 73 rfl (fun hb => ?_) (fun hb => ?_)
  · replace H := cond_t H hb
    refine wpS_quick 20 rfl ?_
    refine wpS_nil ?_
    refine QH_seq_k hK55 ?_
    refine wpC_cond_t rfl rfl ?_
    refine wpC_seq_k (fun K hK64 => ?_)
    refine wpC_region ?_
    refine wpS_quick 1 rfl ?_
    refine wpS_nil ?_
    refine QH_seq_k hK64 ?_
    refine wpC_ret ?_
    refine QH_then_ret ?_
    refine QH_ret rfl (RV.tmp rfl RV.nil) rfl ?_
    obtain rfl := Option.some.inj H
    replace hS := hS.cut 0
    exact ⟨rfl, hS⟩
  replace H := cond_f H hb
  refine wpS_put rfl rfl rfl (yv_fieldAddr fo_32_4 rfl) ?_
  refine wpS_put rfl rfl rfl (yv_load_boxA ag_26 rfl (RW.here _) hS hs0 trivial sg4_8) ?_
  refine wpS_put rfl rfl rfl (yv_load_boxA ag_26 rfl (RW.here _) hS hs6 trivial sg0_8) ?_
  obtain ⟨r65, hm66, H⟩ := bind_some H
  refine wpS_call rfl rfl rfl rfl (by kernel_rfl) rfl (c_ref12_Same r30.tuple x0 A32 c33 A0_ c0_ _ (SlI.of_rd k34 (hS.row_rd hs1) (hS.row_blk hs1)) (SlI.of_rd s0_.k (hS.rd0 s0_.rd) (hS.blk0 s0_.blk)) hm66) ?_
  rintro e w ⟨rfl, hN⟩; refine ⟨_, rfl, ?_⟩; have hB := hN.pure; have hS := hS.join hN; clear hN
  refine wpS_put rfl rfl rfl (yv_not rfl) ?_
  refine wpS_quick 2 rfl ?_
  refine wpS_case 80 rfl (fun hb => ?_) (fun hb => ?_)
  · replace H := cond_t H hb
    refine wpS_quick 13 rfl ?_
    refine wpS_nil ?_
    refine QH_seq_k hK55 ?_
    refine wpC_cond_t rfl rfl ?_
    refine wpC_seq_k (fun K hK67 => ?_)
    refine wpC_region ?_
    refine wpS_quick 1 rfl ?_
    refine wpS_nil ?_
    refine QH_seq_k hK67 ?_
    refine wpC_ret ?_
    refine QH_then_ret ?_
    refine QH_ret rfl (RV.tmp rfl RV.nil) rfl ?_
    obtain rfl := Option.some.inj H
    replace hS := hS.cut 0
    exact ⟨rfl, hS⟩
  replace H := cond_f H hb
  refine wpS_put rfl rfl rfl (yv_fieldAddr fo_32_7 rfl) ?_
  refine wpS_put rfl rfl rfl (yv_load_box sc_29 rfl (RW.here _) hS hs0 trivial sg18_1) ?_
  refine wpS_put rfl rfl rfl (yv_len el_29 rfl) ?_
  refine wpS_quick 1 rfl ?_
  refine wpS_put rfl rfl rfl (yv_neq rfl rfl) ?_
  refine wpS_quick 2 rfl ?_
  refine wpS_case 87 rfl (fun hb => ?_) (fun hb => ?_)
  · replace H := cond_t H hb
    refine wpS_quick 6 rfl ?_
    refine wpS_nil ?_
    refine QH_seq_k hK55 ?_
    refine wpC_cond_t rfl rfl ?_
    refine wpC_seq_k (fun K hK68 => ?_)
    refine wpC_region ?_
    refine wpS_quick 1 rfl ?_
    refine wpS_nil ?_
    refine QH_seq_k hK68 ?_
    refine wpC_ret ?_
    refine QH_then_ret ?_
    refine QH_ret rfl (RV.tmp rfl RV.nil) rfl ?_
    obtain rfl := Option.some.inj H
    replace hS := hS.cut 0
    exact ⟨rfl, hS⟩
  replace H := cond_f H hb
  refine wpS_put rfl rfl rfl (yv_fieldAddr fo_32_10 rfl) ?_
  refine wpS_put rfl rfl rfl (yv_load_box sc_30 rfl (RW.here _) hS hs0 trivial sg21_1) ?_
  refine wpS_put rfl rfl rfl (yv_len el_30 rfl) ?_
  refine wpS_quick 1 rfl ?_
  refine wpS_put rfl rfl rfl (yv_neq rfl rfl) ?_
  refine wpS_quick 1 rfl ?_
  refine wpS_nil ?_
  refine QH_seq_k hK55 ?_
  refine wpC_cond rfl (fun hb => ?_) (fun hb => ?_)
  · replace H := cond_t H hb
    refine wpC_seq_k (fun K hK69 => ?_)
    refine wpC_region ?_
    refine wpS_quick 1 rfl ?_
    refine wpS_nil ?_
    refine QH_seq_k hK69 ?_
    refine wpC_ret ?_
    refine QH_then_ret ?_
    refine QH_ret rfl (RV.tmp rfl RV.nil) rfl ?_
    obtain rfl := Option.some.inj H
    replace hS := hS.cut 0
    exact ⟨rfl, hS⟩
  replace H := cond_f H hb
  refine wpC_skip ?_
  refine QH_seq_k hK54 ?_
  refine wpC_seq_k (fun K hK70 => ?_)
  refine wpC_seq_k (fun K hK71 => ?_)
  refine wpC_region ?_
  refine wpS_quick 1 rfl ?_
  refine wpS_nil ?_
  refine QH_seq_k hK71 ?_
  refine wpC_block ?_
  refine wpC_loop (X := Nat × Bool × Int) (fun x => (1, .int .i64 x1) :: (2, .int .i64 x2) :: (3, .int .i64 x3) :: (4, .pointer (some ⟨b2, 0, none⟩)) :: (8, .bool x.2.1) :: (9, .pointer (some ⟨b52, 0, none⟩)) :: (10, .int .i64 x.2.2) :: []) (fun x w => St0 All w0 w (.box b52 [.int .i64 r30.id, .int .i64 r30.n, .int .u8 r30.role, .int .i64 r30.binary, .int .i64 r30.tuple.snap.index, .int .i64 r30.tuple.snap.term, .int .i64 r30.tuple.snap.sum, .int .i64 r30.tuple.snap.level, .bool r30.tuple.snap.final, .slice A32 r30.tuple.log.length c33, .int .i64 r30.tuple.term, .int .i64 r30.tuple.vote, .int .i64 r30.commit, .int .i64 r30.applied.index, .int .i64 r30.applied.term, .int .i64 r30.applied.sum, .int .i64 r30.applied.level, .bool r30.applied.final, .slice A36 r30.votes.length c37, .slice A40 r30.next.length c41, .slice A44 r30.mtch.length c45, .slice A48 r30.caps.length c49] 32 :: .row (.slice A32 r30.tuple.log.length c33) 47 3 r30.tuple.log.length (encs enE r30.tuple.log) :: .row (.slice A36 r30.votes.length c37) 4 1 r30.votes.length (encs enO r30.votes) :: .row (.slice A40 r30.next.length c41) 3 1 r30.next.length (encs enI r30.next) :: .row (.slice A44 r30.mtch.length c45) 3 1 r30.mtch.length (encs enI r30.mtch) :: .row (.slice A48 r30.caps.length c49) 3 1 r30.caps.length (encs enI r30.caps) :: .box b2 [.int .i64 x0.snap.index, .int .i64 x0.snap.term, .int .i64 x0.snap.sum, .int .i64 x0.snap.level, .bool x0.snap.final, .slice A0_ x0.log.length c0_, .int .i64 x0.term, .int .i64 x0.vote] 26 :: []) ∧ m_law20_MsgNew_l1 x0 x1 x2 x3 r30 x.1 x.2.1 x.2.2 = some r) (fun x => x.1) (fuelN, false, 0) (by repeat (first | exact Sub.nil | refine Sub.cons rfl ?_)) ⟨hS, H⟩ ?_
  rintro ⟨n, v72, v73⟩ w ⟨hS, H⟩
  dsimp only at hS H ⊢
  obtain _ | n := n
  · have H0 : none = some r := H
    cases H0
  rw [m_law20_MsgNew_l1] at H
  refine wpC_seq_k (fun K hK74 => ?_)
  refine wpC_seq_k (fun K hK75 => ?_)
  refine wpC_region ?_
  refine wpS_quick 2 rfl ?_
  refine wpS_put rfl rfl rfl (yv_lss rfl rfl) ?_
  refine wpS_nil ?_
  refine QH_seq_k hK75 ?_
  refine wpC_cond rfl (fun hb => ?_) (fun hb => ?_)
  rotate_left
  · replace H := cond_f H hb
    refine wpC_exit ?_
    refine QH_then_exit ?_
    refine QH_then_exit ?_
    refine QH_block_hit ?_
    refine QH_seq_k hK70 ?_
    refine wpC_seq_k (fun K hK104 => ?_)
    refine wpC_region ?_
    obtain ⟨r105, hm106, H⟩ := bind_some H
    refine wpS_call rfl rfl rfl rfl (by kernel_rfl) rfl (c_law20_wakes _ hm106) ?_
    rintro e w ⟨rfl, hN⟩; refine ⟨_, rfl, ?_⟩; have hB := hN.pure; have hS := hS.join hN; clear hN
    refine wpS_quick 1 rfl ?_
    refine wpS_nil ?_
    refine QH_seq_k hK104 ?_
    refine wpC_ret ?_
    refine QH_ret rfl (RV.tmp rfl RV.nil) rfl ?_
    obtain rfl := Option.some.inj H
    replace hS := hS.cut 0
    exact ⟨rfl, hS⟩
  replace H := cond_t H hb
  refine wpC_skip ?_
  refine QH_seq_k hK74 ?_
  refine wpC_seq_k (fun K hK76 => ?_)
  refine wpC_block ?_
  refine wpC_seq_k (fun K hK77 => ?_)
  refine wpC_draw 53 [] (fun _ _ => True) ⟨by kernel_rfl, by kernel_rfl⟩ hS (fun w hS hB => ?_)
  refine wpR_batch [true, true, true, true, true, true] (by decide +kernel) (by repeat (first | exact PF.body | exact PF.round | apply PF.then | apply PF.inBlock | apply PF.jump)) ?_
  refine LtK.put rfl rfl rfl (yv_fieldAddr fo_32_7 rfl) ?_
  refine LtK.put rfl rfl rfl (yv_load_box sc_29 rfl (RW.below _) hS hs0 trivial sg18_1) ?_
  refine LtK.put rfl rfl rfl (yv_move rfl) ?_
  obtain ⟨e78, hi80, H⟩ := bind_some H
  obtain ⟨j79, hi80a, hi80b, hi80c⟩ := idx_some hi80
  refine LtK.put rfl rfl rfl (yx_idx el_29 rfl rfl hi80a hi80c (Rd.el (hS.row_rd hs2) he_enO hi80b)) ?_
  refine LtK.put rfl rfl rfl (yx_ld0 sc_4 rfl (RW.below _) (Rd.el (hS.row_rd hs2) he_enO hi80b) rfl) ?_
  refine LtK.put rfl rfl rfl (yv_move rfl) ?_
  refine LtK.nil ?_
  refine wpR_case 104 rfl (fun hb => ?_) (fun hb => ?_)
  · replace H := cond_t H hb
    refine wpR_batch [false, false, false, false, false, false, true, true, true, true, true, true, true, true, true, true, true, true, true, true] (by decide +kernel) (by repeat (first | exact PF.body | exact PF.round | apply PF.then | apply PF.inBlock | apply PF.jump)) ?_
    refine LtK.skip rfl rfl rfl ?_
    refine LtK.skip rfl rfl rfl ?_
    refine LtK.skip rfl rfl rfl ?_
    refine LtK.skip rfl rfl rfl ?_
    refine LtK.skip rfl rfl rfl ?_
    refine LtK.skip rfl rfl rfl ?_
    refine LtK.put rfl rfl rfl (yv_pick_t rfl rfl rfl) ?_
    refine LtK.put rfl rfl rfl (yv_move rfl) ?_
    refine LtK.skip rfl rfl rfl ?_
    refine LtK.skip rfl rfl rfl ?_
    refine LtK.skip rfl rfl rfl ?_
    refine LtK.skip rfl rfl rfl ?_
    refine LtK.skip rfl rfl rfl ?_
    refine LtK.skip rfl rfl rfl ?_
    refine LtK.nil ?_
    refine wpR_call [false, false, false, false, false, false, false, false, false, false, false, false, false, false, false, false, false, false, false, false, true] 20 ⟨by decide, by kernel_rfl, by kernel_rfl⟩ rfl rfl ?_
    try dsimp only [pickL]
    refine wpS_skip rfl rfl rfl ?_
    refine wpS_nil ?_
    refine QH_step (Below.refl _ _) ?_
    refine wpR_batch [false, false, false, false, false, false, false, false, false, false, false, false, false, false, false, false, false, false, false, false, false, true, true, true, true, true, true, true, true, true, true, true, true, true, true, true, true, true, true, true, true, true, true, true, true, true, true, true, true, true, true, true, true] (by decide +kernel) (by repeat (first | exact PF.body | exact PF.round | apply PF.then | apply PF.inBlock | apply PF.jump)) ?_
    refine LtK.skip rfl rfl rfl ?_
    refine LtK.skip rfl rfl rfl ?_
    refine LtK.put rfl rfl rfl (yv_pick_t rfl rfl rfl) ?_
    refine LtK.put rfl rfl rfl (yv_move rfl) ?_
    refine LtK.skip rfl rfl rfl ?_
    refine LtK.skip rfl rfl rfl ?_
    refine LtK.skip rfl rfl rfl ?_
    refine LtK.skip rfl rfl rfl ?_
    refine LtK.skip rfl rfl rfl ?_
    refine LtK.skip rfl rfl rfl ?_
    refine LtK.skip rfl rfl rfl ?_
    refine LtK.skip rfl rfl rfl ?_
    refine LtK.skip rfl rfl rfl ?_
    refine LtK.skip rfl rfl rfl ?_
    refine LtK.skip rfl rfl rfl ?_
    refine LtK.skip rfl rfl rfl ?_
    refine LtK.put rfl rfl rfl (yv_pick_t rfl rfl rfl) ?_
    refine LtK.put rfl rfl rfl (yv_move rfl) ?_
    refine LtK.skip rfl rfl rfl ?_
    refine LtK.skip rfl rfl rfl ?_
    refine LtK.skip rfl rfl rfl ?_
    refine LtK.skip rfl rfl rfl ?_
    refine LtK.skip rfl rfl rfl ?_
    refine LtK.skip rfl rfl rfl ?_
    refine LtK.skip rfl rfl rfl ?_
    refine LtK.skip rfl rfl rfl ?_
    refine LtK.skip rfl rfl rfl ?_
    refine LtK.skip rfl rfl rfl ?_
    refine LtK.skip rfl rfl rfl ?_
    refine LtK.skip rfl rfl rfl ?_
    refine LtK.skip rfl rfl rfl ?_
    refine LtK.put rfl rfl rfl (yv_pick_t rfl rfl rfl) ?_
    refine LtK.nil ?_
    refine wpR_end (by kernel_rfl) ?_
    refine QH_seq_k hK77 ?_
    refine wpC_cond_t rfl rfl ?_
    refine wpC_seq_k (fun K hK81 => ?_)
    refine wpC_region ?_
    refine wpS_quick 1 rfl ?_
    refine wpS_nil ?_
    refine QH_seq_k hK81 ?_
    refine wpC_ret ?_
    refine QH_block_ret ?_
    refine QH_then_ret ?_
    refine QH_then_ret ?_
    refine QH_block_ret ?_
    refine QH_then_ret ?_
    refine QH_ret rfl (RV.tmp rfl RV.nil) rfl ?_
    obtain rfl := Option.some.inj H
    replace hS := hS.cut 0
    exact ⟨rfl, hS⟩
  replace H := cond_f H hb
  refine wpR_batch [false, false, false, false, false, false, true, true, true, true, true, true, true, true] (by decide +kernel) (by repeat (first | exact PF.body | exact PF.round | apply PF.then | apply PF.inBlock | apply PF.jump)) ?_
  refine LtK.put rfl rfl rfl (yv_fieldAddr fo_32_9 rfl) ?_
  refine LtK.put rfl rfl rfl (yv_load_box sc_30 rfl (RW.below _) hS hs0 trivial sg20_1) ?_
  refine LtK.put rfl rfl rfl (yv_move rfl) ?_
  obtain ⟨e82, hi84, H⟩ := bind_some H
  obtain ⟨j83, hi84a, hi84b, hi84c⟩ := idx_some hi84
  refine LtK.put rfl rfl rfl (yx_idx el_30 rfl rfl hi84a hi84c (Rd.el (hS.row_rd hs4) he_enI hi84b)) ?_
  refine LtK.put rfl rfl rfl (yx_ld0 sc_3 rfl (RW.below _) (Rd.el (hS.row_rd hs4) he_enI hi84b) rfl) ?_
  refine LtK.put rfl rfl rfl (yv_neq rfl rfl) ?_
  refine LtK.put rfl rfl rfl (yv_pick_f rfl rfl rfl) ?_
  refine LtK.put rfl rfl rfl (yv_move rfl) ?_
  refine LtK.nil ?_
  refine wpR_case 112 rfl (fun hb => ?_) (fun hb => ?_)
  · replace H := cond_t H hb
    refine wpR_batch [false, false, false, false, false, false, false, false, false, false, false, false, false, false, true, true, true, true, true, true] (by decide +kernel) (by repeat (first | exact PF.body | exact PF.round | apply PF.then | apply PF.inBlock | apply PF.jump)) ?_
    refine LtK.skip rfl rfl rfl ?_
    refine LtK.skip rfl rfl rfl ?_
    refine LtK.skip rfl rfl rfl ?_
    refine LtK.skip rfl rfl rfl ?_
    refine LtK.skip rfl rfl rfl ?_
    refine LtK.skip rfl rfl rfl ?_
    refine LtK.nil ?_
    refine wpR_call [false, false, false, false, false, false, false, false, false, false, false, false, false, false, false, false, false, false, false, false, true] 20 ⟨by decide, by kernel_rfl, by kernel_rfl⟩ rfl rfl ?_
    try dsimp only [pickL]
    refine wpS_skip rfl rfl rfl ?_
    refine wpS_nil ?_
    refine QH_step (Below.refl _ _) ?_
    refine wpR_batch [false, false, false, false, false, false, false, false, false, false, false, false, false, false, false, false, false, false, false, false, false, true, true, true, true, true, true, true, true, true, true, true, true, true, true, true, true, true, true, true, true, true, true, true, true, true, true, true, true, true, true, true, true] (by decide +kernel) (by repeat (first | exact PF.body | exact PF.round | apply PF.then | apply PF.inBlock | apply PF.jump)) ?_
    refine LtK.skip rfl rfl rfl ?_
    refine LtK.skip rfl rfl rfl ?_
    refine LtK.put rfl rfl rfl (yv_pick_t rfl rfl rfl) ?_
    refine LtK.put rfl rfl rfl (yv_move rfl) ?_
    refine LtK.skip rfl rfl rfl ?_
    refine LtK.skip rfl rfl rfl ?_
    refine LtK.skip rfl rfl rfl ?_
    refine LtK.skip rfl rfl rfl ?_
    refine LtK.skip rfl rfl rfl ?_
    refine LtK.skip rfl rfl rfl ?_
    refine LtK.skip rfl rfl rfl ?_
    refine LtK.skip rfl rfl rfl ?_
    refine LtK.skip rfl rfl rfl ?_
    refine LtK.skip rfl rfl rfl ?_
    refine LtK.skip rfl rfl rfl ?_
    refine LtK.skip rfl rfl rfl ?_
    refine LtK.put rfl rfl rfl (yv_pick_t rfl rfl rfl) ?_
    refine LtK.put rfl rfl rfl (yv_move rfl) ?_
    refine LtK.skip rfl rfl rfl ?_
    refine LtK.skip rfl rfl rfl ?_
    refine LtK.skip rfl rfl rfl ?_
    refine LtK.skip rfl rfl rfl ?_
    refine LtK.skip rfl rfl rfl ?_
    refine LtK.skip rfl rfl rfl ?_
    refine LtK.skip rfl rfl rfl ?_
    refine LtK.skip rfl rfl rfl ?_
    refine LtK.skip rfl rfl rfl ?_
    refine LtK.skip rfl rfl rfl ?_
    refine LtK.skip rfl rfl rfl ?_
    refine LtK.skip rfl rfl rfl ?_
    refine LtK.skip rfl rfl rfl ?_
    refine LtK.put rfl rfl rfl (yv_pick_t rfl rfl rfl) ?_
    refine LtK.nil ?_
    refine wpR_end (by kernel_rfl) ?_
    refine QH_seq_k hK77 ?_
    refine wpC_cond_t rfl rfl ?_
    refine wpC_seq_k (fun K hK85 => ?_)
    refine wpC_region ?_
    refine wpS_quick 1 rfl ?_
    refine wpS_nil ?_
    refine QH_seq_k hK85 ?_
    refine wpC_ret ?_
    refine QH_block_ret ?_
    refine QH_then_ret ?_
    refine QH_then_ret ?_
    refine QH_block_ret ?_
    refine QH_then_ret ?_
    refine QH_ret rfl (RV.tmp rfl RV.nil) rfl ?_
    obtain rfl := Option.some.inj H
    replace hS := hS.cut 0
    exact ⟨rfl, hS⟩
  replace H := cond_f H hb
  refine wpR_batch [false, false, false, false, false, false, false, false, false, false, false, false, false, false, true, true, true, true, true, true] (by decide +kernel) (by repeat (first | exact PF.body | exact PF.round | apply PF.then | apply PF.inBlock | apply PF.jump)) ?_
  refine LtK.put rfl rfl rfl (yv_fieldAddr fo_32_8 rfl) ?_
  refine LtK.put rfl rfl rfl (yv_load_box sc_30 rfl (RW.below _) hS hs0 trivial sg19_1) ?_
  refine LtK.put rfl rfl rfl (yv_move rfl) ?_
  obtain ⟨e86, hi88, H⟩ := bind_some H
  obtain ⟨j87, hi88a, hi88b, hi88c⟩ := idx_some hi88
  refine LtK.put rfl rfl rfl (yx_idx el_30 rfl rfl hi88a hi88c (Rd.el (hS.row_rd hs3) he_enI hi88b)) ?_
  refine LtK.put rfl rfl rfl (yx_ld0 sc_3 rfl (RW.below _) (Rd.el (hS.row_rd hs3) he_enI hi88b) rfl) ?_
  refine LtK.put rfl rfl rfl (yv_load_boxA ag_26 rfl (RW.below _) hS hs6 trivial sg0_8) ?_
  refine LtK.nil ?_
  refine wpR_call [false, false, false, false, false, false, false, false, false, false, false, false, false, false, false, false, false, false, false, false, true] 20 ⟨by decide, by kernel_rfl, by kernel_rfl⟩ rfl rfl ?_
  try dsimp only [pickL]
  obtain ⟨r89, hm90, H⟩ := bind_some H
  refine wpS_call rfl rfl rfl rfl (by kernel_rfl) rfl (c_ref12_Last x0 A0_ c0_ _ (SlI.of_rd s0_.k (hS.rd0 s0_.rd) (hS.blk0 s0_.blk)) hm90) ?_
  rintro e w ⟨rfl, hN⟩; refine ⟨_, rfl, ?_⟩; have hB := hN.pure; have hS := hS.join hN; clear hN
  refine wpS_nil ?_
  refine QH_step hB ?_
  refine wpR_batch [false, false, false, false, false, false, false, false, false, false, false, false, false, false, false, false, false, false, false, false, false, true, true, true, true] (by decide +kernel) (by repeat (first | exact PF.body | exact PF.round | apply PF.then | apply PF.inBlock | apply PF.jump)) ?_
  refine LtK.put rfl rfl rfl (yx_add rfl rfl) ?_
  refine LtK.put rfl rfl rfl (yv_neq rfl rfl) ?_
  refine LtK.put rfl rfl rfl (yv_pick_f rfl rfl rfl) ?_
  refine LtK.put rfl rfl rfl (yv_move rfl) ?_
  refine LtK.nil ?_
  refine wpR_case 123 rfl (fun hb => ?_) (fun hb => ?_)
  · replace H := cond_t H hb
    refine wpR_batch [false, false, false, false, false, false, false, false, false, false, false, false, false, false, false, false, false, false, false, false, false, false, false, false, false, true, true, true, true, true, true, true, true, true, true, true, true, true, true, true, true, true, true, true, true, true, true, true, true, true, true, true, true] (by decide +kernel) (by repeat (first | exact PF.body | exact PF.round | apply PF.then | apply PF.inBlock | apply PF.jump)) ?_
    refine LtK.skip rfl rfl rfl ?_
    refine LtK.skip rfl rfl rfl ?_
    refine LtK.skip rfl rfl rfl ?_
    refine LtK.skip rfl rfl rfl ?_
    refine LtK.skip rfl rfl rfl ?_
    refine LtK.skip rfl rfl rfl ?_
    refine LtK.skip rfl rfl rfl ?_
    refine LtK.skip rfl rfl rfl ?_
    refine LtK.skip rfl rfl rfl ?_
    refine LtK.skip rfl rfl rfl ?_
    refine LtK.skip rfl rfl rfl ?_
    refine LtK.skip rfl rfl rfl ?_
    refine LtK.put rfl rfl rfl (yv_pick_t rfl rfl rfl) ?_
    refine LtK.put rfl rfl rfl (yv_move rfl) ?_
    refine LtK.skip rfl rfl rfl ?_
    refine LtK.skip rfl rfl rfl ?_
    refine LtK.skip rfl rfl rfl ?_
    refine LtK.skip rfl rfl rfl ?_
    refine LtK.skip rfl rfl rfl ?_
    refine LtK.skip rfl rfl rfl ?_
    refine LtK.skip rfl rfl rfl ?_
    refine LtK.skip rfl rfl rfl ?_
    refine LtK.skip rfl rfl rfl ?_
    refine LtK.skip rfl rfl rfl ?_
    refine LtK.skip rfl rfl rfl ?_
    refine LtK.skip rfl rfl rfl ?_
    refine LtK.skip rfl rfl rfl ?_
    refine LtK.put rfl rfl rfl (yv_pick_t rfl rfl rfl) ?_
    refine LtK.nil ?_
    refine wpR_end (by kernel_rfl) ?_
    refine QH_seq_k hK77 ?_
    refine wpC_cond_t rfl rfl ?_
    refine wpC_seq_k (fun K hK91 => ?_)
    refine wpC_region ?_
    refine wpS_quick 1 rfl ?_
    refine wpS_nil ?_
    refine QH_seq_k hK91 ?_
    refine wpC_ret ?_
    refine QH_block_ret ?_
    refine QH_then_ret ?_
    refine QH_then_ret ?_
    refine QH_block_ret ?_
    refine QH_then_ret ?_
    refine QH_ret rfl (RV.tmp rfl RV.nil) rfl ?_
    obtain rfl := Option.some.inj H
    replace hS := hS.cut 0
    exact ⟨rfl, hS⟩
  replace H := cond_f H hb
  refine wpR_batch [false, false, false, false, false, false, false, false, false, false, false, false, false, false, false, false, false, false, false, false, false, false, false, false, false, true, true, true, true, true] (by decide +kernel) (by repeat (first | exact PF.body | exact PF.round | apply PF.then | apply PF.inBlock | apply PF.jump)) ?_
  refine LtK.put rfl rfl rfl (yv_move rfl) ?_
  refine LtK.put rfl rfl rfl (yv_move rfl) ?_
  refine LtK.put rfl rfl rfl (yx_sub rfl rfl) ?_
  refine LtK.put rfl rfl rfl (yv_neq rfl rfl) ?_
  refine LtK.put rfl rfl rfl (yv_move rfl) ?_
  refine LtK.nil ?_
  refine wpR_case 128 rfl (fun hb => ?_) (fun hb => ?_)
  rotate_left
  · replace H := cond_f H hb
    refine wpR_batch [false, false, false, false, false, false, false, false, false, false, false, false, false, false, false, false, false, false, false, false, false, false, false, false, false, false, false, false, false, false, true, true, true, true, true, true, true, true, true, true, true, true, true, true] (by decide +kernel) (by repeat (first | exact PF.body | exact PF.round | apply PF.then | apply PF.inBlock | apply PF.jump)) ?_
    refine LtK.skip rfl rfl rfl ?_
    refine LtK.skip rfl rfl rfl ?_
    refine LtK.skip rfl rfl rfl ?_
    refine LtK.skip rfl rfl rfl ?_
    refine LtK.skip rfl rfl rfl ?_
    refine LtK.skip rfl rfl rfl ?_
    refine LtK.put rfl rfl rfl (yv_pick_f rfl rfl rfl) ?_
    refine LtK.put rfl rfl rfl (yv_pick_f rfl rfl rfl) ?_
    refine LtK.put rfl rfl rfl (yv_move rfl) ?_
    refine LtK.put rfl rfl rfl (yv_move rfl) ?_
    refine LtK.put rfl rfl rfl (yv_move rfl) ?_
    refine LtK.put rfl rfl rfl (yx_sub rfl rfl) ?_
    refine LtK.put rfl rfl rfl (yv_eql rfl rfl) ?_
    refine LtK.put rfl rfl rfl (yv_move rfl) ?_
    refine LtK.nil ?_
    refine wpR_case 142 rfl (fun hb => ?_) (fun hb => ?_)
    rotate_left
    · replace H := cond_f H hb
      refine wpR_batch [false, false, false, false, false, false, false, false, false, false, false, false, false, false, false, false, false, false, false, false, false, false, false, false, false, false, false, false, false, false, false, false, false, false, false, false, false, false, false, false, false, false, false, false, true, true, true, true, true, true, true, true, true] (by decide +kernel) (by repeat (first | exact PF.body | exact PF.round | apply PF.then | apply PF.inBlock | apply PF.jump)) ?_
      refine LtK.skip rfl rfl rfl ?_
      refine LtK.skip rfl rfl rfl ?_
      refine LtK.skip rfl rfl rfl ?_
      refine LtK.skip rfl rfl rfl ?_
      refine LtK.skip rfl rfl rfl ?_
      refine LtK.skip rfl rfl rfl ?_
      refine LtK.skip rfl rfl rfl ?_
      refine LtK.put rfl rfl rfl (yv_pick_f rfl rfl rfl) ?_
      refine LtK.put rfl rfl rfl (yv_pick_f rfl rfl rfl) ?_
      refine LtK.nil ?_
      refine wpR_end (by kernel_rfl) ?_
      refine QH_seq_k hK77 ?_
      refine wpC_cond_f rfl rfl ?_
      refine wpC_skip ?_
      refine QH_block_normal ?_
      refine QH_seq_k hK76 ?_
      refine wpC_region ?_
      refine wpS_quick 1 rfl ?_
      refine wpS_put rfl rfl rfl (yx_add rfl rfl) ?_
      refine wpS_quick 1 rfl ?_
      refine wpS_nil ?_
      exact QH_again (n, v72, (IntKind.wrap .i64 (v73 + 1))) (by repeat (first | exact Sub.nil | refine Sub.cons rfl ?_)) ⟨hS, H⟩ (Nat.lt_succ_self _)
    replace H := cond_t H hb
    refine wpR_batch [false, false, false, false, false, false, false, false, false, false, false, false, false, false, false, false, false, false, false, false, false, false, false, false, false, false, false, false, false, false, false, false, false, false, false, false, false, false, false, false, false, false, false, false, true, true, true, true, true, true, true, true, true] (by decide +kernel) (by repeat (first | exact PF.body | exact PF.round | apply PF.then | apply PF.inBlock | apply PF.jump)) ?_
    refine LtK.put rfl rfl rfl (yv_fieldAddr fo_32_10 rfl) ?_
    refine LtK.put rfl rfl rfl (yv_load_box sc_30 rfl (RW.below _) hS hs0 trivial sg21_1) ?_
    refine LtK.put rfl rfl rfl (yv_move rfl) ?_
    obtain ⟨e100, hi102, H⟩ := bind_some H
    obtain ⟨j101, hi102a, hi102b, hi102c⟩ := idx_some hi102
    refine LtK.put rfl rfl rfl (yx_idx el_30 rfl rfl hi102a hi102c (Rd.el (hS.row_rd hs5) he_enI hi102b)) ?_
    refine LtK.put rfl rfl rfl (yx_ld0 sc_3 rfl (RW.below _) (Rd.el (hS.row_rd hs5) he_enI hi102b) rfl) ?_
    refine LtK.put rfl rfl rfl (yv_move rfl) ?_
    refine LtK.put rfl rfl rfl (yv_neq rfl rfl) ?_
    refine LtK.put rfl rfl rfl (yv_pick_t rfl rfl rfl) ?_
    refine LtK.put rfl rfl rfl (yv_pick_f rfl rfl rfl) ?_
    refine LtK.nil ?_
    refine wpR_end (by kernel_rfl) ?_
    refine QH_seq_k hK77 ?_
    refine wpC_cond rfl (fun hb => ?_) (fun hb => ?_)
    rotate_left
    · replace H := cond_f H hb
      refine wpC_skip ?_
      refine QH_block_normal ?_
      refine QH_seq_k hK76 ?_
      refine wpC_region ?_
      refine wpS_quick 1 rfl ?_
      refine wpS_put rfl rfl rfl (yx_add rfl rfl) ?_
      refine wpS_quick 1 rfl ?_
      refine wpS_nil ?_
      exact QH_again (n, v72, (IntKind.wrap .i64 (v73 + 1))) (by repeat (first | exact Sub.nil | refine Sub.cons rfl ?_)) ⟨hS, H⟩ (Nat.lt_succ_self _)
    replace H := cond_t H hb
    refine wpC_seq_k (fun K hK103 => ?_)
    refine wpC_region ?_
    refine wpS_quick 1 rfl ?_
    refine wpS_nil ?_
    refine QH_seq_k hK103 ?_
    refine wpC_ret ?_
    refine QH_block_ret ?_
    refine QH_then_ret ?_
    refine QH_then_ret ?_
    refine QH_block_ret ?_
    refine QH_then_ret ?_
    refine QH_ret rfl (RV.tmp rfl RV.nil) rfl ?_
    obtain rfl := Option.some.inj H
    replace hS := hS.cut 0
    exact ⟨rfl, hS⟩
  replace H := cond_t H hb
  refine wpR_batch [false, false, false, false, false, false, false, false, false, false, false, false, false, false, false, false, false, false, false, false, false, false, false, false, false, false, false, false, false, false, true, true, true, true, true, true, true, true, true] (by decide +kernel) (by repeat (first | exact PF.body | exact PF.round | apply PF.then | apply PF.inBlock | apply PF.jump)) ?_
  refine LtK.put rfl rfl rfl (yv_fieldAddr fo_32_10 rfl) ?_
  refine LtK.put rfl rfl rfl (yv_load_box sc_30 rfl (RW.below _) hS hs0 trivial sg21_1) ?_
  refine LtK.put rfl rfl rfl (yv_move rfl) ?_
  obtain ⟨e92, hi94, H⟩ := bind_some H
  obtain ⟨j93, hi94a, hi94b, hi94c⟩ := idx_some hi94
  refine LtK.put rfl rfl rfl (yx_idx el_30 rfl rfl hi94a hi94c (Rd.el (hS.row_rd hs5) he_enI hi94b)) ?_
  refine LtK.put rfl rfl rfl (yx_ld0 sc_3 rfl (RW.below _) (Rd.el (hS.row_rd hs5) he_enI hi94b) rfl) ?_
  refine LtK.put rfl rfl rfl (yv_neq rfl rfl) ?_
  refine LtK.put rfl rfl rfl (yv_pick_t rfl rfl rfl) ?_
  refine LtK.put rfl rfl rfl (yv_pick_f rfl rfl rfl) ?_
  refine LtK.put rfl rfl rfl (yv_move rfl) ?_
  refine LtK.nil ?_
  refine wpR_case 137 rfl (fun hb => ?_) (fun hb => ?_)
  · replace H := cond_t H hb
    refine wpR_batch [false, false, false, false, false, false, false, false, false, false, false, false, false, false, false, false, false, false, false, false, false, false, false, false, false, false, false, false, false, false, false, false, false, false, false, false, false, false, false, true, true, true, true, true, true, true, true, true, true, true, true, true, true] (by decide +kernel) (by repeat (first | exact PF.body | exact PF.round | apply PF.then | apply PF.inBlock | apply PF.jump)) ?_
    refine LtK.skip rfl rfl rfl ?_
    refine LtK.skip rfl rfl rfl ?_
    refine LtK.skip rfl rfl rfl ?_
    refine LtK.skip rfl rfl rfl ?_
    refine LtK.skip rfl rfl rfl ?_
    refine LtK.skip rfl rfl rfl ?_
    refine LtK.skip rfl rfl rfl ?_
    refine LtK.skip rfl rfl rfl ?_
    refine LtK.skip rfl rfl rfl ?_
    refine LtK.skip rfl rfl rfl ?_
    refine LtK.skip rfl rfl rfl ?_
    refine LtK.skip rfl rfl rfl ?_
    refine LtK.skip rfl rfl rfl ?_
    refine LtK.put rfl rfl rfl (yv_pick_t rfl rfl rfl) ?_
    refine LtK.nil ?_
    refine wpR_end (by kernel_rfl) ?_
    refine QH_seq_k hK77 ?_
    refine wpC_cond_t rfl rfl ?_
    refine wpC_seq_k (fun K hK95 => ?_)
    refine wpC_region ?_
    refine wpS_quick 1 rfl ?_
    refine wpS_nil ?_
    refine QH_seq_k hK95 ?_
    refine wpC_ret ?_
    refine QH_block_ret ?_
    refine QH_then_ret ?_
    refine QH_then_ret ?_
    refine QH_block_ret ?_
    refine QH_then_ret ?_
    refine QH_ret rfl (RV.tmp rfl RV.nil) rfl ?_
    obtain rfl := Option.some.inj H
    replace hS := hS.cut 0
    exact ⟨rfl, hS⟩
  replace H := cond_f H hb
  refine wpR_batch [false, false, false, false, false, false, false, false, false, false, false, false, false, false, false, false, false, false, false, false, false, false, false, false, false, false, false, false, false, false, false, false, false, false, false, false, false, false, false, true, true, true, true, true] (by decide +kernel) (by repeat (first | exact PF.body | exact PF.round | apply PF.then | apply PF.inBlock | apply PF.jump)) ?_
  refine LtK.put rfl rfl rfl (yv_move rfl) ?_
  refine LtK.put rfl rfl rfl (yv_move rfl) ?_
  refine LtK.put rfl rfl rfl (yx_sub rfl rfl) ?_
  refine LtK.put rfl rfl rfl (yv_eql rfl rfl) ?_
  refine LtK.put rfl rfl rfl (yv_move rfl) ?_
  refine LtK.nil ?_
  refine wpR_case 142 rfl (fun hb => ?_) (fun hb => ?_)
  rotate_left
  · replace H := cond_f H hb
    refine wpR_batch [false, false, false, false, false, false, false, false, false, false, false, false, false, false, false, false, false, false, false, false, false, false, false, false, false, false, false, false, false, false, false, false, false, false, false, false, false, false, false, false, false, false, false, false, true, true, true, true, true, true, true, true, true] (by decide +kernel) (by repeat (first | exact PF.body | exact PF.round | apply PF.then | apply PF.inBlock | apply PF.jump)) ?_
    refine LtK.skip rfl rfl rfl ?_
    refine LtK.skip rfl rfl rfl ?_
    refine LtK.skip rfl rfl rfl ?_
    refine LtK.skip rfl rfl rfl ?_
    refine LtK.skip rfl rfl rfl ?_
    refine LtK.skip rfl rfl rfl ?_
    refine LtK.skip rfl rfl rfl ?_
    refine LtK.put rfl rfl rfl (yv_pick_f rfl rfl rfl) ?_
    refine LtK.put rfl rfl rfl (yv_pick_f rfl rfl rfl) ?_
    refine LtK.nil ?_
    refine wpR_end (by kernel_rfl) ?_
    refine QH_seq_k hK77 ?_
    refine wpC_cond_f rfl rfl ?_
    refine wpC_skip ?_
    refine QH_block_normal ?_
    refine QH_seq_k hK76 ?_
    refine wpC_region ?_
    refine wpS_quick 1 rfl ?_
    refine wpS_put rfl rfl rfl (yx_add rfl rfl) ?_
    refine wpS_quick 1 rfl ?_
    refine wpS_nil ?_
    exact QH_again (n, v72, (IntKind.wrap .i64 (v73 + 1))) (by repeat (first | exact Sub.nil | refine Sub.cons rfl ?_)) ⟨hS, H⟩ (Nat.lt_succ_self _)
  replace H := cond_t H hb
  refine wpR_batch [false, false, false, false, false, false, false, false, false, false, false, false, false, false, false, false, false, false, false, false, false, false, false, false, false, false, false, false, false, false, false, false, false, false, false, false, false, false, false, false, false, false, false, false, true, true, true, true, true, true, true, true, true] (by decide +kernel) (by repeat (first | exact PF.body | exact PF.round | apply PF.then | apply PF.inBlock | apply PF.jump)) ?_
  refine LtK.put rfl rfl rfl (yv_fieldAddr fo_32_10 rfl) ?_
  refine LtK.put rfl rfl rfl (yv_load_box sc_30 rfl (RW.below _) hS hs0 trivial sg21_1) ?_
  refine LtK.put rfl rfl rfl (yv_move rfl) ?_
  obtain ⟨e96, hi98, H⟩ := bind_some H
  obtain ⟨j97, hi98a, hi98b, hi98c⟩ := idx_some hi98
  refine LtK.put rfl rfl rfl (yx_idx el_30 rfl rfl hi98a hi98c (Rd.el (hS.row_rd hs5) he_enI hi98b)) ?_
  refine LtK.put rfl rfl rfl (yx_ld0 sc_3 rfl (RW.below _) (Rd.el (hS.row_rd hs5) he_enI hi98b) rfl) ?_
  refine LtK.put rfl rfl rfl (yv_move rfl) ?_
  refine LtK.put rfl rfl rfl (yv_neq rfl rfl) ?_
  refine LtK.put rfl rfl rfl (yv_pick_t rfl rfl rfl) ?_
  refine LtK.put rfl rfl rfl (yv_pick_f rfl rfl rfl) ?_
  refine LtK.nil ?_
  refine wpR_end (by kernel_rfl) ?_
  refine QH_seq_k hK77 ?_
  refine wpC_cond rfl (fun hb => ?_) (fun hb => ?_)
  rotate_left
  · replace H := cond_f H hb
    refine wpC_skip ?_
    refine QH_block_normal ?_
    refine QH_seq_k hK76 ?_
    refine wpC_region ?_
    refine wpS_quick 1 rfl ?_
    refine wpS_put rfl rfl rfl (yx_add rfl rfl) ?_
    refine wpS_quick 1 rfl ?_
    refine wpS_nil ?_
    exact QH_again (n, v72, (IntKind.wrap .i64 (v73 + 1))) (by repeat (first | exact Sub.nil | refine Sub.cons rfl ?_)) ⟨hS, H⟩ (Nat.lt_succ_self _)
  replace H := cond_t H hb
  refine wpC_seq_k (fun K hK99 => ?_)
  refine wpC_region ?_
  refine wpS_quick 1 rfl ?_
  refine wpS_nil ?_
  refine QH_seq_k hK99 ?_
  refine wpC_ret ?_
  refine QH_block_ret ?_
  refine QH_then_ret ?_
  refine QH_then_ret ?_
  refine QH_block_ret ?_
  refine QH_then_ret ?_
  refine QH_ret rfl (RV.tmp rfl RV.nil) rfl ?_
  obtain rfl := Option.some.inj H
  replace hS := hS.cut 0
  exact ⟨rfl, hS⟩
end Go.Proofs.Ytohkkncfofomdaa
