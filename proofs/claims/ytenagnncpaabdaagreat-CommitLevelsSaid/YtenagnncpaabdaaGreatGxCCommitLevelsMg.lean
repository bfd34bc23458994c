/- What functions compute, in plain terms, and that they do; printed. -/
import Derived.Test.YtenagnncpaabdaaGreatMg1
import Derived.Test.YtenagnncpaabdaaGreatMg2
import Derived.Test.YtenagnncpaabdaaGreatMg5
namespace Go.Proofs.YtenagnncpaabdaaGreat
open Go Go.RowKit
set_option maxRecDepth 100000
set_option maxHeartbeats 4000000
theorem c_law24_CommitLevels (x0 : Co) (x1 : Int) (A0_ : Option Addr) (c0_ : Nat) (A1_ : Option Addr) (c1_ : Nat) (A2_ : Option Addr) (c2_ : Nat) (A3_ : Option Addr) (c3_ : Nat) (A4_ : Option Addr) (c4_ : Nat) (w0 : World) (s0_ : SlI w0 enE A0_ c0_ x0.tuple.log) (s1_ : SlI w0 enO A1_ c1_ x0.votes) (s2_ : SlI w0 enI A2_ c2_ x0.next) (s3_ : SlI w0 enI A3_ c3_ x0.mtch) (s4_ : SlI w0 enI A4_ c4_ x0.caps) {r : Bool} (H : m_law24_CommitLevels x0 x1 = some r) : Calls Tryz.prog 5 #[.agg #[.int .i64 x0.id, .int .i64 x0.n, .int .u8 x0.role, .int .i64 x0.binary, .int .i64 x0.tuple.snap.index, .int .i64 x0.tuple.snap.term, .int .i64 x0.tuple.snap.sum, .int .i64 x0.tuple.snap.level, .bool x0.tuple.snap.final, .slice A0_ x0.tuple.log.length c0_, .int .i64 x0.tuple.term, .int .i64 x0.tuple.vote, .int .i64 x0.commit, .int .i64 x0.applied.index, .int .i64 x0.applied.term, .int .i64 x0.applied.sum, .int .i64 x0.applied.level, .bool x0.applied.final, .slice A1_ x0.votes.length c1_, .slice A2_ x0.next.length c2_, .slice A3_ x0.mtch.length c3_, .slice A4_ x0.caps.length c4_], .int .i64 x1] w0 fun e w' => e = .returned (.bool r) ∧ St0 All w0 w' [] := by
  unfold m_law24_CommitLevels at H
  refine gw_enter2 Tryz.func5 rfl Tryz.ntmps5 rfl ?_
  have hS := St0.start All w0
  refine wpC_seq_k (fun K hK1 => ?_)
  refine wpC_region ?_
  refine wpS_box rfl rfl rfl CellsOf.agg hS (fun b2 w hS hB => ?_)
  refine wpS_quick 1 rfl ?_
  refine wpS_nil ?_
  refine QH_seq_k hK1 ?_
  refine wpC_seq_k (fun K hK4 => ?_)
  refine wpC_seq_k (fun K hK5 => ?_)
  refine wpC_region ?_
  refine wpS_put rfl rfl rfl (yv_load_boxA ag_30 rfl (RW.here _) hS hs0 trivial sg0_22) ?_
  obtain ⟨r6, hm7, H⟩ := bind_some H
  refine wpS_call rfl rfl rfl rfl (by kernel_rfl) rfl (c_law24_great x0 A0_ c0_ A1_ c1_ A2_ c2_ A3_ c3_ A4_ c4_ _ (SlI.of_rd s0_.k (hS.rd0 s0_.rd) (hS.blk0 s0_.blk)) (SlI.of_rd s1_.k (hS.rd0 s1_.rd) (hS.blk0 s1_.blk)) (SlI.of_rd s2_.k (hS.rd0 s2_.rd) (hS.blk0 s2_.blk)) (SlI.of_rd s3_.k (hS.rd0 s3_.rd) (hS.blk0 s3_.blk)) (SlI.of_rd s4_.k (hS.rd0 s4_.rd) (hS.blk0 s4_.blk)) hm7) ?_
  rintro e w ⟨rfl, hN⟩; refine ⟨_, rfl, ?_⟩; have hB := hN.pure; have hS := hS.join hN; clear hN
  refine wpS_quick 1 rfl ?_
  refine wpS_case 24 rfl (fun hb => ?_) (fun hb => ?_)
  · replace H := cond_t H hb
    refine wpS_quick 9 rfl ?_
    refine wpS_nil ?_
    refine QH_seq_k hK5 ?_
    refine wpC_cond_t rfl rfl ?_
    refine wpC_seq_k (fun K hK8 => ?_)
    refine wpC_region ?_
    obtain ⟨r9, hm10, H⟩ := bind_some H
    refine wpS_call rfl rfl rfl rfl (by kernel_rfl) rfl (c_law24_wakes _ hm10) ?_
    rintro e w ⟨rfl, hN⟩; refine ⟨_, rfl, ?_⟩; have hB := hN.pure; have hS := hS.join hN; clear hN
    refine wpS_quick 1 rfl ?_
    refine wpS_nil ?_
    refine QH_seq_k hK8 ?_
    refine wpC_ret ?_
    refine QH_then_ret ?_
    refine QH_ret rfl (RV.tmp rfl RV.nil) rfl ?_
    obtain rfl := Option.some.inj H
    replace hS := hS.cut 0
    exact ⟨rfl, hS⟩
  replace H := cond_f H hb
  refine wpS_put rfl rfl rfl (yv_load_boxA ag_30 rfl (RW.here _) hS hs0 trivial sg0_22) ?_
  obtain ⟨r11, hm12, H⟩ := bind_some H
  refine wpS_call rfl rfl rfl rfl (by kernel_rfl) rfl (c_ref20_Right x0 A0_ c0_ A1_ c1_ A2_ c2_ A3_ c3_ A4_ c4_ _ (SlI.of_rd s0_.k (hS.rd0 s0_.rd) (hS.blk0 s0_.blk)) (SlI.of_rd s1_.k (hS.rd0 s1_.rd) (hS.blk0 s1_.blk)) (SlI.of_rd s2_.k (hS.rd0 s2_.rd) (hS.blk0 s2_.blk)) (SlI.of_rd s3_.k (hS.rd0 s3_.rd) (hS.blk0 s3_.blk)) (SlI.of_rd s4_.k (hS.rd0 s4_.rd) (hS.blk0 s4_.blk)) hm12) ?_
  rintro e w ⟨rfl, hN⟩; refine ⟨_, rfl, ?_⟩; have hB := hN.pure; have hS := hS.join hN; clear hN
  refine wpS_put rfl rfl rfl (yv_not rfl) ?_
  refine wpS_quick 2 rfl ?_
  refine wpS_case 29 rfl (fun hb => ?_) (fun hb => ?_)
  · replace H := cond_t H hb
    refine wpS_quick 4 rfl ?_
    refine wpS_nil ?_
    refine QH_seq_k hK5 ?_
    refine wpC_cond_t rfl rfl ?_
    refine wpC_seq_k (fun K hK13 => ?_)
    refine wpC_region ?_
    obtain ⟨r14, hm15, H⟩ := bind_some H
    refine wpS_call rfl rfl rfl rfl (by kernel_rfl) rfl (c_law24_wakes _ hm15) ?_
    rintro e w ⟨rfl, hN⟩; refine ⟨_, rfl, ?_⟩; have hB := hN.pure; have hS := hS.join hN; clear hN
    refine wpS_quick 1 rfl ?_
    refine wpS_nil ?_
    refine QH_seq_k hK13 ?_
    refine wpC_ret ?_
    refine QH_then_ret ?_
    refine QH_ret rfl (RV.tmp rfl RV.nil) rfl ?_
    obtain rfl := Option.some.inj H
    replace hS := hS.cut 0
    exact ⟨rfl, hS⟩
  replace H := cond_f H hb
  refine wpS_put rfl rfl rfl (yv_fieldAddr fo_30_2 rfl) ?_
  refine wpS_put rfl rfl rfl (yv_load_box sc_5 rfl (RW.here _) hS hs0 trivial sg2_1) ?_
  refine wpS_put rfl rfl rfl (yv_neq rfl rfl) ?_
  refine wpS_quick 1 rfl ?_
  refine wpS_nil ?_
  refine QH_seq_k hK5 ?_
  refine wpC_cond rfl (fun hb => ?_) (fun hb => ?_)
  · replace H := cond_t H hb
    refine wpC_seq_k (fun K hK16 => ?_)
    refine wpC_region ?_
    obtain ⟨r17, hm18, H⟩ := bind_some H
    refine wpS_call rfl rfl rfl rfl (by kernel_rfl) rfl (c_law24_wakes _ hm18) ?_
    rintro e w ⟨rfl, hN⟩; refine ⟨_, rfl, ?_⟩; have hB := hN.pure; have hS := hS.join hN; clear hN
    refine wpS_quick 1 rfl ?_
    refine wpS_nil ?_
    refine QH_seq_k hK16 ?_
    refine wpC_ret ?_
    refine QH_then_ret ?_
    refine QH_ret rfl (RV.tmp rfl RV.nil) rfl ?_
    obtain rfl := Option.some.inj H
    replace hS := hS.cut 0
    exact ⟨rfl, hS⟩
  replace H := cond_f H hb
  refine wpC_skip ?_
  refine QH_seq_k hK4 ?_
  refine wpC_seq_k (fun K hK19 => ?_)
  refine wpC_region ?_
  refine wpS_put rfl rfl rfl (yv_load_boxA ag_30 rfl (RW.here _) hS hs0 trivial sg0_22) ?_
  obtain ⟨r20, hm21, H⟩ := bind_some H
  refine wpS_call rfl rfl rfl rfl (by kernel_rfl) rfl (c_commit_Client x0 2 0 A0_ c0_ A1_ c1_ A2_ c2_ A3_ c3_ A4_ c4_ _ (SlI.of_rd s0_.k (hS.rd0 s0_.rd) (hS.blk0 s0_.blk)) (SlI.of_rd s1_.k (hS.rd0 s1_.rd) (hS.blk0 s1_.blk)) (SlI.of_rd s2_.k (hS.rd0 s2_.rd) (hS.blk0 s2_.blk)) (SlI.of_rd s3_.k (hS.rd0 s3_.rd) (hS.blk0 s3_.blk)) (SlI.of_rd s4_.k (hS.rd0 s4_.rd) (hS.blk0 s4_.blk)) hm21) ?_
  rintro e w ⟨A22, c23, A26, c27, A30, c31, A34, c35, A38, c39, rfl, k24, k28, k32, k36, k40, hN⟩; refine ⟨_, rfl, ?_⟩; have hB := hN.pure; have hS := hS.join hN; clear hN
  refine wpS_quick 1 rfl ?_
  refine wpS_put rfl rfl rfl (yv_extract rfl rfl) ?_
  refine wpS_put rfl rfl rfl (yv_extract rfl rfl) ?_
  refine wpS_alloc rfl rfl zc_30 hS (fun b42 w hS hB => ?_)
  refine wpS_store rfl rfl rfl CellsOf.agg hS ps0 st0_22 (by kernel_rfl) rfl (fun w hS hB => ?_)
  refine wpS_quick 1 rfl ?_
  refine wpS_nil ?_
  refine QH_seq_k hK19 ?_
  refine wpC_seq_k (fun K hK44 => ?_)
  refine wpC_region ?_
  refine wpS_put rfl rfl rfl (yv_load_boxA ag_30 rfl (RW.here _) hS hs6 trivial sg0_22) ?_
  obtain ⟨r45, hm46, H⟩ := bind_some H
  refine wpS_call rfl rfl rfl rfl (by kernel_rfl) rfl (c_commit_Client x0 3 0 A0_ c0_ A1_ c1_ A2_ c2_ A3_ c3_ A4_ c4_ _ (SlI.of_rd s0_.k (hS.rd0 s0_.rd) (hS.blk0 s0_.blk)) (SlI.of_rd s1_.k (hS.rd0 s1_.rd) (hS.blk0 s1_.blk)) (SlI.of_rd s2_.k (hS.rd0 s2_.rd) (hS.blk0 s2_.blk)) (SlI.of_rd s3_.k (hS.rd0 s3_.rd) (hS.blk0 s3_.blk)) (SlI.of_rd s4_.k (hS.rd0 s4_.rd) (hS.blk0 s4_.blk)) hm46) ?_
  rintro e w ⟨A47, c48, A51, c52, A55, c56, A59, c60, A63, c64, rfl, k49, k53, k57, k61, k65, hN⟩; refine ⟨_, rfl, ?_⟩; have hB := hN.pure; have hS := hS.join hN; clear hN
  refine wpS_quick 1 rfl ?_
  refine wpS_put rfl rfl rfl (yv_extract rfl rfl) ?_
  refine wpS_put rfl rfl rfl (yv_extract rfl rfl) ?_
  refine wpS_alloc rfl rfl zc_30 hS (fun b67 w hS hB => ?_)
  refine wpS_store rfl rfl rfl CellsOf.agg hS ps0 st0_22 (by kernel_rfl) rfl (fun w hS hB => ?_)
  refine wpS_quick 1 rfl ?_
  refine wpS_nil ?_
  refine QH_seq_k hK44 ?_
  refine wpC_seq_k (fun K hK69 => ?_)
  refine wpC_region ?_
  refine wpS_put rfl rfl rfl (yv_load_boxA ag_30 rfl (RW.here _) hS hs12 trivial sg0_22) ?_
  obtain ⟨r70, hm71, H⟩ := bind_some H
  refine wpS_call rfl rfl rfl rfl (by kernel_rfl) rfl (c_commit_Client x0 4 0 A0_ c0_ A1_ c1_ A2_ c2_ A3_ c3_ A4_ c4_ _ (SlI.of_rd s0_.k (hS.rd0 s0_.rd) (hS.blk0 s0_.blk)) (SlI.of_rd s1_.k (hS.rd0 s1_.rd) (hS.blk0 s1_.blk)) (SlI.of_rd s2_.k (hS.rd0 s2_.rd) (hS.blk0 s2_.blk)) (SlI.of_rd s3_.k (hS.rd0 s3_.rd) (hS.blk0 s3_.blk)) (SlI.of_rd s4_.k (hS.rd0 s4_.rd) (hS.blk0 s4_.blk)) hm71) ?_
  rintro e w ⟨A72, c73, A76, c77, A80, c81, A84, c85, A88, c89, rfl, k74, k78, k82, k86, k90, hN⟩; refine ⟨_, rfl, ?_⟩; have hB := hN.pure; have hS := hS.join hN; clear hN
  refine wpS_quick 1 rfl ?_
  refine wpS_put rfl rfl rfl (yv_extract rfl rfl) ?_
  refine wpS_put rfl rfl rfl (yv_extract rfl rfl) ?_
  refine wpS_alloc rfl rfl zc_30 hS (fun b92 w hS hB => ?_)
  refine wpS_store rfl rfl rfl CellsOf.agg hS ps0 st0_22 (by kernel_rfl) rfl (fun w hS hB => ?_)
  refine wpS_quick 1 rfl ?_
  refine wpS_nil ?_
  refine QH_seq_k hK69 ?_
  refine wpC_seq_k (fun K hK94 => ?_)
  refine wpC_region ?_
  refine wpS_put rfl rfl rfl (yv_load_boxA ag_30 rfl (RW.here _) hS hs18 trivial sg0_22) ?_
  obtain ⟨r95, hm96, H⟩ := bind_some H
  refine wpS_call rfl rfl rfl rfl (by kernel_rfl) rfl (c_commit_Client x0 2 1 A0_ c0_ A1_ c1_ A2_ c2_ A3_ c3_ A4_ c4_ _ (SlI.of_rd s0_.k (hS.rd0 s0_.rd) (hS.blk0 s0_.blk)) (SlI.of_rd s1_.k (hS.rd0 s1_.rd) (hS.blk0 s1_.blk)) (SlI.of_rd s2_.k (hS.rd0 s2_.rd) (hS.blk0 s2_.blk)) (SlI.of_rd s3_.k (hS.rd0 s3_.rd) (hS.blk0 s3_.blk)) (SlI.of_rd s4_.k (hS.rd0 s4_.rd) (hS.blk0 s4_.blk)) hm96) ?_
  rintro e w ⟨A97, c98, A101, c102, A105, c106, A109, c110, A113, c114, rfl, k99, k103, k107, k111, k115, hN⟩; refine ⟨_, rfl, ?_⟩; have hB := hN.pure; have hS := hS.join hN; clear hN
  refine wpS_quick 1 rfl ?_
  refine wpS_put rfl rfl rfl (yv_extract rfl rfl) ?_
  refine wpS_put rfl rfl rfl (yv_extract rfl rfl) ?_
  refine wpS_alloc rfl rfl zc_30 hS (fun b117 w hS hB => ?_)
  refine wpS_store rfl rfl rfl CellsOf.agg hS ps0 st0_22 (by kernel_rfl) rfl (fun w hS hB => ?_)
  refine wpS_quick 1 rfl ?_
  refine wpS_nil ?_
  refine QH_seq_k hK94 ?_
  refine wpC_seq_k (fun K hK119 => ?_)
  refine wpC_region ?_
  refine wpS_put rfl rfl rfl (yv_load_boxA ag_30 rfl (RW.here _) hS hs24 trivial sg0_22) ?_
  obtain ⟨r120, hm121, H⟩ := bind_some H
  refine wpS_call rfl rfl rfl rfl (by kernel_rfl) rfl (c_commit_Client x0 5 0 A0_ c0_ A1_ c1_ A2_ c2_ A3_ c3_ A4_ c4_ _ (SlI.of_rd s0_.k (hS.rd0 s0_.rd) (hS.blk0 s0_.blk)) (SlI.of_rd s1_.k (hS.rd0 s1_.rd) (hS.blk0 s1_.blk)) (SlI.of_rd s2_.k (hS.rd0 s2_.rd) (hS.blk0 s2_.blk)) (SlI.of_rd s3_.k (hS.rd0 s3_.rd) (hS.blk0 s3_.blk)) (SlI.of_rd s4_.k (hS.rd0 s4_.rd) (hS.blk0 s4_.blk)) hm121) ?_
  rintro e w ⟨A122, c123, A126, c127, A130, c131, A134, c135, A138, c139, rfl, k124, k128, k132, k136, k140, hN⟩; refine ⟨_, rfl, ?_⟩; have hB := hN.pure; have hS := hS.join hN; clear hN
  refine wpS_quick 1 rfl ?_
  refine wpS_put rfl rfl rfl (yv_extract rfl rfl) ?_
  refine wpS_put rfl rfl rfl (yv_extract rfl rfl) ?_
  refine wpS_alloc rfl rfl zc_30 hS (fun b142 w hS hB => ?_)
  refine wpS_store rfl rfl rfl CellsOf.agg hS ps0 st0_22 (by kernel_rfl) rfl (fun w hS hB => ?_)
  refine wpS_quick 1 rfl ?_
  refine wpS_nil ?_
  refine QH_seq_k hK119 ?_
  refine wpC_seq_k (fun K hK144 => ?_)
  refine wpC_region ?_
  refine wpS_put rfl rfl rfl (yv_load_boxA ag_30 rfl (RW.here _) hS hs30 trivial sg0_22) ?_
  refine wpS_quick 1 rfl ?_
  obtain ⟨r145, hm146, H⟩ := bind_some H
  refine wpS_call rfl rfl rfl rfl (by kernel_rfl) rfl (c_commit_Client x0 1 x1 A0_ c0_ A1_ c1_ A2_ c2_ A3_ c3_ A4_ c4_ _ (SlI.of_rd s0_.k (hS.rd0 s0_.rd) (hS.blk0 s0_.blk)) (SlI.of_rd s1_.k (hS.rd0 s1_.rd) (hS.blk0 s1_.blk)) (SlI.of_rd s2_.k (hS.rd0 s2_.rd) (hS.blk0 s2_.blk)) (SlI.of_rd s3_.k (hS.rd0 s3_.rd) (hS.blk0 s3_.blk)) (SlI.of_rd s4_.k (hS.rd0 s4_.rd) (hS.blk0 s4_.blk)) hm146) ?_
  rintro e w ⟨A147, c148, A151, c152, A155, c156, A159, c160, A163, c164, rfl, k149, k153, k157, k161, k165, hN⟩; refine ⟨_, rfl, ?_⟩; have hB := hN.pure; have hS := hS.join hN; clear hN
  refine wpS_quick 1 rfl ?_
  refine wpS_put rfl rfl rfl (yv_extract rfl rfl) ?_
  refine wpS_put rfl rfl rfl (yv_extract rfl rfl) ?_
  refine wpS_alloc rfl rfl zc_30 hS (fun b167 w hS hB => ?_)
  refine wpS_store rfl rfl rfl CellsOf.agg hS ps0 st0_22 (by kernel_rfl) rfl (fun w hS hB => ?_)
  refine wpS_quick 1 rfl ?_
  refine wpS_nil ?_
  refine QH_seq_k hK144 ?_
  refine wpC_seq_k (fun K hK169 => ?_)
  refine wpC_seq_k (fun K hK170 => ?_)
  refine wpC_region ?_
  refine wpS_quick 1 rfl ?_
  refine wpS_put rfl rfl rfl (yv_neq rfl rfl) ?_
  refine wpS_quick 1 rfl ?_
  refine wpS_case 68 rfl (fun hb => ?_) (fun hb => ?_)
  · replace H := cond_t H hb
    refine wpS_quick 14 rfl ?_
    refine wpS_nil ?_
    refine QH_seq_k hK170 ?_
    refine wpC_cond_t rfl rfl ?_
    refine wpC_seq_k (fun K hK171 => ?_)
    refine wpC_region ?_
    refine wpS_quick 1 rfl ?_
    refine wpS_nil ?_
    refine QH_seq_k hK171 ?_
    refine wpC_ret ?_
    refine QH_then_ret ?_
    refine QH_ret rfl (RV.tmp rfl RV.nil) rfl ?_
    obtain rfl := Option.some.inj H
    replace hS := hS.cut 0
    exact ⟨rfl, hS⟩
  replace H := cond_f H hb
  refine wpS_quick 1 rfl ?_
  refine wpS_put rfl rfl rfl (yv_neq rfl rfl) ?_
  refine wpS_quick 2 rfl ?_
  refine wpS_case 72 rfl (fun hb => ?_) (fun hb => ?_)
  · replace H := cond_t H hb
    refine wpS_quick 10 rfl ?_
    refine wpS_nil ?_
    refine QH_seq_k hK170 ?_
    refine wpC_cond_t rfl rfl ?_
    refine wpC_seq_k (fun K hK172 => ?_)
    refine wpC_region ?_
    refine wpS_quick 1 rfl ?_
    refine wpS_nil ?_
    refine QH_seq_k hK172 ?_
    refine wpC_ret ?_
    refine QH_then_ret ?_
    refine QH_ret rfl (RV.tmp rfl RV.nil) rfl ?_
    obtain rfl := Option.some.inj H
    replace hS := hS.cut 0
    exact ⟨rfl, hS⟩
  replace H := cond_f H hb
  refine wpS_quick 1 rfl ?_
  refine wpS_put rfl rfl rfl (yv_eql rfl rfl) ?_
  refine wpS_quick 1 rfl ?_
  refine wpS_put rfl rfl rfl (yv_lss rfl rfl) ?_
  refine wpS_quick 1 rfl ?_
  refine wpS_case 77 rfl (fun hb => ?_) (fun hb => ?_)
  · replace H := cond_t H hb
    refine wpS_quick 3 rfl ?_
    refine wpS_put rfl rfl rfl (yv_neqB (by kernel_rfl) rfl rfl) ?_
    refine wpS_quick 1 rfl ?_
    refine wpS_nil ?_
    refine QH_seq_k hK170 ?_
    refine wpC_cond rfl (fun hb => ?_) (fun hb => ?_)
    · replace H := cond_t H hb
      refine wpC_seq_k (fun K hK173 => ?_)
      refine wpC_region ?_
      refine wpS_quick 1 rfl ?_
      refine wpS_nil ?_
      refine QH_seq_k hK173 ?_
      refine wpC_ret ?_
      refine QH_then_ret ?_
      refine QH_ret rfl (RV.tmp rfl RV.nil) rfl ?_
      obtain rfl := Option.some.inj H
      replace hS := hS.cut 0
      exact ⟨rfl, hS⟩
    replace H := cond_f H hb
    refine wpC_skip ?_
    refine QH_seq_k hK169 ?_
    refine wpC_seq_k (fun K hK174 => ?_)
    refine wpC_region ?_
    refine wpS_put rfl rfl rfl (yv_load_boxA ag_30 rfl (RW.here _) hS hs36 trivial sg0_22) ?_
    obtain ⟨r175, hm176, H⟩ := bind_some H
    refine wpS_call rfl rfl rfl rfl (by kernel_rfl) rfl (c_commit_Client x0 0 0 A0_ c0_ A1_ c1_ A2_ c2_ A3_ c3_ A4_ c4_ _ (SlI.of_rd s0_.k (hS.rd0 s0_.rd) (hS.blk0 s0_.blk)) (SlI.of_rd s1_.k (hS.rd0 s1_.rd) (hS.blk0 s1_.blk)) (SlI.of_rd s2_.k (hS.rd0 s2_.rd) (hS.blk0 s2_.blk)) (SlI.of_rd s3_.k (hS.rd0 s3_.rd) (hS.blk0 s3_.blk)) (SlI.of_rd s4_.k (hS.rd0 s4_.rd) (hS.blk0 s4_.blk)) hm176) ?_
    rintro e w ⟨A177, c178, A181, c182, A185, c186, A189, c190, A193, c194, rfl, k179, k183, k187, k191, k195, hN⟩; refine ⟨_, rfl, ?_⟩; have hB := hN.pure; have hS := hS.join hN; clear hN
    refine wpS_quick 1 rfl ?_
    refine wpS_put rfl rfl rfl (yv_extract rfl rfl) ?_
    refine wpS_put rfl rfl rfl (yv_extract rfl rfl) ?_
    refine wpS_alloc rfl rfl zc_30 hS (fun b197 w hS hB => ?_)
    refine wpS_store rfl rfl rfl CellsOf.agg hS ps0 st0_22 (by kernel_rfl) rfl (fun w hS hB => ?_)
    refine wpS_quick 1 rfl ?_
    refine wpS_nil ?_
    refine QH_seq_k hK174 ?_
    refine wpC_seq_k (fun K hK199 => ?_)
    refine wpC_region ?_
    refine wpS_quick 1 rfl ?_
    refine wpS_nil ?_
    refine QH_seq_k hK199 ?_
    refine wpC_seq_k (fun K hK200 => ?_)
    refine wpC_seq_k (fun K hK201 => ?_)
    refine wpC_region ?_
    refine wpS_quick 1 rfl ?_
    refine wpS_nil ?_
    refine QH_seq_k hK201 ?_
    refine wpC_block ?_
    refine wpC_loop (X := Nat × Bool × Int) (fun x => (2, .pointer (some ⟨b2, 0, none⟩)) :: (4, .bool false) :: (6, .int .i64 r20.2) :: (8, .int .i64 r45.2) :: (10, .int .i64 r70.2) :: (18, .int .i64 r175.2) :: (19, .bool x.2.1) :: (20, .int .i64 x.2.2) :: []) (fun x w => St0 All w0 w (.box b197 [.int .i64 r175.1.id, .int .i64 r175.1.n, .int .u8 r175.1.role, .int .i64 r175.1.binary, .int .i64 r175.1.tuple.snap.index, .int .i64 r175.1.tuple.snap.term, .int .i64 r175.1.tuple.snap.sum, .int .i64 r175.1.tuple.snap.level, .bool r175.1.tuple.snap.final, .slice A177 r175.1.tuple.log.length c178, .int .i64 r175.1.tuple.term, .int .i64 r175.1.tuple.vote, .int .i64 r175.1.commit, .int .i64 r175.1.applied.index, .int .i64 r175.1.applied.term, .int .i64 r175.1.applied.sum, .int .i64 r175.1.applied.level, .bool r175.1.applied.final, .slice A181 r175.1.votes.length c182, .slice A185 r175.1.next.length c186, .slice A189 r175.1.mtch.length c190, .slice A193 r175.1.caps.length c194] 30 :: .row (.slice A177 r175.1.tuple.log.length c178) 41 3 r175.1.tuple.log.length (encs enE r175.1.tuple.log) :: .row (.slice A181 r175.1.votes.length c182) 4 1 r175.1.votes.length (encs enO r175.1.votes) :: .row (.slice A185 r175.1.next.length c186) 3 1 r175.1.next.length (encs enI r175.1.next) :: .row (.slice A189 r175.1.mtch.length c190) 3 1 r175.1.mtch.length (encs enI r175.1.mtch) :: .row (.slice A193 r175.1.caps.length c194) 3 1 r175.1.caps.length (encs enI r175.1.caps) :: .box b167 [.int .i64 r145.1.id, .int .i64 r145.1.n, .int .u8 r145.1.role, .int .i64 r145.1.binary, .int .i64 r145.1.tuple.snap.index, .int .i64 r145.1.tuple.snap.term, .int .i64 r145.1.tuple.snap.sum, .int .i64 r145.1.tuple.snap.level, .bool r145.1.tuple.snap.final, .slice A147 r145.1.tuple.log.length c148, .int .i64 r145.1.tuple.term, .int .i64 r145.1.tuple.vote, .int .i64 r145.1.commit, .int .i64 r145.1.applied.index, .int .i64 r145.1.applied.term, .int .i64 r145.1.applied.sum, .int .i64 r145.1.applied.level, .bool r145.1.applied.final, .slice A151 r145.1.votes.length c152, .slice A155 r145.1.next.length c156, .slice A159 r145.1.mtch.length c160, .slice A163 r145.1.caps.length c164] 30 :: .row (.slice A147 r145.1.tuple.log.length c148) 41 3 r145.1.tuple.log.length (encs enE r145.1.tuple.log) :: .row (.slice A151 r145.1.votes.length c152) 4 1 r145.1.votes.length (encs enO r145.1.votes) :: .row (.slice A155 r145.1.next.length c156) 3 1 r145.1.next.length (encs enI r145.1.next) :: .row (.slice A159 r145.1.mtch.length c160) 3 1 r145.1.mtch.length (encs enI r145.1.mtch) :: .row (.slice A163 r145.1.caps.length c164) 3 1 r145.1.caps.length (encs enI r145.1.caps) :: .box b142 [.int .i64 r120.1.id, .int .i64 r120.1.n, .int .u8 r120.1.role, .int .i64 r120.1.binary, .int .i64 r120.1.tuple.snap.index, .int .i64 r120.1.tuple.snap.term, .int .i64 r120.1.tuple.snap.sum, .int .i64 r120.1.tuple.snap.level, .bool r120.1.tuple.snap.final, .slice A122 r120.1.tuple.log.length c123, .int .i64 r120.1.tuple.term, .int .i64 r120.1.tuple.vote, .int .i64 r120.1.commit, .int .i64 r120.1.applied.index, .int .i64 r120.1.applied.term, .int .i64 r120.1.applied.sum, .int .i64 r120.1.applied.level, .bool r120.1.applied.final, .slice A126 r120.1.votes.length c127, .slice A130 r120.1.next.length c131, .slice A134 r120.1.mtch.length c135, .slice A138 r120.1.caps.length c139] 30 :: .row (.slice A122 r120.1.tuple.log.length c123) 41 3 r120.1.tuple.log.length (encs enE r120.1.tuple.log) :: .row (.slice A126 r120.1.votes.length c127) 4 1 r120.1.votes.length (encs enO r120.1.votes) :: .row (.slice A130 r120.1.next.length c131) 3 1 r120.1.next.length (encs enI r120.1.next) :: .row (.slice A134 r120.1.mtch.length c135) 3 1 r120.1.mtch.length (encs enI r120.1.mtch) :: .row (.slice A138 r120.1.caps.length c139) 3 1 r120.1.caps.length (encs enI r120.1.caps) :: .box b117 [.int .i64 r95.1.id, .int .i64 r95.1.n, .int .u8 r95.1.role, .int .i64 r95.1.binary, .int .i64 r95.1.tuple.snap.index, .int .i64 r95.1.tuple.snap.term, .int .i64 r95.1.tuple.snap.sum, .int .i64 r95.1.tuple.snap.level, .bool r95.1.tuple.snap.final, .slice A97 r95.1.tuple.log.length c98, .int .i64 r95.1.tuple.term, .int .i64 r95.1.tuple.vote, .int .i64 r95.1.commit, .int .i64 r95.1.applied.index, .int .i64 r95.1.applied.term, .int .i64 r95.1.applied.sum, .int .i64 r95.1.applied.level, .bool r95.1.applied.final, .slice A101 r95.1.votes.length c102, .slice A105 r95.1.next.length c106, .slice A109 r95.1.mtch.length c110, .slice A113 r95.1.caps.length c114] 30 :: .row (.slice A97 r95.1.tuple.log.length c98) 41 3 r95.1.tuple.log.length (encs enE r95.1.tuple.log) :: .row (.slice A101 r95.1.votes.length c102) 4 1 r95.1.votes.length (encs enO r95.1.votes) :: .row (.slice A105 r95.1.next.length c106) 3 1 r95.1.next.length (encs enI r95.1.next) :: .row (.slice A109 r95.1.mtch.length c110) 3 1 r95.1.mtch.length (encs enI r95.1.mtch) :: .row (.slice A113 r95.1.caps.length c114) 3 1 r95.1.caps.length (encs enI r95.1.caps) :: .box b92 [.int .i64 r70.1.id, .int .i64 r70.1.n, .int .u8 r70.1.role, .int .i64 r70.1.binary, .int .i64 r70.1.tuple.snap.index, .int .i64 r70.1.tuple.snap.term, .int .i64 r70.1.tuple.snap.sum, .int .i64 r70.1.tuple.snap.level, .bool r70.1.tuple.snap.final, .slice A72 r70.1.tuple.log.length c73, .int .i64 r70.1.tuple.term, .int .i64 r70.1.tuple.vote, .int .i64 r70.1.commit, .int .i64 r70.1.applied.index, .int .i64 r70.1.applied.term, .int .i64 r70.1.applied.sum, .int .i64 r70.1.applied.level, .bool r70.1.applied.final, .slice A76 r70.1.votes.length c77, .slice A80 r70.1.next.length c81, .slice A84 r70.1.mtch.length c85, .slice A88 r70.1.caps.length c89] 30 :: .row (.slice A72 r70.1.tuple.log.length c73) 41 3 r70.1.tuple.log.length (encs enE r70.1.tuple.log) :: .row (.slice A76 r70.1.votes.length c77) 4 1 r70.1.votes.length (encs enO r70.1.votes) :: .row (.slice A80 r70.1.next.length c81) 3 1 r70.1.next.length (encs enI r70.1.next) :: .row (.slice A84 r70.1.mtch.length c85) 3 1 r70.1.mtch.length (encs enI r70.1.mtch) :: .row (.slice A88 r70.1.caps.length c89) 3 1 r70.1.caps.length (encs enI r70.1.caps) :: .box b67 [.int .i64 r45.1.id, .int .i64 r45.1.n, .int .u8 r45.1.role, .int .i64 r45.1.binary, .int .i64 r45.1.tuple.snap.index, .int .i64 r45.1.tuple.snap.term, .int .i64 r45.1.tuple.snap.sum, .int .i64 r45.1.tuple.snap.level, .bool r45.1.tuple.snap.final, .slice A47 r45.1.tuple.log.length c48, .int .i64 r45.1.tuple.term, .int .i64 r45.1.tuple.vote, .int .i64 r45.1.commit, .int .i64 r45.1.applied.index, .int .i64 r45.1.applied.term, .int .i64 r45.1.applied.sum, .int .i64 r45.1.applied.level, .bool r45.1.applied.final, .slice A51 r45.1.votes.length c52, .slice A55 r45.1.next.length c56, .slice A59 r45.1.mtch.length c60, .slice A63 r45.1.caps.length c64] 30 :: .row (.slice A47 r45.1.tuple.log.length c48) 41 3 r45.1.tuple.log.length (encs enE r45.1.tuple.log) :: .row (.slice A51 r45.1.votes.length c52) 4 1 r45.1.votes.length (encs enO r45.1.votes) :: .row (.slice A55 r45.1.next.length c56) 3 1 r45.1.next.length (encs enI r45.1.next) :: .row (.slice A59 r45.1.mtch.length c60) 3 1 r45.1.mtch.length (encs enI r45.1.mtch) :: .row (.slice A63 r45.1.caps.length c64) 3 1 r45.1.caps.length (encs enI r45.1.caps) :: .box b42 [.int .i64 r20.1.id, .int .i64 r20.1.n, .int .u8 r20.1.role, .int .i64 r20.1.binary, .int .i64 r20.1.tuple.snap.index, .int .i64 r20.1.tuple.snap.term, .int .i64 r20.1.tuple.snap.sum, .int .i64 r20.1.tuple.snap.level, .bool r20.1.tuple.snap.final, .slice A22 r20.1.tuple.log.length c23, .int .i64 r20.1.tuple.term, .int .i64 r20.1.tuple.vote, .int .i64 r20.1.commit, .int .i64 r20.1.applied.index, .int .i64 r20.1.applied.term, .int .i64 r20.1.applied.sum, .int .i64 r20.1.applied.level, .bool r20.1.applied.final, .slice A26 r20.1.votes.length c27, .slice A30 r20.1.next.length c31, .slice A34 r20.1.mtch.length c35, .slice A38 r20.1.caps.length c39] 30 :: .row (.slice A22 r20.1.tuple.log.length c23) 41 3 r20.1.tuple.log.length (encs enE r20.1.tuple.log) :: .row (.slice A26 r20.1.votes.length c27) 4 1 r20.1.votes.length (encs enO r20.1.votes) :: .row (.slice A30 r20.1.next.length c31) 3 1 r20.1.next.length (encs enI r20.1.next) :: .row (.slice A34 r20.1.mtch.length c35) 3 1 r20.1.mtch.length (encs enI r20.1.mtch) :: .row (.slice A38 r20.1.caps.length c39) 3 1 r20.1.caps.length (encs enI r20.1.caps) :: .box b2 [.int .i64 x0.id, .int .i64 x0.n, .int .u8 x0.role, .int .i64 x0.binary, .int .i64 x0.tuple.snap.index, .int .i64 x0.tuple.snap.term, .int .i64 x0.tuple.snap.sum, .int .i64 x0.tuple.snap.level, .bool x0.tuple.snap.final, .slice A0_ x0.tuple.log.length c0_, .int .i64 x0.tuple.term, .int .i64 x0.tuple.vote, .int .i64 x0.commit, .int .i64 x0.applied.index, .int .i64 x0.applied.term, .int .i64 x0.applied.sum, .int .i64 x0.applied.level, .bool x0.applied.final, .slice A1_ x0.votes.length c1_, .slice A2_ x0.next.length c2_, .slice A3_ x0.mtch.length c3_, .slice A4_ x0.caps.length c4_] 30 :: []) ∧ m_law24_CommitLevels_l1 x0 r20 r45 r70 r175 x.1 x.2.1 x.2.2 = some r) (fun x => x.1) (fuelN, true, 0) (by repeat (first | exact Sub.nil | refine Sub.cons rfl ?_)) ⟨hS, H⟩ ?_
    rintro ⟨n, v202, v203⟩ w ⟨hS, H⟩
    dsimp only at hS H ⊢
    obtain _ | n := n
    · have H0 : none = some r := H
      cases H0
    rw [m_law24_CommitLevels_l1] at H
    refine wpC_seq_k (fun K hK204 => ?_)
    refine wpC_seq_k (fun K hK205 => ?_)
    refine wpC_region ?_
    refine wpS_quick 1 rfl ?_
    refine wpS_put rfl rfl rfl (yv_fieldAddr fo_30_1 rfl) ?_
    refine wpS_put rfl rfl rfl (yv_load_box sc_3 rfl (RW.here _) hS hs42 trivial sg1_1) ?_
    refine wpS_put rfl rfl rfl (yv_lss rfl rfl) ?_
    refine wpS_nil ?_
    refine QH_seq_k hK205 ?_
    refine wpC_cond rfl (fun hb => ?_) (fun hb => ?_)
    · replace H := cond_t H hb
      refine wpC_skip ?_
      refine QH_seq_k hK204 ?_
      refine wpC_seq_k (fun K hK206 => ?_)
      refine wpC_block ?_
      refine wpC_region ?_
      refine wpS_quick 2 rfl ?_
      refine wpS_case 95 rfl (fun hb => ?_) (fun hb => ?_)
      rotate_left
      · replace H := cond_f H hb
        refine wpS_quick 8 rfl ?_
        refine wpS_nil ?_
        refine QH_block_normal ?_
        refine QH_seq_k hK206 ?_
        refine wpC_region ?_
        refine wpS_quick 1 rfl ?_
        refine wpS_put rfl rfl rfl (yx_add rfl rfl) ?_
        refine wpS_quick 1 rfl ?_
        refine wpS_nil ?_
        exact QH_again (n, false, (IntKind.wrap .i64 (v203 + 1))) (by repeat (first | exact Sub.nil | refine Sub.cons rfl ?_)) ⟨hS, H⟩ (Nat.lt_succ_self _)
      replace H := cond_t H hb
      refine wpS_put rfl rfl rfl (yv_fieldAddr fo_30_10 rfl) ?_
      refine wpS_put rfl rfl rfl (yv_load_box sc_28 rfl (RW.here _) hS hs42 trivial sg21_1) ?_
      refine wpS_quick 1 rfl ?_
      obtain ⟨e207, hi209, H⟩ := bind_some H
      obtain ⟨j208, hi209a, hi209b, hi209c⟩ := idx_some hi209
      refine wpS_put rfl rfl rfl (yx_idx el_28 rfl rfl hi209a hi209c (Rd.el (hS.rd0 s4_.rd) he_enI hi209b)) ?_
      refine wpS_put rfl rfl rfl (yx_ld0 sc_3 rfl (RW.here _) (Rd.el (hS.rd0 s4_.rd) he_enI hi209b) rfl) ?_
      refine wpS_put rfl rfl rfl (yv_eql rfl rfl) ?_
      refine wpS_quick 2 rfl ?_
      refine wpS_nil ?_
      refine QH_block_normal ?_
      refine QH_seq_k hK206 ?_
      refine wpC_region ?_
      refine wpS_quick 1 rfl ?_
      refine wpS_put rfl rfl rfl (yx_add rfl rfl) ?_
      refine wpS_quick 1 rfl ?_
      refine wpS_nil ?_
      exact QH_again (n, (decide (e207 = 2)), (IntKind.wrap .i64 (v203 + 1))) (by repeat (first | exact Sub.nil | refine Sub.cons rfl ?_)) ⟨hS, H⟩ (Nat.lt_succ_self _)
    replace H := cond_f H hb
    refine wpC_exit ?_
    refine QH_then_exit ?_
    refine QH_then_exit ?_
    refine QH_block_hit ?_
    refine QH_seq_k hK200 ?_
    refine wpC_seq_k (fun K hK210 => ?_)
    refine wpC_region ?_
    refine wpS_put rfl rfl rfl (yv_fieldAddr fo_30_4 rfl) ?_
    refine wpS_put rfl rfl rfl (yv_fieldAddr fo_26_1 rfl) ?_
    refine wpS_put rfl rfl rfl (yv_load_box sc_24 rfl (RW.here _) hS hs42 trivial sg9_1) ?_
    refine wpS_put rfl rfl rfl (yv_len el_24 rfl) ?_
    refine wpS_put rfl rfl rfl (yv_geq rfl rfl) ?_
    refine wpS_quick 1 rfl ?_
    refine wpS_nil ?_
    refine QH_seq_k hK210 ?_
    refine wpC_seq_k (fun K hK211 => ?_)
    refine wpC_seq_k (fun K hK212 => ?_)
    refine wpC_region ?_
    refine wpS_quick 1 rfl ?_
    refine wpS_put rfl rfl rfl (yv_neq rfl rfl) ?_
    refine wpS_quick 1 rfl ?_
    refine wpS_case 110 rfl (fun hb => ?_) (fun hb => ?_)
    · replace H := cond_t H hb
      refine wpS_quick 17 rfl ?_
      refine wpS_nil ?_
      refine QH_seq_k hK212 ?_
      refine wpC_cond_t rfl rfl ?_
      refine wpC_seq_k (fun K hK213 => ?_)
      refine wpC_region ?_
      refine wpS_quick 1 rfl ?_
      refine wpS_nil ?_
      refine QH_seq_k hK213 ?_
      refine wpC_ret ?_
      refine QH_then_ret ?_
      refine QH_ret rfl (RV.tmp rfl RV.nil) rfl ?_
      obtain rfl := Option.some.inj H
      replace hS := hS.cut 0
      exact ⟨rfl, hS⟩
    replace H := cond_f H hb
    refine wpS_quick 1 rfl ?_
    refine wpS_put rfl rfl rfl (yv_eql rfl rfl) ?_
    refine wpS_quick 1 rfl ?_
    refine wpS_put rfl rfl rfl (yv_not rfl) ?_
    refine wpS_put rfl rfl rfl (yv_neqB (by kernel_rfl) rfl rfl) ?_
    refine wpS_quick 2 rfl ?_
    refine wpS_case 117 rfl (fun hb => ?_) (fun hb => ?_)
    · replace H := cond_t H hb
      refine wpS_quick 10 rfl ?_
      refine wpS_nil ?_
      refine QH_seq_k hK212 ?_
      refine wpC_cond_t rfl rfl ?_
      refine wpC_seq_k (fun K hK214 => ?_)
      refine wpC_region ?_
      refine wpS_quick 1 rfl ?_
      refine wpS_nil ?_
      refine QH_seq_k hK214 ?_
      refine wpC_ret ?_
      refine QH_then_ret ?_
      refine QH_ret rfl (RV.tmp rfl RV.nil) rfl ?_
      obtain rfl := Option.some.inj H
      replace hS := hS.cut 0
      exact ⟨rfl, hS⟩
    replace H := cond_f H hb
    refine wpS_quick 2 rfl ?_
    refine wpS_case 119 rfl (fun hb => ?_) (fun hb => ?_)
    rotate_left
    · replace H := cond_f H hb
      refine wpS_quick 8 rfl ?_
      refine wpS_nil ?_
      refine QH_seq_k hK212 ?_
      refine wpC_cond_f rfl rfl ?_
      refine wpC_skip ?_
      refine QH_seq_k hK211 ?_
      refine wpC_seq_k (fun K hK232 => ?_)
      refine wpC_seq_k (fun K hK233 => ?_)
      refine wpC_region ?_
      refine wpS_put rfl rfl rfl (yv_fieldAddr fo_30_6 rfl) ?_
      refine wpS_put rfl rfl rfl (yv_fieldAddr fo_23_4 rfl) ?_
      refine wpS_put rfl rfl rfl (yv_load_box sc_4 rfl (RW.here _) hS hs42 trivial sg17_1) ?_
      refine wpS_nil ?_
      refine QH_seq_k hK233 ?_
      refine wpC_cond rfl (fun hb => ?_) (fun hb => ?_)
      · replace H := cond_t H hb
        refine wpC_seq_k (fun K hK234 => ?_)
        refine wpC_region ?_
        refine wpS_quick 1 rfl ?_
        refine wpS_put rfl rfl rfl (yv_eql rfl rfl) ?_
        refine wpS_quick 1 rfl ?_
        refine wpS_case 133 rfl (fun hb => ?_) (fun hb => ?_)
        rotate_left
        · replace H := cond_f H hb
          refine wpS_quick 7 rfl ?_
          refine wpS_nil ?_
          refine QH_seq_k hK234 ?_
          refine wpC_ret ?_
          refine QH_then_ret ?_
          refine QH_ret rfl (RV.tmp rfl RV.nil) rfl ?_
          obtain rfl := Option.some.inj H
          replace hS := hS.cut 0
          exact ⟨rfl, hS⟩
        replace H := cond_t H hb
        refine wpS_quick 1 rfl ?_
        refine wpS_put rfl rfl rfl (yv_eql rfl rfl) ?_
        refine wpS_quick 2 rfl ?_
        refine wpS_case 137 rfl (fun hb => ?_) (fun hb => ?_)
        rotate_left
        · replace H := cond_f H hb
          refine wpS_quick 3 rfl ?_
          refine wpS_nil ?_
          refine QH_seq_k hK234 ?_
          refine wpC_ret ?_
          refine QH_then_ret ?_
          refine QH_ret rfl (RV.tmp rfl RV.nil) rfl ?_
          obtain rfl := Option.some.inj H
          replace hS := hS.cut 0
          exact ⟨rfl, hS⟩
        replace H := cond_t H hb
        obtain ⟨r235, hm236, H⟩ := bind_some H
        refine wpS_call rfl rfl rfl rfl (by kernel_rfl) rfl (c_law24_wakes _ hm236) ?_
        rintro e w ⟨rfl, hN⟩; refine ⟨_, rfl, ?_⟩; have hB := hN.pure; have hS := hS.join hN; clear hN
        refine wpS_quick 2 rfl ?_
        refine wpS_nil ?_
        refine QH_seq_k hK234 ?_
        refine wpC_ret ?_
        refine QH_then_ret ?_
        refine QH_ret rfl (RV.tmp rfl RV.nil) rfl ?_
        obtain rfl := Option.some.inj H
        replace hS := hS.cut 0
        exact ⟨rfl, hS⟩
      replace H := cond_f H hb
      refine wpC_skip ?_
      refine QH_seq_k hK232 ?_
      refine wpC_seq_k (fun K hK237 => ?_)
      refine wpC_region ?_
      refine wpS_quick 1 rfl ?_
      refine wpS_put rfl rfl rfl (yv_eql rfl rfl) ?_
      refine wpS_quick 1 rfl ?_
      refine wpS_put rfl rfl rfl (yv_not rfl) ?_
      refine wpS_put rfl rfl rfl (yv_eqlB (by kernel_rfl) rfl rfl) ?_
      refine wpS_quick 1 rfl ?_
      refine wpS_case 145 rfl (fun hb => ?_) (fun hb => ?_)
      rotate_left
      · replace H := cond_f H hb
        refine wpS_quick 12 rfl ?_
        refine wpS_nil ?_
        refine QH_seq_k hK237 ?_
        refine wpC_ret ?_
        refine QH_ret rfl (RV.tmp rfl RV.nil) rfl ?_
        obtain rfl := Option.some.inj H
        replace hS := hS.cut 0
        exact ⟨rfl, hS⟩
      replace H := cond_t H hb
      refine wpS_quick 1 rfl ?_
      refine wpS_put rfl rfl rfl (yv_eql rfl rfl) ?_
      refine wpS_put rfl rfl rfl (yv_fieldAddr fo_30_6 rfl) ?_
      refine wpS_put rfl rfl rfl (yv_fieldAddr fo_23_3 rfl) ?_
      refine wpS_put rfl rfl rfl (yv_load_box sc_3 rfl (RW.here _) hS hs42 trivial sg16_1) ?_
      refine wpS_put rfl rfl rfl (yv_eql rfl rfl) ?_
      refine wpS_put rfl rfl rfl (yv_eqlB (by kernel_rfl) rfl rfl) ?_
      refine wpS_quick 2 rfl ?_
      refine wpS_case 154 rfl (fun hb => ?_) (fun hb => ?_)
      rotate_left
      · replace H := cond_f H hb
        refine wpS_quick 3 rfl ?_
        refine wpS_nil ?_
        refine QH_seq_k hK237 ?_
        refine wpC_ret ?_
        refine QH_ret rfl (RV.tmp rfl RV.nil) rfl ?_
        obtain rfl := Option.some.inj H
        replace hS := hS.cut 0
        exact ⟨rfl, hS⟩
      replace H := cond_t H hb
      obtain ⟨r238, hm239, H⟩ := bind_some H
      refine wpS_call rfl rfl rfl rfl (by kernel_rfl) rfl (c_law24_wakes _ hm239) ?_
      rintro e w ⟨rfl, hN⟩; refine ⟨_, rfl, ?_⟩; have hB := hN.pure; have hS := hS.join hN; clear hN
      refine wpS_quick 2 rfl ?_
      refine wpS_nil ?_
      refine QH_seq_k hK237 ?_
      refine wpC_ret ?_
      refine QH_ret rfl (RV.tmp rfl RV.nil) rfl ?_
      obtain rfl := Option.some.inj H
      replace hS := hS.cut 0
      exact ⟨rfl, hS⟩
    replace H := cond_t H hb
    refine wpS_quick 1 rfl ?_
    refine wpS_put rfl rfl rfl (yv_not rfl) ?_
    refine wpS_quick 2 rfl ?_
    refine wpS_case 123 rfl (fun hb => ?_) (fun hb => ?_)
    rotate_left
    · replace H := cond_f H hb
      refine wpS_quick 4 rfl ?_
      refine wpS_nil ?_
      refine QH_seq_k hK212 ?_
      refine wpC_cond_f rfl rfl ?_
      refine wpC_skip ?_
      refine QH_seq_k hK211 ?_
      refine wpC_seq_k (fun K hK224 => ?_)
      refine wpC_seq_k (fun K hK225 => ?_)
      refine wpC_region ?_
      refine wpS_put rfl rfl rfl (yv_fieldAddr fo_30_6 rfl) ?_
      refine wpS_put rfl rfl rfl (yv_fieldAddr fo_23_4 rfl) ?_
      refine wpS_put rfl rfl rfl (yv_load_box sc_4 rfl (RW.here _) hS hs42 trivial sg17_1) ?_
      refine wpS_nil ?_
      refine QH_seq_k hK225 ?_
      refine wpC_cond rfl (fun hb => ?_) (fun hb => ?_)
      · replace H := cond_t H hb
        refine wpC_seq_k (fun K hK226 => ?_)
        refine wpC_region ?_
        refine wpS_quick 1 rfl ?_
        refine wpS_put rfl rfl rfl (yv_eql rfl rfl) ?_
        refine wpS_quick 1 rfl ?_
        refine wpS_case 133 rfl (fun hb => ?_) (fun hb => ?_)
        rotate_left
        · replace H := cond_f H hb
          refine wpS_quick 7 rfl ?_
          refine wpS_nil ?_
          refine QH_seq_k hK226 ?_
          refine wpC_ret ?_
          refine QH_then_ret ?_
          refine QH_ret rfl (RV.tmp rfl RV.nil) rfl ?_
          obtain rfl := Option.some.inj H
          replace hS := hS.cut 0
          exact ⟨rfl, hS⟩
        replace H := cond_t H hb
        refine wpS_quick 1 rfl ?_
        refine wpS_put rfl rfl rfl (yv_eql rfl rfl) ?_
        refine wpS_quick 2 rfl ?_
        refine wpS_case 137 rfl (fun hb => ?_) (fun hb => ?_)
        rotate_left
        · replace H := cond_f H hb
          refine wpS_quick 3 rfl ?_
          refine wpS_nil ?_
          refine QH_seq_k hK226 ?_
          refine wpC_ret ?_
          refine QH_then_ret ?_
          refine QH_ret rfl (RV.tmp rfl RV.nil) rfl ?_
          obtain rfl := Option.some.inj H
          replace hS := hS.cut 0
          exact ⟨rfl, hS⟩
        replace H := cond_t H hb
        obtain ⟨r227, hm228, H⟩ := bind_some H
        refine wpS_call rfl rfl rfl rfl (by kernel_rfl) rfl (c_law24_wakes _ hm228) ?_
        rintro e w ⟨rfl, hN⟩; refine ⟨_, rfl, ?_⟩; have hB := hN.pure; have hS := hS.join hN; clear hN
        refine wpS_quick 2 rfl ?_
        refine wpS_nil ?_
        refine QH_seq_k hK226 ?_
        refine wpC_ret ?_
        refine QH_then_ret ?_
        refine QH_ret rfl (RV.tmp rfl RV.nil) rfl ?_
        obtain rfl := Option.some.inj H
        replace hS := hS.cut 0
        exact ⟨rfl, hS⟩
      replace H := cond_f H hb
      refine wpC_skip ?_
      refine QH_seq_k hK224 ?_
      refine wpC_seq_k (fun K hK229 => ?_)
      refine wpC_region ?_
      refine wpS_quick 1 rfl ?_
      refine wpS_put rfl rfl rfl (yv_eql rfl rfl) ?_
      refine wpS_quick 1 rfl ?_
      refine wpS_put rfl rfl rfl (yv_not rfl) ?_
      refine wpS_put rfl rfl rfl (yv_eqlB (by kernel_rfl) rfl rfl) ?_
      refine wpS_quick 1 rfl ?_
      refine wpS_case 145 rfl (fun hb => ?_) (fun hb => ?_)
      rotate_left
      · replace H := cond_f H hb
        refine wpS_quick 12 rfl ?_
        refine wpS_nil ?_
        refine QH_seq_k hK229 ?_
        refine wpC_ret ?_
        refine QH_ret rfl (RV.tmp rfl RV.nil) rfl ?_
        obtain rfl := Option.some.inj H
        replace hS := hS.cut 0
        exact ⟨rfl, hS⟩
      replace H := cond_t H hb
      refine wpS_quick 1 rfl ?_
      refine wpS_put rfl rfl rfl (yv_eql rfl rfl) ?_
      refine wpS_put rfl rfl rfl (yv_fieldAddr fo_30_6 rfl) ?_
      refine wpS_put rfl rfl rfl (yv_fieldAddr fo_23_3 rfl) ?_
      refine wpS_put rfl rfl rfl (yv_load_box sc_3 rfl (RW.here _) hS hs42 trivial sg16_1) ?_
      refine wpS_put rfl rfl rfl (yv_eql rfl rfl) ?_
      refine wpS_put rfl rfl rfl (yv_eqlB (by kernel_rfl) rfl rfl) ?_
      refine wpS_quick 2 rfl ?_
      refine wpS_case 154 rfl (fun hb => ?_) (fun hb => ?_)
      rotate_left
      · replace H := cond_f H hb
        refine wpS_quick 3 rfl ?_
        refine wpS_nil ?_
        refine QH_seq_k hK229 ?_
        refine wpC_ret ?_
        refine QH_ret rfl (RV.tmp rfl RV.nil) rfl ?_
        obtain rfl := Option.some.inj H
        replace hS := hS.cut 0
        exact ⟨rfl, hS⟩
      replace H := cond_t H hb
      obtain ⟨r230, hm231, H⟩ := bind_some H
      refine wpS_call rfl rfl rfl rfl (by kernel_rfl) rfl (c_law24_wakes _ hm231) ?_
      rintro e w ⟨rfl, hN⟩; refine ⟨_, rfl, ?_⟩; have hB := hN.pure; have hS := hS.join hN; clear hN
      refine wpS_quick 2 rfl ?_
      refine wpS_nil ?_
      refine QH_seq_k hK229 ?_
      refine wpC_ret ?_
      refine QH_ret rfl (RV.tmp rfl RV.nil) rfl ?_
      obtain rfl := Option.some.inj H
      replace hS := hS.cut 0
      exact ⟨rfl, hS⟩
    replace H := cond_t H hb
    refine wpS_quick 1 rfl ?_
    refine wpS_put rfl rfl rfl (yv_neq rfl rfl) ?_
    refine wpS_quick 2 rfl ?_
    refine wpS_nil ?_
    refine QH_seq_k hK212 ?_
    refine wpC_cond rfl (fun hb => ?_) (fun hb => ?_)
    · replace H := cond_t H hb
      refine wpC_seq_k (fun K hK215 => ?_)
      refine wpC_region ?_
      refine wpS_quick 1 rfl ?_
      refine wpS_nil ?_
      refine QH_seq_k hK215 ?_
      refine wpC_ret ?_
      refine QH_then_ret ?_
      refine QH_ret rfl (RV.tmp rfl RV.nil) rfl ?_
      obtain rfl := Option.some.inj H
      replace hS := hS.cut 0
      exact ⟨rfl, hS⟩
    replace H := cond_f H hb
    refine wpC_skip ?_
    refine QH_seq_k hK211 ?_
    refine wpC_seq_k (fun K hK216 => ?_)
    refine wpC_seq_k (fun K hK217 => ?_)
    refine wpC_region ?_
    refine wpS_put rfl rfl rfl (yv_fieldAddr fo_30_6 rfl) ?_
    refine wpS_put rfl rfl rfl (yv_fieldAddr fo_23_4 rfl) ?_
    refine wpS_put rfl rfl rfl (yv_load_box sc_4 rfl (RW.here _) hS hs42 trivial sg17_1) ?_
    refine wpS_nil ?_
    refine QH_seq_k hK217 ?_
    refine wpC_cond rfl (fun hb => ?_) (fun hb => ?_)
    · replace H := cond_t H hb
      refine wpC_seq_k (fun K hK218 => ?_)
      refine wpC_region ?_
      refine wpS_quick 1 rfl ?_
      refine wpS_put rfl rfl rfl (yv_eql rfl rfl) ?_
      refine wpS_quick 1 rfl ?_
      refine wpS_case 133 rfl (fun hb => ?_) (fun hb => ?_)
      rotate_left
      · replace H := cond_f H hb
        refine wpS_quick 7 rfl ?_
        refine wpS_nil ?_
        refine QH_seq_k hK218 ?_
        refine wpC_ret ?_
        refine QH_then_ret ?_
        refine QH_ret rfl (RV.tmp rfl RV.nil) rfl ?_
        obtain rfl := Option.some.inj H
        replace hS := hS.cut 0
        exact ⟨rfl, hS⟩
      replace H := cond_t H hb
      refine wpS_quick 1 rfl ?_
      refine wpS_put rfl rfl rfl (yv_eql rfl rfl) ?_
      refine wpS_quick 2 rfl ?_
      refine wpS_case 137 rfl (fun hb => ?_) (fun hb => ?_)
      rotate_left
      · replace H := cond_f H hb
        refine wpS_quick 3 rfl ?_
        refine wpS_nil ?_
        refine QH_seq_k hK218 ?_
        refine wpC_ret ?_
        refine QH_then_ret ?_
        refine QH_ret rfl (RV.tmp rfl RV.nil) rfl ?_
        obtain rfl := Option.some.inj H
        replace hS := hS.cut 0
        exact ⟨rfl, hS⟩
      replace H := cond_t H hb
      obtain ⟨r219, hm220, H⟩ := bind_some H
      refine wpS_call rfl rfl rfl rfl (by kernel_rfl) rfl (c_law24_wakes _ hm220) ?_
      rintro e w ⟨rfl, hN⟩; refine ⟨_, rfl, ?_⟩; have hB := hN.pure; have hS := hS.join hN; clear hN
      refine wpS_quick 2 rfl ?_
      refine wpS_nil ?_
      refine QH_seq_k hK218 ?_
      refine wpC_ret ?_
      refine QH_then_ret ?_
      refine QH_ret rfl (RV.tmp rfl RV.nil) rfl ?_
      obtain rfl := Option.some.inj H
      replace hS := hS.cut 0
      exact ⟨rfl, hS⟩
    replace H := cond_f H hb
    refine wpC_skip ?_
    refine QH_seq_k hK216 ?_
    refine wpC_seq_k (fun K hK221 => ?_)
    refine wpC_region ?_
    refine wpS_quick 1 rfl ?_
    refine wpS_put rfl rfl rfl (yv_eql rfl rfl) ?_
    refine wpS_quick 1 rfl ?_
    refine wpS_put rfl rfl rfl (yv_not rfl) ?_
    refine wpS_put rfl rfl rfl (yv_eqlB (by kernel_rfl) rfl rfl) ?_
    refine wpS_quick 1 rfl ?_
    refine wpS_case 145 rfl (fun hb => ?_) (fun hb => ?_)
    rotate_left
    · replace H := cond_f H hb
      refine wpS_quick 12 rfl ?_
      refine wpS_nil ?_
      refine QH_seq_k hK221 ?_
      refine wpC_ret ?_
      refine QH_ret rfl (RV.tmp rfl RV.nil) rfl ?_
      obtain rfl := Option.some.inj H
      replace hS := hS.cut 0
      exact ⟨rfl, hS⟩
    replace H := cond_t H hb
    refine wpS_quick 1 rfl ?_
    refine wpS_put rfl rfl rfl (yv_eql rfl rfl) ?_
    refine wpS_put rfl rfl rfl (yv_fieldAddr fo_30_6 rfl) ?_
    refine wpS_put rfl rfl rfl (yv_fieldAddr fo_23_3 rfl) ?_
    refine wpS_put rfl rfl rfl (yv_load_box sc_3 rfl (RW.here _) hS hs42 trivial sg16_1) ?_
    refine wpS_put rfl rfl rfl (yv_eql rfl rfl) ?_
    refine wpS_put rfl rfl rfl (yv_eqlB (by kernel_rfl) rfl rfl) ?_
    refine wpS_quick 2 rfl ?_
    refine wpS_case 154 rfl (fun hb => ?_) (fun hb => ?_)
    rotate_left
    · replace H := cond_f H hb
      refine wpS_quick 3 rfl ?_
      refine wpS_nil ?_
      refine QH_seq_k hK221 ?_
      refine wpC_ret ?_
      refine QH_ret rfl (RV.tmp rfl RV.nil) rfl ?_
      obtain rfl := Option.some.inj H
      replace hS := hS.cut 0
      exact ⟨rfl, hS⟩
    replace H := cond_t H hb
    obtain ⟨r222, hm223, H⟩ := bind_some H
    refine wpS_call rfl rfl rfl rfl (by kernel_rfl) rfl (c_law24_wakes _ hm223) ?_
    rintro e w ⟨rfl, hN⟩; refine ⟨_, rfl, ?_⟩; have hB := hN.pure; have hS := hS.join hN; clear hN
    refine wpS_quick 2 rfl ?_
    refine wpS_nil ?_
    refine QH_seq_k hK221 ?_
    refine wpC_ret ?_
    refine QH_ret rfl (RV.tmp rfl RV.nil) rfl ?_
    obtain rfl := Option.some.inj H
    replace hS := hS.cut 0
    exact ⟨rfl, hS⟩
  replace H := cond_f H hb
  refine wpS_quick 1 rfl ?_
  refine wpS_put rfl rfl rfl (yv_gtr rfl rfl) ?_
  refine wpS_quick 1 rfl ?_
  refine wpS_put rfl rfl rfl (yv_neqB (by kernel_rfl) rfl rfl) ?_
  refine wpS_quick 1 rfl ?_
  refine wpS_nil ?_
  refine QH_seq_k hK170 ?_
  refine wpC_cond rfl (fun hb => ?_) (fun hb => ?_)
  · replace H := cond_t H hb
    refine wpC_seq_k (fun K hK240 => ?_)
    refine wpC_region ?_
    refine wpS_quick 1 rfl ?_
    refine wpS_nil ?_
    refine QH_seq_k hK240 ?_
    refine wpC_ret ?_
    refine QH_then_ret ?_
    refine QH_ret rfl (RV.tmp rfl RV.nil) rfl ?_
    obtain rfl := Option.some.inj H
    replace hS := hS.cut 0
    exact ⟨rfl, hS⟩
  replace H := cond_f H hb
  refine wpC_skip ?_
  refine QH_seq_k hK169 ?_
  refine wpC_seq_k (fun K hK241 => ?_)
  refine wpC_region ?_
  refine wpS_put rfl rfl rfl (yv_load_boxA ag_30 rfl (RW.here _) hS hs36 trivial sg0_22) ?_
  obtain ⟨r242, hm243, H⟩ := bind_some H
  refine wpS_call rfl rfl rfl rfl (by kernel_rfl) rfl (c_commit_Client x0 0 0 A0_ c0_ A1_ c1_ A2_ c2_ A3_ c3_ A4_ c4_ _ (SlI.of_rd s0_.k (hS.rd0 s0_.rd) (hS.blk0 s0_.blk)) (SlI.of_rd s1_.k (hS.rd0 s1_.rd) (hS.blk0 s1_.blk)) (SlI.of_rd s2_.k (hS.rd0 s2_.rd) (hS.blk0 s2_.blk)) (SlI.of_rd s3_.k (hS.rd0 s3_.rd) (hS.blk0 s3_.blk)) (SlI.of_rd s4_.k (hS.rd0 s4_.rd) (hS.blk0 s4_.blk)) hm243) ?_
  rintro e w ⟨A244, c245, A248, c249, A252, c253, A256, c257, A260, c261, rfl, k246, k250, k254, k258, k262, hN⟩; refine ⟨_, rfl, ?_⟩; have hB := hN.pure; have hS := hS.join hN; clear hN
  refine wpS_quick 1 rfl ?_
  refine wpS_put rfl rfl rfl (yv_extract rfl rfl) ?_
  refine wpS_put rfl rfl rfl (yv_extract rfl rfl) ?_
  refine wpS_alloc rfl rfl zc_30 hS (fun b264 w hS hB => ?_)
  refine wpS_store rfl rfl rfl CellsOf.agg hS ps0 st0_22 (by kernel_rfl) rfl (fun w hS hB => ?_)
  refine wpS_quick 1 rfl ?_
  refine wpS_nil ?_
  refine QH_seq_k hK241 ?_
  refine wpC_seq_k (fun K hK266 => ?_)
  refine wpC_region ?_
  refine wpS_quick 1 rfl ?_
  refine wpS_nil ?_
  refine QH_seq_k hK266 ?_
  refine wpC_seq_k (fun K hK267 => ?_)
  refine wpC_seq_k (fun K hK268 => ?_)
  refine wpC_region ?_
  refine wpS_quick 1 rfl ?_
  refine wpS_nil ?_
  refine QH_seq_k hK268 ?_
  refine wpC_block ?_
  refine wpC_loop (X := Nat × Bool × Int) (fun x => (2, .pointer (some ⟨b2, 0, none⟩)) :: (4, .bool false) :: (6, .int .i64 r20.2) :: (8, .int .i64 r45.2) :: (10, .int .i64 r70.2) :: (18, .int .i64 r242.2) :: (19, .bool x.2.1) :: (20, .int .i64 x.2.2) :: []) (fun x w => St0 All w0 w (.box b264 [.int .i64 r242.1.id, .int .i64 r242.1.n, .int .u8 r242.1.role, .int .i64 r242.1.binary, .int .i64 r242.1.tuple.snap.index, .int .i64 r242.1.tuple.snap.term, .int .i64 r242.1.tuple.snap.sum, .int .i64 r242.1.tuple.snap.level, .bool r242.1.tuple.snap.final, .slice A244 r242.1.tuple.log.length c245, .int .i64 r242.1.tuple.term, .int .i64 r242.1.tuple.vote, .int .i64 r242.1.commit, .int .i64 r242.1.applied.index, .int .i64 r242.1.applied.term, .int .i64 r242.1.applied.sum, .int .i64 r242.1.applied.level, .bool r242.1.applied.final, .slice A248 r242.1.votes.length c249, .slice A252 r242.1.next.length c253, .slice A256 r242.1.mtch.length c257, .slice A260 r242.1.caps.length c261] 30 :: .row (.slice A244 r242.1.tuple.log.length c245) 41 3 r242.1.tuple.log.length (encs enE r242.1.tuple.log) :: .row (.slice A248 r242.1.votes.length c249) 4 1 r242.1.votes.length (encs enO r242.1.votes) :: .row (.slice A252 r242.1.next.length c253) 3 1 r242.1.next.length (encs enI r242.1.next) :: .row (.slice A256 r242.1.mtch.length c257) 3 1 r242.1.mtch.length (encs enI r242.1.mtch) :: .row (.slice A260 r242.1.caps.length c261) 3 1 r242.1.caps.length (encs enI r242.1.caps) :: .box b167 [.int .i64 r145.1.id, .int .i64 r145.1.n, .int .u8 r145.1.role, .int .i64 r145.1.binary, .int .i64 r145.1.tuple.snap.index, .int .i64 r145.1.tuple.snap.term, .int .i64 r145.1.tuple.snap.sum, .int .i64 r145.1.tuple.snap.level, .bool r145.1.tuple.snap.final, .slice A147 r145.1.tuple.log.length c148, .int .i64 r145.1.tuple.term, .int .i64 r145.1.tuple.vote, .int .i64 r145.1.commit, .int .i64 r145.1.applied.index, .int .i64 r145.1.applied.term, .int .i64 r145.1.applied.sum, .int .i64 r145.1.applied.level, .bool r145.1.applied.final, .slice A151 r145.1.votes.length c152, .slice A155 r145.1.next.length c156, .slice A159 r145.1.mtch.length c160, .slice A163 r145.1.caps.length c164] 30 :: .row (.slice A147 r145.1.tuple.log.length c148) 41 3 r145.1.tuple.log.length (encs enE r145.1.tuple.log) :: .row (.slice A151 r145.1.votes.length c152) 4 1 r145.1.votes.length (encs enO r145.1.votes) :: .row (.slice A155 r145.1.next.length c156) 3 1 r145.1.next.length (encs enI r145.1.next) :: .row (.slice A159 r145.1.mtch.length c160) 3 1 r145.1.mtch.length (encs enI r145.1.mtch) :: .row (.slice A163 r145.1.caps.length c164) 3 1 r145.1.caps.length (encs enI r145.1.caps) :: .box b142 [.int .i64 r120.1.id, .int .i64 r120.1.n, .int .u8 r120.1.role, .int .i64 r120.1.binary, .int .i64 r120.1.tuple.snap.index, .int .i64 r120.1.tuple.snap.term, .int .i64 r120.1.tuple.snap.sum, .int .i64 r120.1.tuple.snap.level, .bool r120.1.tuple.snap.final, .slice A122 r120.1.tuple.log.length c123, .int .i64 r120.1.tuple.term, .int .i64 r120.1.tuple.vote, .int .i64 r120.1.commit, .int .i64 r120.1.applied.index, .int .i64 r120.1.applied.term, .int .i64 r120.1.applied.sum, .int .i64 r120.1.applied.level, .bool r120.1.applied.final, .slice A126 r120.1.votes.length c127, .slice A130 r120.1.next.length c131, .slice A134 r120.1.mtch.length c135, .slice A138 r120.1.caps.length c139] 30 :: .row (.slice A122 r120.1.tuple.log.length c123) 41 3 r120.1.tuple.log.length (encs enE r120.1.tuple.log) :: .row (.slice A126 r120.1.votes.length c127) 4 1 r120.1.votes.length (encs enO r120.1.votes) :: .row (.slice A130 r120.1.next.length c131) 3 1 r120.1.next.length (encs enI r120.1.next) :: .row (.slice A134 r120.1.mtch.length c135) 3 1 r120.1.mtch.length (encs enI r120.1.mtch) :: .row (.slice A138 r120.1.caps.length c139) 3 1 r120.1.caps.length (encs enI r120.1.caps) :: .box b117 [.int .i64 r95.1.id, .int .i64 r95.1.n, .int .u8 r95.1.role, .int .i64 r95.1.binary, .int .i64 r95.1.tuple.snap.index, .int .i64 r95.1.tuple.snap.term, .int .i64 r95.1.tuple.snap.sum, .int .i64 r95.1.tuple.snap.level, .bool r95.1.tuple.snap.final, .slice A97 r95.1.tuple.log.length c98, .int .i64 r95.1.tuple.term, .int .i64 r95.1.tuple.vote, .int .i64 r95.1.commit, .int .i64 r95.1.applied.index, .int .i64 r95.1.applied.term, .int .i64 r95.1.applied.sum, .int .i64 r95.1.applied.level, .bool r95.1.applied.final, .slice A101 r95.1.votes.length c102, .slice A105 r95.1.next.length c106, .slice A109 r95.1.mtch.length c110, .slice A113 r95.1.caps.length c114] 30 :: .row (.slice A97 r95.1.tuple.log.length c98) 41 3 r95.1.tuple.log.length (encs enE r95.1.tuple.log) :: .row (.slice A101 r95.1.votes.length c102) 4 1 r95.1.votes.length (encs enO r95.1.votes) :: .row (.slice A105 r95.1.next.length c106) 3 1 r95.1.next.length (encs enI r95.1.next) :: .row (.slice A109 r95.1.mtch.length c110) 3 1 r95.1.mtch.length (encs enI r95.1.mtch) :: .row (.slice A113 r95.1.caps.length c114) 3 1 r95.1.caps.length (encs enI r95.1.caps) :: .box b92 [.int .i64 r70.1.id, .int .i64 r70.1.n, .int .u8 r70.1.role, .int .i64 r70.1.binary, .int .i64 r70.1.tuple.snap.index, .int .i64 r70.1.tuple.snap.term, .int .i64 r70.1.tuple.snap.sum, .int .i64 r70.1.tuple.snap.level, .bool r70.1.tuple.snap.final, .slice A72 r70.1.tuple.log.length c73, .int .i64 r70.1.tuple.term, .int .i64 r70.1.tuple.vote, .int .i64 r70.1.commit, .int .i64 r70.1.applied.index, .int .i64 r70.1.applied.term, .int .i64 r70.1.applied.sum, .int .i64 r70.1.applied.level, .bool r70.1.applied.final, .slice A76 r70.1.votes.length c77, .slice A80 r70.1.next.length c81, .slice A84 r70.1.mtch.length c85, .slice A88 r70.1.caps.length c89] 30 :: .row (.slice A72 r70.1.tuple.log.length c73) 41 3 r70.1.tuple.log.length (encs enE r70.1.tuple.log) :: .row (.slice A76 r70.1.votes.length c77) 4 1 r70.1.votes.length (encs enO r70.1.votes) :: .row (.slice A80 r70.1.next.length c81) 3 1 r70.1.next.length (encs enI r70.1.next) :: .row (.slice A84 r70.1.mtch.length c85) 3 1 r70.1.mtch.length (encs enI r70.1.mtch) :: .row (.slice A88 r70.1.caps.length c89) 3 1 r70.1.caps.length (encs enI r70.1.caps) :: .box b67 [.int .i64 r45.1.id, .int .i64 r45.1.n, .int .u8 r45.1.role, .int .i64 r45.1.binary, .int .i64 r45.1.tuple.snap.index, .int .i64 r45.1.tuple.snap.term, .int .i64 r45.1.tuple.snap.sum, .int .i64 r45.1.tuple.snap.level, .bool r45.1.tuple.snap.final, .slice A47 r45.1.tuple.log.length c48, .int .i64 r45.1.tuple.term, .int .i64 r45.1.tuple.vote, .int .i64 r45.1.commit, .int .i64 r45.1.applied.index, .int .i64 r45.1.applied.term, .int .i64 r45.1.applied.sum, .int .i64 r45.1.applied.level, .bool r45.1.applied.final, .slice A51 r45.1.votes.length c52, .slice A55 r45.1.next.length c56, .slice A59 r45.1.mtch.length c60, .slice A63 r45.1.caps.length c64] 30 :: .row (.slice A47 r45.1.tuple.log.length c48) 41 3 r45.1.tuple.log.length (encs enE r45.1.tuple.log) :: .row (.slice A51 r45.1.votes.length c52) 4 1 r45.1.votes.length (encs enO r45.1.votes) :: .row (.slice A55 r45.1.next.length c56) 3 1 r45.1.next.length (encs enI r45.1.next) :: .row (.slice A59 r45.1.mtch.length c60) 3 1 r45.1.mtch.length (encs enI r45.1.mtch) :: .row (.slice A63 r45.1.caps.length c64) 3 1 r45.1.caps.length (encs enI r45.1.caps) :: .box b42 [.int .i64 r20.1.id, .int .i64 r20.1.n, .int .u8 r20.1.role, .int .i64 r20.1.binary, .int .i64 r20.1.tuple.snap.index, .int .i64 r20.1.tuple.snap.term, .int .i64 r20.1.tuple.snap.sum, .int .i64 r20.1.tuple.snap.level, .bool r20.1.tuple.snap.final, .slice A22 r20.1.tuple.log.length c23, .int .i64 r20.1.tuple.term, .int .i64 r20.1.tuple.vote, .int .i64 r20.1.commit, .int .i64 r20.1.applied.index, .int .i64 r20.1.applied.term, .int .i64 r20.1.applied.sum, .int .i64 r20.1.applied.level, .bool r20.1.applied.final, .slice A26 r20.1.votes.length c27, .slice A30 r20.1.next.length c31, .slice A34 r20.1.mtch.length c35, .slice A38 r20.1.caps.length c39] 30 :: .row (.slice A22 r20.1.tuple.log.length c23) 41 3 r20.1.tuple.log.length (encs enE r20.1.tuple.log) :: .row (.slice A26 r20.1.votes.length c27) 4 1 r20.1.votes.length (encs enO r20.1.votes) :: .row (.slice A30 r20.1.next.length c31) 3 1 r20.1.next.length (encs enI r20.1.next) :: .row (.slice A34 r20.1.mtch.length c35) 3 1 r20.1.mtch.length (encs enI r20.1.mtch) :: .row (.slice A38 r20.1.caps.length c39) 3 1 r20.1.caps.length (encs enI r20.1.caps) :: .box b2 [.int .i64 x0.id, .int .i64 x0.n, .int .u8 x0.role, .int .i64 x0.binary, .int .i64 x0.tuple.snap.index, .int .i64 x0.tuple.snap.term, .int .i64 x0.tuple.snap.sum, .int .i64 x0.tuple.snap.level, .bool x0.tuple.snap.final, .slice A0_ x0.tuple.log.length c0_, .int .i64 x0.tuple.term, .int .i64 x0.tuple.vote, .int .i64 x0.commit, .int .i64 x0.applied.index, .int .i64 x0.applied.term, .int .i64 x0.applied.sum, .int .i64 x0.applied.level, .bool x0.applied.final, .slice A1_ x0.votes.length c1_, .slice A2_ x0.next.length c2_, .slice A3_ x0.mtch.length c3_, .slice A4_ x0.caps.length c4_] 30 :: []) ∧ m_law24_CommitLevels_l2 x0 r20 r45 r70 r242 x.1 x.2.1 x.2.2 = some r) (fun x => x.1) (fuelN, true, 0) (by repeat (first | exact Sub.nil | refine Sub.cons rfl ?_)) ⟨hS, H⟩ ?_
  rintro ⟨n, v269, v270⟩ w ⟨hS, H⟩
  dsimp only at hS H ⊢
  obtain _ | n := n
  · have H0 : none = some r := H
    cases H0
  rw [m_law24_CommitLevels_l2] at H
  refine wpC_seq_k (fun K hK271 => ?_)
  refine wpC_seq_k (fun K hK272 => ?_)
  refine wpC_region ?_
  refine wpS_quick 1 rfl ?_
  refine wpS_put rfl rfl rfl (yv_fieldAddr fo_30_1 rfl) ?_
  refine wpS_put rfl rfl rfl (yv_load_box sc_3 rfl (RW.here _) hS hs42 trivial sg1_1) ?_
  refine wpS_put rfl rfl rfl (yv_lss rfl rfl) ?_
  refine wpS_nil ?_
  refine QH_seq_k hK272 ?_
  refine wpC_cond rfl (fun hb => ?_) (fun hb => ?_)
  · replace H := cond_t H hb
    refine wpC_skip ?_
    refine QH_seq_k hK271 ?_
    refine wpC_seq_k (fun K hK273 => ?_)
    refine wpC_block ?_
    refine wpC_region ?_
    refine wpS_quick 2 rfl ?_
    refine wpS_case 95 rfl (fun hb => ?_) (fun hb => ?_)
    rotate_left
    · replace H := cond_f H hb
      refine wpS_quick 8 rfl ?_
      refine wpS_nil ?_
      refine QH_block_normal ?_
      refine QH_seq_k hK273 ?_
      refine wpC_region ?_
      refine wpS_quick 1 rfl ?_
      refine wpS_put rfl rfl rfl (yx_add rfl rfl) ?_
      refine wpS_quick 1 rfl ?_
      refine wpS_nil ?_
      exact QH_again (n, false, (IntKind.wrap .i64 (v270 + 1))) (by repeat (first | exact Sub.nil | refine Sub.cons rfl ?_)) ⟨hS, H⟩ (Nat.lt_succ_self _)
    replace H := cond_t H hb
    refine wpS_put rfl rfl rfl (yv_fieldAddr fo_30_10 rfl) ?_
    refine wpS_put rfl rfl rfl (yv_load_box sc_28 rfl (RW.here _) hS hs42 trivial sg21_1) ?_
    refine wpS_quick 1 rfl ?_
    obtain ⟨e274, hi276, H⟩ := bind_some H
    obtain ⟨j275, hi276a, hi276b, hi276c⟩ := idx_some hi276
    refine wpS_put rfl rfl rfl (yx_idx el_28 rfl rfl hi276a hi276c (Rd.el (hS.rd0 s4_.rd) he_enI hi276b)) ?_
    refine wpS_put rfl rfl rfl (yx_ld0 sc_3 rfl (RW.here _) (Rd.el (hS.rd0 s4_.rd) he_enI hi276b) rfl) ?_
    refine wpS_put rfl rfl rfl (yv_eql rfl rfl) ?_
    refine wpS_quick 2 rfl ?_
    refine wpS_nil ?_
    refine QH_block_normal ?_
    refine QH_seq_k hK273 ?_
    refine wpC_region ?_
    refine wpS_quick 1 rfl ?_
    refine wpS_put rfl rfl rfl (yx_add rfl rfl) ?_
    refine wpS_quick 1 rfl ?_
    refine wpS_nil ?_
    exact QH_again (n, (decide (e274 = 2)), (IntKind.wrap .i64 (v270 + 1))) (by repeat (first | exact Sub.nil | refine Sub.cons rfl ?_)) ⟨hS, H⟩ (Nat.lt_succ_self _)
  replace H := cond_f H hb
  refine wpC_exit ?_
  refine QH_then_exit ?_
  refine QH_then_exit ?_
  refine QH_block_hit ?_
  refine QH_seq_k hK267 ?_
  refine wpC_seq_k (fun K hK277 => ?_)
  refine wpC_region ?_
  refine wpS_put rfl rfl rfl (yv_fieldAddr fo_30_4 rfl) ?_
  refine wpS_put rfl rfl rfl (yv_fieldAddr fo_26_1 rfl) ?_
  refine wpS_put rfl rfl rfl (yv_load_box sc_24 rfl (RW.here _) hS hs42 trivial sg9_1) ?_
  refine wpS_put rfl rfl rfl (yv_len el_24 rfl) ?_
  refine wpS_put rfl rfl rfl (yv_geq rfl rfl) ?_
  refine wpS_quick 1 rfl ?_
  refine wpS_nil ?_
  refine QH_seq_k hK277 ?_
  refine wpC_seq_k (fun K hK278 => ?_)
  refine wpC_seq_k (fun K hK279 => ?_)
  refine wpC_region ?_
  refine wpS_quick 1 rfl ?_
  refine wpS_put rfl rfl rfl (yv_neq rfl rfl) ?_
  refine wpS_quick 1 rfl ?_
  refine wpS_case 110 rfl (fun hb => ?_) (fun hb => ?_)
  · replace H := cond_t H hb
    refine wpS_quick 17 rfl ?_
    refine wpS_nil ?_
    refine QH_seq_k hK279 ?_
    refine wpC_cond_t rfl rfl ?_
    refine wpC_seq_k (fun K hK280 => ?_)
    refine wpC_region ?_
    refine wpS_quick 1 rfl ?_
    refine wpS_nil ?_
    refine QH_seq_k hK280 ?_
    refine wpC_ret ?_
    refine QH_then_ret ?_
    refine QH_ret rfl (RV.tmp rfl RV.nil) rfl ?_
    obtain rfl := Option.some.inj H
    replace hS := hS.cut 0
    exact ⟨rfl, hS⟩
  replace H := cond_f H hb
  refine wpS_quick 1 rfl ?_
  refine wpS_put rfl rfl rfl (yv_eql rfl rfl) ?_
  refine wpS_quick 1 rfl ?_
  refine wpS_put rfl rfl rfl (yv_not rfl) ?_
  refine wpS_put rfl rfl rfl (yv_neqB (by kernel_rfl) rfl rfl) ?_
  refine wpS_quick 2 rfl ?_
  refine wpS_case 117 rfl (fun hb => ?_) (fun hb => ?_)
  · replace H := cond_t H hb
    refine wpS_quick 10 rfl ?_
    refine wpS_nil ?_
    refine QH_seq_k hK279 ?_
    refine wpC_cond_t rfl rfl ?_
    refine wpC_seq_k (fun K hK281 => ?_)
    refine wpC_region ?_
    refine wpS_quick 1 rfl ?_
    refine wpS_nil ?_
    refine QH_seq_k hK281 ?_
    refine wpC_ret ?_
    refine QH_then_ret ?_
    refine QH_ret rfl (RV.tmp rfl RV.nil) rfl ?_
    obtain rfl := Option.some.inj H
    replace hS := hS.cut 0
    exact ⟨rfl, hS⟩
  replace H := cond_f H hb
  refine wpS_quick 2 rfl ?_
  refine wpS_case 119 rfl (fun hb => ?_) (fun hb => ?_)
  rotate_left
  · replace H := cond_f H hb
    refine wpS_quick 8 rfl ?_
    refine wpS_nil ?_
    refine QH_seq_k hK279 ?_
    refine wpC_cond_f rfl rfl ?_
    refine wpC_skip ?_
    refine QH_seq_k hK278 ?_
    refine wpC_seq_k (fun K hK299 => ?_)
    refine wpC_seq_k (fun K hK300 => ?_)
    refine wpC_region ?_
    refine wpS_put rfl rfl rfl (yv_fieldAddr fo_30_6 rfl) ?_
    refine wpS_put rfl rfl rfl (yv_fieldAddr fo_23_4 rfl) ?_
    refine wpS_put rfl rfl rfl (yv_load_box sc_4 rfl (RW.here _) hS hs42 trivial sg17_1) ?_
    refine wpS_nil ?_
    refine QH_seq_k hK300 ?_
    refine wpC_cond rfl (fun hb => ?_) (fun hb => ?_)
    · replace H := cond_t H hb
      refine wpC_seq_k (fun K hK301 => ?_)
      refine wpC_region ?_
      refine wpS_quick 1 rfl ?_
      refine wpS_put rfl rfl rfl (yv_eql rfl rfl) ?_
      refine wpS_quick 1 rfl ?_
      refine wpS_case 133 rfl (fun hb => ?_) (fun hb => ?_)
      rotate_left
      · replace H := cond_f H hb
        refine wpS_quick 7 rfl ?_
        refine wpS_nil ?_
        refine QH_seq_k hK301 ?_
        refine wpC_ret ?_
        refine QH_then_ret ?_
        refine QH_ret rfl (RV.tmp rfl RV.nil) rfl ?_
        obtain rfl := Option.some.inj H
        replace hS := hS.cut 0
        exact ⟨rfl, hS⟩
      replace H := cond_t H hb
      refine wpS_quick 1 rfl ?_
      refine wpS_put rfl rfl rfl (yv_eql rfl rfl) ?_
      refine wpS_quick 2 rfl ?_
      refine wpS_case 137 rfl (fun hb => ?_) (fun hb => ?_)
      rotate_left
      · replace H := cond_f H hb
        refine wpS_quick 3 rfl ?_
        refine wpS_nil ?_
        refine QH_seq_k hK301 ?_
        refine wpC_ret ?_
        refine QH_then_ret ?_
        refine QH_ret rfl (RV.tmp rfl RV.nil) rfl ?_
        obtain rfl := Option.some.inj H
        replace hS := hS.cut 0
        exact ⟨rfl, hS⟩
      replace H := cond_t H hb
      obtain ⟨r302, hm303, H⟩ := bind_some H
      refine wpS_call rfl rfl rfl rfl (by kernel_rfl) rfl (c_law24_wakes _ hm303) ?_
      rintro e w ⟨rfl, hN⟩; refine ⟨_, rfl, ?_⟩; have hB := hN.pure; have hS := hS.join hN; clear hN
      refine wpS_quick 2 rfl ?_
      refine wpS_nil ?_
      refine QH_seq_k hK301 ?_
      refine wpC_ret ?_
      refine QH_then_ret ?_
      refine QH_ret rfl (RV.tmp rfl RV.nil) rfl ?_
      obtain rfl := Option.some.inj H
      replace hS := hS.cut 0
      exact ⟨rfl, hS⟩
    replace H := cond_f H hb
    refine wpC_skip ?_
    refine QH_seq_k hK299 ?_
    refine wpC_seq_k (fun K hK304 => ?_)
    refine wpC_region ?_
    refine wpS_quick 1 rfl ?_
    refine wpS_put rfl rfl rfl (yv_eql rfl rfl) ?_
    refine wpS_quick 1 rfl ?_
    refine wpS_put rfl rfl rfl (yv_not rfl) ?_
    refine wpS_put rfl rfl rfl (yv_eqlB (by kernel_rfl) rfl rfl) ?_
    refine wpS_quick 1 rfl ?_
    refine wpS_case 145 rfl (fun hb => ?_) (fun hb => ?_)
    rotate_left
    · replace H := cond_f H hb
      refine wpS_quick 12 rfl ?_
      refine wpS_nil ?_
      refine QH_seq_k hK304 ?_
      refine wpC_ret ?_
      refine QH_ret rfl (RV.tmp rfl RV.nil) rfl ?_
      obtain rfl := Option.some.inj H
      replace hS := hS.cut 0
      exact ⟨rfl, hS⟩
    replace H := cond_t H hb
    refine wpS_quick 1 rfl ?_
    refine wpS_put rfl rfl rfl (yv_eql rfl rfl) ?_
    refine wpS_put rfl rfl rfl (yv_fieldAddr fo_30_6 rfl) ?_
    refine wpS_put rfl rfl rfl (yv_fieldAddr fo_23_3 rfl) ?_
    refine wpS_put rfl rfl rfl (yv_load_box sc_3 rfl (RW.here _) hS hs42 trivial sg16_1) ?_
    refine wpS_put rfl rfl rfl (yv_eql rfl rfl) ?_
    refine wpS_put rfl rfl rfl (yv_eqlB (by kernel_rfl) rfl rfl) ?_
    refine wpS_quick 2 rfl ?_
    refine wpS_case 154 rfl (fun hb => ?_) (fun hb => ?_)
    rotate_left
    · replace H := cond_f H hb
      refine wpS_quick 3 rfl ?_
      refine wpS_nil ?_
      refine QH_seq_k hK304 ?_
      refine wpC_ret ?_
      refine QH_ret rfl (RV.tmp rfl RV.nil) rfl ?_
      obtain rfl := Option.some.inj H
      replace hS := hS.cut 0
      exact ⟨rfl, hS⟩
    replace H := cond_t H hb
    obtain ⟨r305, hm306, H⟩ := bind_some H
    refine wpS_call rfl rfl rfl rfl (by kernel_rfl) rfl (c_law24_wakes _ hm306) ?_
    rintro e w ⟨rfl, hN⟩; refine ⟨_, rfl, ?_⟩; have hB := hN.pure; have hS := hS.join hN; clear hN
    refine wpS_quick 2 rfl ?_
    refine wpS_nil ?_
    refine QH_seq_k hK304 ?_
    refine wpC_ret ?_
    refine QH_ret rfl (RV.tmp rfl RV.nil) rfl ?_
    obtain rfl := Option.some.inj H
    replace hS := hS.cut 0
    exact ⟨rfl, hS⟩
  replace H := cond_t H hb
  refine wpS_quick 1 rfl ?_
  refine wpS_put rfl rfl rfl (yv_not rfl) ?_
  refine wpS_quick 2 rfl ?_
  refine wpS_case 123 rfl (fun hb => ?_) (fun hb => ?_)
  rotate_left
  · replace H := cond_f H hb
    refine wpS_quick 4 rfl ?_
    refine wpS_nil ?_
    refine QH_seq_k hK279 ?_
    refine wpC_cond_f rfl rfl ?_
    refine wpC_skip ?_
    refine QH_seq_k hK278 ?_
    refine wpC_seq_k (fun K hK291 => ?_)
    refine wpC_seq_k (fun K hK292 => ?_)
    refine wpC_region ?_
    refine wpS_put rfl rfl rfl (yv_fieldAddr fo_30_6 rfl) ?_
    refine wpS_put rfl rfl rfl (yv_fieldAddr fo_23_4 rfl) ?_
    refine wpS_put rfl rfl rfl (yv_load_box sc_4 rfl (RW.here _) hS hs42 trivial sg17_1) ?_
    refine wpS_nil ?_
    refine QH_seq_k hK292 ?_
    refine wpC_cond rfl (fun hb => ?_) (fun hb => ?_)
    · replace H := cond_t H hb
      refine wpC_seq_k (fun K hK293 => ?_)
      refine wpC_region ?_
      refine wpS_quick 1 rfl ?_
      refine wpS_put rfl rfl rfl (yv_eql rfl rfl) ?_
      refine wpS_quick 1 rfl ?_
      refine wpS_case 133 rfl (fun hb => ?_) (fun hb => ?_)
      rotate_left
      · replace H := cond_f H hb
        refine wpS_quick 7 rfl ?_
        refine wpS_nil ?_
        refine QH_seq_k hK293 ?_
        refine wpC_ret ?_
        refine QH_then_ret ?_
        refine QH_ret rfl (RV.tmp rfl RV.nil) rfl ?_
        obtain rfl := Option.some.inj H
        replace hS := hS.cut 0
        exact ⟨rfl, hS⟩
      replace H := cond_t H hb
      refine wpS_quick 1 rfl ?_
      refine wpS_put rfl rfl rfl (yv_eql rfl rfl) ?_
      refine wpS_quick 2 rfl ?_
      refine wpS_case 137 rfl (fun hb => ?_) (fun hb => ?_)
      rotate_left
      · replace H := cond_f H hb
        refine wpS_quick 3 rfl ?_
        refine wpS_nil ?_
        refine QH_seq_k hK293 ?_
        refine wpC_ret ?_
        refine QH_then_ret ?_
        refine QH_ret rfl (RV.tmp rfl RV.nil) rfl ?_
        obtain rfl := Option.some.inj H
        replace hS := hS.cut 0
        exact ⟨rfl, hS⟩
      replace H := cond_t H hb
      obtain ⟨r294, hm295, H⟩ := bind_some H
      refine wpS_call rfl rfl rfl rfl (by kernel_rfl) rfl (c_law24_wakes _ hm295) ?_
      rintro e w ⟨rfl, hN⟩; refine ⟨_, rfl, ?_⟩; have hB := hN.pure; have hS := hS.join hN; clear hN
      refine wpS_quick 2 rfl ?_
      refine wpS_nil ?_
      refine QH_seq_k hK293 ?_
      refine wpC_ret ?_
      refine QH_then_ret ?_
      refine QH_ret rfl (RV.tmp rfl RV.nil) rfl ?_
      obtain rfl := Option.some.inj H
      replace hS := hS.cut 0
      exact ⟨rfl, hS⟩
    replace H := cond_f H hb
    refine wpC_skip ?_
    refine QH_seq_k hK291 ?_
    refine wpC_seq_k (fun K hK296 => ?_)
    refine wpC_region ?_
    refine wpS_quick 1 rfl ?_
    refine wpS_put rfl rfl rfl (yv_eql rfl rfl) ?_
    refine wpS_quick 1 rfl ?_
    refine wpS_put rfl rfl rfl (yv_not rfl) ?_
    refine wpS_put rfl rfl rfl (yv_eqlB (by kernel_rfl) rfl rfl) ?_
    refine wpS_quick 1 rfl ?_
    refine wpS_case 145 rfl (fun hb => ?_) (fun hb => ?_)
    rotate_left
    · replace H := cond_f H hb
      refine wpS_quick 12 rfl ?_
      refine wpS_nil ?_
      refine QH_seq_k hK296 ?_
      refine wpC_ret ?_
      refine QH_ret rfl (RV.tmp rfl RV.nil) rfl ?_
      obtain rfl := Option.some.inj H
      replace hS := hS.cut 0
      exact ⟨rfl, hS⟩
    replace H := cond_t H hb
    refine wpS_quick 1 rfl ?_
    refine wpS_put rfl rfl rfl (yv_eql rfl rfl) ?_
    refine wpS_put rfl rfl rfl (yv_fieldAddr fo_30_6 rfl) ?_
    refine wpS_put rfl rfl rfl (yv_fieldAddr fo_23_3 rfl) ?_
    refine wpS_put rfl rfl rfl (yv_load_box sc_3 rfl (RW.here _) hS hs42 trivial sg16_1) ?_
    refine wpS_put rfl rfl rfl (yv_eql rfl rfl) ?_
    refine wpS_put rfl rfl rfl (yv_eqlB (by kernel_rfl) rfl rfl) ?_
    refine wpS_quick 2 rfl ?_
    refine wpS_case 154 rfl (fun hb => ?_) (fun hb => ?_)
    rotate_left
    · replace H := cond_f H hb
      refine wpS_quick 3 rfl ?_
      refine wpS_nil ?_
      refine QH_seq_k hK296 ?_
      refine wpC_ret ?_
      refine QH_ret rfl (RV.tmp rfl RV.nil) rfl ?_
      obtain rfl := Option.some.inj H
      replace hS := hS.cut 0
      exact ⟨rfl, hS⟩
    replace H := cond_t H hb
    obtain ⟨r297, hm298, H⟩ := bind_some H
    refine wpS_call rfl rfl rfl rfl (by kernel_rfl) rfl (c_law24_wakes _ hm298) ?_
    rintro e w ⟨rfl, hN⟩; refine ⟨_, rfl, ?_⟩; have hB := hN.pure; have hS := hS.join hN; clear hN
    refine wpS_quick 2 rfl ?_
    refine wpS_nil ?_
    refine QH_seq_k hK296 ?_
    refine wpC_ret ?_
    refine QH_ret rfl (RV.tmp rfl RV.nil) rfl ?_
    obtain rfl := Option.some.inj H
    replace hS := hS.cut 0
    exact ⟨rfl, hS⟩
  replace H := cond_t H hb
  refine wpS_quick 1 rfl ?_
  refine wpS_put rfl rfl rfl (yv_neq rfl rfl) ?_
  refine wpS_quick 2 rfl ?_
  refine wpS_nil ?_
  refine QH_seq_k hK279 ?_
  refine wpC_cond rfl (fun hb => ?_) (fun hb => ?_)
  · replace H := cond_t H hb
    refine wpC_seq_k (fun K hK282 => ?_)
    refine wpC_region ?_
    refine wpS_quick 1 rfl ?_
    refine wpS_nil ?_
    refine QH_seq_k hK282 ?_
    refine wpC_ret ?_
    refine QH_then_ret ?_
    refine QH_ret rfl (RV.tmp rfl RV.nil) rfl ?_
    obtain rfl := Option.some.inj H
    replace hS := hS.cut 0
    exact ⟨rfl, hS⟩
  replace H := cond_f H hb
  refine wpC_skip ?_
  refine QH_seq_k hK278 ?_
  refine wpC_seq_k (fun K hK283 => ?_)
  refine wpC_seq_k (fun K hK284 => ?_)
  refine wpC_region ?_
  refine wpS_put rfl rfl rfl (yv_fieldAddr fo_30_6 rfl) ?_
  refine wpS_put rfl rfl rfl (yv_fieldAddr fo_23_4 rfl) ?_
  refine wpS_put rfl rfl rfl (yv_load_box sc_4 rfl (RW.here _) hS hs42 trivial sg17_1) ?_
  refine wpS_nil ?_
  refine QH_seq_k hK284 ?_
  refine wpC_cond rfl (fun hb => ?_) (fun hb => ?_)
  · replace H := cond_t H hb
    refine wpC_seq_k (fun K hK285 => ?_)
    refine wpC_region ?_
    refine wpS_quick 1 rfl ?_
    refine wpS_put rfl rfl rfl (yv_eql rfl rfl) ?_
    refine wpS_quick 1 rfl ?_
    refine wpS_case 133 rfl (fun hb => ?_) (fun hb => ?_)
    rotate_left
    · replace H := cond_f H hb
      refine wpS_quick 7 rfl ?_
      refine wpS_nil ?_
      refine QH_seq_k hK285 ?_
      refine wpC_ret ?_
      refine QH_then_ret ?_
      refine QH_ret rfl (RV.tmp rfl RV.nil) rfl ?_
      obtain rfl := Option.some.inj H
      replace hS := hS.cut 0
      exact ⟨rfl, hS⟩
    replace H := cond_t H hb
    refine wpS_quick 1 rfl ?_
    refine wpS_put rfl rfl rfl (yv_eql rfl rfl) ?_
    refine wpS_quick 2 rfl ?_
    refine wpS_case 137 rfl (fun hb => ?_) (fun hb => ?_)
    rotate_left
    · replace H := cond_f H hb
      refine wpS_quick 3 rfl ?_
      refine wpS_nil ?_
      refine QH_seq_k hK285 ?_
      refine wpC_ret ?_
      refine QH_then_ret ?_
      refine QH_ret rfl (RV.tmp rfl RV.nil) rfl ?_
      obtain rfl := Option.some.inj H
      replace hS := hS.cut 0
      exact ⟨rfl, hS⟩
    replace H := cond_t H hb
    obtain ⟨r286, hm287, H⟩ := bind_some H
    refine wpS_call rfl rfl rfl rfl (by kernel_rfl) rfl (c_law24_wakes _ hm287) ?_
    rintro e w ⟨rfl, hN⟩; refine ⟨_, rfl, ?_⟩; have hB := hN.pure; have hS := hS.join hN; clear hN
    refine wpS_quick 2 rfl ?_
    refine wpS_nil ?_
    refine QH_seq_k hK285 ?_
    refine wpC_ret ?_
    refine QH_then_ret ?_
    refine QH_ret rfl (RV.tmp rfl RV.nil) rfl ?_
    obtain rfl := Option.some.inj H
    replace hS := hS.cut 0
    exact ⟨rfl, hS⟩
  replace H := cond_f H hb
  refine wpC_skip ?_
  refine QH_seq_k hK283 ?_
  refine wpC_seq_k (fun K hK288 => ?_)
  refine wpC_region ?_
  refine wpS_quick 1 rfl ?_
  refine wpS_put rfl rfl rfl (yv_eql rfl rfl) ?_
  refine wpS_quick 1 rfl ?_
  refine wpS_put rfl rfl rfl (yv_not rfl) ?_
  refine wpS_put rfl rfl rfl (yv_eqlB (by kernel_rfl) rfl rfl) ?_
  refine wpS_quick 1 rfl ?_
  refine wpS_case 145 rfl (fun hb => ?_) (fun hb => ?_)
  rotate_left
  · replace H := cond_f H hb
    refine wpS_quick 12 rfl ?_
    refine wpS_nil ?_
    refine QH_seq_k hK288 ?_
    refine wpC_ret ?_
    refine QH_ret rfl (RV.tmp rfl RV.nil) rfl ?_
    obtain rfl := Option.some.inj H
    replace hS := hS.cut 0
    exact ⟨rfl, hS⟩
  replace H := cond_t H hb
  refine wpS_quick 1 rfl ?_
  refine wpS_put rfl rfl rfl (yv_eql rfl rfl) ?_
  refine wpS_put rfl rfl rfl (yv_fieldAddr fo_30_6 rfl) ?_
  refine wpS_put rfl rfl rfl (yv_fieldAddr fo_23_3 rfl) ?_
  refine wpS_put rfl rfl rfl (yv_load_box sc_3 rfl (RW.here _) hS hs42 trivial sg16_1) ?_
  refine wpS_put rfl rfl rfl (yv_eql rfl rfl) ?_
  refine wpS_put rfl rfl rfl (yv_eqlB (by kernel_rfl) rfl rfl) ?_
  refine wpS_quick 2 rfl ?_
  refine wpS_case 154 rfl (fun hb => ?_) (fun hb => ?_)
  rotate_left
  · replace H := cond_f H hb
    refine wpS_quick 3 rfl ?_
    refine wpS_nil ?_
    refine QH_seq_k hK288 ?_
    refine wpC_ret ?_
    refine QH_ret rfl (RV.tmp rfl RV.nil) rfl ?_
    obtain rfl := Option.some.inj H
    replace hS := hS.cut 0
    exact ⟨rfl, hS⟩
  replace H := cond_t H hb
  obtain ⟨r289, hm290, H⟩ := bind_some H
  refine wpS_call rfl rfl rfl rfl (by kernel_rfl) rfl (c_law24_wakes _ hm290) ?_
  rintro e w ⟨rfl, hN⟩; refine ⟨_, rfl, ?_⟩; have hB := hN.pure; have hS := hS.join hN; clear hN
  refine wpS_quick 2 rfl ?_
  refine wpS_nil ?_
  refine QH_seq_k hK288 ?_
  refine wpC_ret ?_
  refine QH_ret rfl (RV.tmp rfl RV.nil) rfl ?_
  obtain rfl := Option.some.inj H
  replace hS := hS.cut 0
  exact ⟨rfl, hS⟩
end Go.Proofs.YtenagnncpaabdaaGreat
