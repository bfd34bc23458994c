/- What functions compute, in plain terms, and that they do; printed. -/
import Derived.Test.YtohkkncfofomdaaMg1
import Derived.Test.YtohkkncfofomdaaMg2
import Derived.Test.YtohkkncfofomdaaMg4
namespace Go.Proofs.Ytohkkncfofomdaa
open Go Go.RowKit
set_option maxRecDepth 100000
set_option maxHeartbeats 4000000
theorem c_law21_AdvertRight (x0 : Co) (x1 : Ms) (x2 : Int) (A0_ : Option Addr) (c0_ : Nat) (A1_ : Option Addr) (c1_ : Nat) (A2_ : Option Addr) (c2_ : Nat) (A3_ : Option Addr) (c3_ : Nat) (A4_ : Option Addr) (c4_ : Nat) (A5_ : Option Addr) (c5_ : Nat) (w0 : World) (s0_ : SlI w0 enE A0_ c0_ x0.tuple.log) (s1_ : SlI w0 enO A1_ c1_ x0.votes) (s2_ : SlI w0 enI A2_ c2_ x0.next) (s3_ : SlI w0 enI A3_ c3_ x0.mtch) (s4_ : SlI w0 enI A4_ c4_ x0.caps) (s5_ : SlI w0 enE A5_ c5_ x1.entries) {r : Bool} (H : m_law21_AdvertRight x0 x1 x2 = some r) : Calls Try.prog 7 #[.agg #[.int .i64 x0.id, .int .i64 x0.n, .int .u8 x0.role, .int .i64 x0.binary, .int .i64 x0.tuple.snap.index, .int .i64 x0.tuple.snap.term, .int .i64 x0.tuple.snap.sum, .int .i64 x0.tuple.snap.level, .bool x0.tuple.snap.final, .slice A0_ x0.tuple.log.length c0_, .int .i64 x0.tuple.term, .int .i64 x0.tuple.vote, .int .i64 x0.commit, .int .i64 x0.applied.index, .int .i64 x0.applied.term, .int .i64 x0.applied.sum, .int .i64 x0.applied.level, .bool x0.applied.final, .slice A1_ x0.votes.length c1_, .slice A2_ x0.next.length c2_, .slice A3_ x0.mtch.length c3_, .slice A4_ x0.caps.length c4_], .agg #[.int .u8 x1.kind, .int .i64 x1.frm, .int .i64 x1.dst, .int .i64 x1.term, .int .i64 x1.cap, .int .i64 x1.last, .int .i64 x1.lastTerm, .int .i64 x1.commit, .bool x1.okk, .slice A5_ x1.entries.length c5_, .int .i64 x1.snap.index, .int .i64 x1.snap.term, .int .i64 x1.snap.sum, .int .i64 x1.snap.level, .bool x1.snap.final], .int .i64 x2] w0 fun e w' => e = .returned (.bool r) ∧ St0 All w0 w' [] := by
  unfold m_law21_AdvertRight at H
  refine gw_enter3 Try.func7 rfl Try.ntmps7 rfl ?_
  have hS := St0.start All w0
  refine wpC_seq_k (fun K hK1 => ?_)
  refine wpC_region ?_
  refine wpS_box rfl rfl rfl CellsOf.agg hS (fun b2 w hS hB => ?_)
  refine wpS_box rfl rfl rfl CellsOf.agg hS (fun b4 w hS hB => ?_)
  refine wpS_quick 1 rfl ?_
  refine wpS_nil ?_
  refine QH_seq_k hK1 ?_
  refine wpC_seq_k (fun K hK6 => ?_)
  refine wpC_seq_k (fun K hK7 => ?_)
  refine wpC_region ?_
  refine wpS_put rfl rfl rfl (yv_load_boxA ag_32 rfl (RW.here _) hS hs1 trivial sg0_22) ?_
  refine wpS_put rfl rfl rfl (yv_load_boxA ag_39 rfl (RW.here _) hS hs0 trivial sg0_15) ?_
  obtain ⟨r8, hm9, H⟩ := bind_some H
  refine wpS_call rfl rfl rfl rfl (by kernel_rfl) rfl (c_law21_great x0 x1 A0_ c0_ A1_ c1_ A2_ c2_ A3_ c3_ A4_ c4_ A5_ c5_ _ (SlI.of_rd s0_.k (hS.rd0 s0_.rd) (hS.blk0 s0_.blk)) (SlI.of_rd s1_.k (hS.rd0 s1_.rd) (hS.blk0 s1_.blk)) (SlI.of_rd s2_.k (hS.rd0 s2_.rd) (hS.blk0 s2_.blk)) (SlI.of_rd s3_.k (hS.rd0 s3_.rd) (hS.blk0 s3_.blk)) (SlI.of_rd s4_.k (hS.rd0 s4_.rd) (hS.blk0 s4_.blk)) (SlI.of_rd s5_.k (hS.rd0 s5_.rd) (hS.blk0 s5_.blk)) hm9) ?_
  rintro e w ⟨rfl, hN⟩; refine ⟨_, rfl, ?_⟩; have hB := hN.pure; have hS := hS.join hN; clear hN
  refine wpS_quick 1 rfl ?_
  refine wpS_case 16 rfl (fun hb => ?_) (fun hb => ?_)
  · replace H := cond_t H hb
    refine wpS_quick 4 rfl ?_
    refine wpS_nil ?_
    refine QH_seq_k hK7 ?_
    refine wpC_cond_t rfl rfl ?_
    refine wpC_seq_k (fun K hK10 => ?_)
    refine wpC_region ?_
    obtain ⟨r11, hm12, H⟩ := bind_some H
    refine wpS_call rfl rfl rfl rfl (by kernel_rfl) rfl (c_law21_wakes _ hm12) ?_
    rintro e w ⟨rfl, hN⟩; refine ⟨_, rfl, ?_⟩; have hB := hN.pure; have hS := hS.join hN; clear hN
    refine wpS_quick 1 rfl ?_
    refine wpS_nil ?_
    refine QH_seq_k hK10 ?_
    refine wpC_ret ?_
    refine QH_then_ret ?_
    refine QH_ret rfl (RV.tmp rfl RV.nil) rfl ?_
    obtain rfl := Option.some.inj H
    replace hS := hS.cut 0
    exact ⟨rfl, hS⟩
  replace H := cond_f H hb
  refine wpS_put rfl rfl rfl (yv_load_boxA ag_32 rfl (RW.here _) hS hs1 trivial sg0_22) ?_
  obtain ⟨r13, hm14, H⟩ := bind_some H
  refine wpS_call rfl rfl rfl rfl (by kernel_rfl) rfl (c_ref20_Right x0 A0_ c0_ A1_ c1_ A2_ c2_ A3_ c3_ A4_ c4_ _ (SlI.of_rd s0_.k (hS.rd0 s0_.rd) (hS.blk0 s0_.blk)) (SlI.of_rd s1_.k (hS.rd0 s1_.rd) (hS.blk0 s1_.blk)) (SlI.of_rd s2_.k (hS.rd0 s2_.rd) (hS.blk0 s2_.blk)) (SlI.of_rd s3_.k (hS.rd0 s3_.rd) (hS.blk0 s3_.blk)) (SlI.of_rd s4_.k (hS.rd0 s4_.rd) (hS.blk0 s4_.blk)) hm14) ?_
  rintro e w ⟨rfl, hN⟩; refine ⟨_, rfl, ?_⟩; have hB := hN.pure; have hS := hS.join hN; clear hN
  refine wpS_put rfl rfl rfl (yv_not rfl) ?_
  refine wpS_quick 1 rfl ?_
  refine wpS_nil ?_
  refine QH_seq_k hK7 ?_
  refine wpC_cond rfl (fun hb => ?_) (fun hb => ?_)
  · replace H := cond_t H hb
    refine wpC_seq_k (fun K hK15 => ?_)
    refine wpC_region ?_
    obtain ⟨r16, hm17, H⟩ := bind_some H
    refine wpS_call rfl rfl rfl rfl (by kernel_rfl) rfl (c_law21_wakes _ hm17) ?_
    rintro e w ⟨rfl, hN⟩; refine ⟨_, rfl, ?_⟩; have hB := hN.pure; have hS := hS.join hN; clear hN
    refine wpS_quick 1 rfl ?_
    refine wpS_nil ?_
    refine QH_seq_k hK15 ?_
    refine wpC_ret ?_
    refine QH_then_ret ?_
    refine QH_ret rfl (RV.tmp rfl RV.nil) rfl ?_
    obtain rfl := Option.some.inj H
    replace hS := hS.cut 0
    exact ⟨rfl, hS⟩
  replace H := cond_f H hb
  refine wpC_skip ?_
  refine QH_seq_k hK6 ?_
  refine wpC_seq_k (fun K hK18 => ?_)
  refine wpC_region ?_
  refine wpS_put rfl rfl rfl (yv_load_boxA ag_32 rfl (RW.here _) hS hs1 trivial sg0_22) ?_
  obtain ⟨r19, hm20, H⟩ := bind_some H
  refine wpS_call rfl rfl rfl rfl (by kernel_rfl) rfl (c_ref20_Own x0 A0_ c0_ A1_ c1_ A2_ c2_ A3_ c3_ A4_ c4_ _ (SlI.of_rd s0_.k (hS.rd0 s0_.rd) (hS.blk0 s0_.blk)) (SlI.of_rd s1_.k (hS.rd0 s1_.rd) (hS.blk0 s1_.blk)) (SlI.of_rd s2_.k (hS.rd0 s2_.rd) (hS.blk0 s2_.blk)) (SlI.of_rd s3_.k (hS.rd0 s3_.rd) (hS.blk0 s3_.blk)) (SlI.of_rd s4_.k (hS.rd0 s4_.rd) (hS.blk0 s4_.blk)) hm20) ?_
  rintro e w ⟨A21, c22, A25, c26, A29, c30, A33, c34, A37, c38, rfl, k23, k27, k31, k35, k39, hN⟩; refine ⟨_, rfl, ?_⟩; have hB := hN.pure; have hS := hS.join hN; clear hN
  refine wpS_alloc rfl rfl zc_32 hS (fun b41 w hS hB => ?_)
  refine wpS_store rfl rfl rfl CellsOf.agg hS ps0 st0_22 (by kernel_rfl) rfl (fun w hS hB => ?_)
  refine wpS_nil ?_
  refine QH_seq_k hK18 ?_
  refine wpC_seq_k (fun K hK43 => ?_)
  refine wpC_region ?_
  refine wpS_put rfl rfl rfl (yv_load_boxA ag_32 rfl (RW.here _) hS hs7 trivial sg0_22) ?_
  refine wpS_put rfl rfl rfl (yv_load_boxA ag_39 rfl (RW.here _) hS hs6 trivial sg0_15) ?_
  obtain ⟨r44, hm45, H⟩ := bind_some H
  refine wpS_call rfl rfl rfl rfl (by kernel_rfl) rfl (c_advert_Hear x0 x1 A0_ c0_ A1_ c1_ A2_ c2_ A3_ c3_ A4_ c4_ A5_ c5_ _ (SlI.of_rd s0_.k (hS.rd0 s0_.rd) (hS.blk0 s0_.blk)) (SlI.of_rd s1_.k (hS.rd0 s1_.rd) (hS.blk0 s1_.blk)) (SlI.of_rd s2_.k (hS.rd0 s2_.rd) (hS.blk0 s2_.blk)) (SlI.of_rd s3_.k (hS.rd0 s3_.rd) (hS.blk0 s3_.blk)) (SlI.of_rd s4_.k (hS.rd0 s4_.rd) (hS.blk0 s4_.blk)) (SlI.of_rd s5_.k (hS.rd0 s5_.rd) (hS.blk0 s5_.blk)) hm45) ?_
  rintro e w ⟨A46, c47, A50, c51, A54, c55, A58, c59, A62, c63, rfl, k48, k52, k56, k60, k64, hN⟩; refine ⟨_, rfl, ?_⟩; have hB := hN.pure; have hS := hS.join hN; clear hN
  refine wpS_alloc rfl rfl zc_32 hS (fun b66 w hS hB => ?_)
  refine wpS_store rfl rfl rfl CellsOf.agg hS ps0 st0_22 (by kernel_rfl) rfl (fun w hS hB => ?_)
  refine wpS_nil ?_
  refine QH_seq_k hK43 ?_
  refine wpC_seq_k (fun K hK68 => ?_)
  refine wpC_region ?_
  refine wpS_put rfl rfl rfl (yv_load_boxA ag_32 rfl (RW.here _) hS hs13 trivial sg0_22) ?_
  obtain ⟨r69, hm70, H⟩ := bind_some H
  refine wpS_call rfl rfl rfl rfl (by kernel_rfl) rfl (c_advert_Forget x0 A0_ c0_ A1_ c1_ A2_ c2_ A3_ c3_ A4_ c4_ _ (SlI.of_rd s0_.k (hS.rd0 s0_.rd) (hS.blk0 s0_.blk)) (SlI.of_rd s1_.k (hS.rd0 s1_.rd) (hS.blk0 s1_.blk)) (SlI.of_rd s2_.k (hS.rd0 s2_.rd) (hS.blk0 s2_.blk)) (SlI.of_rd s3_.k (hS.rd0 s3_.rd) (hS.blk0 s3_.blk)) (SlI.of_rd s4_.k (hS.rd0 s4_.rd) (hS.blk0 s4_.blk)) hm70) ?_
  rintro e w ⟨A71, c72, A75, c76, A79, c80, A83, c84, A87, c88, rfl, k73, k77, k81, k85, k89, hN⟩; refine ⟨_, rfl, ?_⟩; have hB := hN.pure; have hS := hS.join hN; clear hN
  refine wpS_alloc rfl rfl zc_32 hS (fun b91 w hS hB => ?_)
  refine wpS_store rfl rfl rfl CellsOf.agg hS ps0 st0_22 (by kernel_rfl) rfl (fun w hS hB => ?_)
  refine wpS_nil ?_
  refine QH_seq_k hK68 ?_
  refine wpC_seq_k (fun K hK93 => ?_)
  refine wpC_region ?_
  refine wpS_put rfl rfl rfl (yv_load_boxA ag_32 rfl (RW.here _) hS hs19 trivial sg0_22) ?_
  refine wpS_quick 1 rfl ?_
  obtain ⟨r94, hm95, H⟩ := bind_some H
  refine wpS_call rfl rfl rfl rfl (by kernel_rfl) rfl (c_advert_Binary x0 x2 A0_ c0_ A1_ c1_ A2_ c2_ A3_ c3_ A4_ c4_ _ (SlI.of_rd s0_.k (hS.rd0 s0_.rd) (hS.blk0 s0_.blk)) (SlI.of_rd s1_.k (hS.rd0 s1_.rd) (hS.blk0 s1_.blk)) (SlI.of_rd s2_.k (hS.rd0 s2_.rd) (hS.blk0 s2_.blk)) (SlI.of_rd s3_.k (hS.rd0 s3_.rd) (hS.blk0 s3_.blk)) (SlI.of_rd s4_.k (hS.rd0 s4_.rd) (hS.blk0 s4_.blk)) hm95) ?_
  rintro e w ⟨A96, c97, A100, c101, A104, c105, A108, c109, A112, c113, rfl, k98, k102, k106, k110, k114, hN⟩; refine ⟨_, rfl, ?_⟩; have hB := hN.pure; have hS := hS.join hN; clear hN
  refine wpS_alloc rfl rfl zc_32 hS (fun b116 w hS hB => ?_)
  refine wpS_store rfl rfl rfl CellsOf.agg hS ps0 st0_22 (by kernel_rfl) rfl (fun w hS hB => ?_)
  refine wpS_nil ?_
  refine QH_seq_k hK93 ?_
  refine wpC_seq_k (fun K hK118 => ?_)
  refine wpC_seq_k (fun K hK119 => ?_)
  refine wpC_region ?_
  refine wpS_put rfl rfl rfl (yv_fieldAddr fo_32_10 rfl) ?_
  refine wpS_put rfl rfl rfl (yv_load_box sc_30 rfl (RW.here _) hS hs12 trivial sg21_1) ?_
  refine wpS_put rfl rfl rfl (yv_len el_30 rfl) ?_
  refine wpS_put rfl rfl rfl (yv_fieldAddr fo_32_1 rfl) ?_
  refine wpS_put rfl rfl rfl (yv_load_box sc_3 rfl (RW.here _) hS hs25 trivial sg1_1) ?_
  refine wpS_put rfl rfl rfl (yv_neq rfl rfl) ?_
  refine wpS_quick 1 rfl ?_
  refine wpS_case 38 rfl (fun hb => ?_) (fun hb => ?_)
  · replace H := cond_t H hb
    refine wpS_quick 15 rfl ?_
    refine wpS_nil ?_
    refine QH_seq_k hK119 ?_
    refine wpC_cond_t rfl rfl ?_
    refine wpC_seq_k (fun K hK120 => ?_)
    refine wpC_region ?_
    refine wpS_quick 1 rfl ?_
    refine wpS_nil ?_
    refine QH_seq_k hK120 ?_
    refine wpC_ret ?_
    refine QH_then_ret ?_
    refine QH_ret rfl (RV.tmp rfl RV.nil) rfl ?_
    obtain rfl := Option.some.inj H
    replace hS := hS.cut 0
    exact ⟨rfl, hS⟩
  replace H := cond_f H hb
  refine wpS_put rfl rfl rfl (yv_fieldAddr fo_32_10 rfl) ?_
  refine wpS_put rfl rfl rfl (yv_load_box sc_30 rfl (RW.here _) hS hs6 trivial sg21_1) ?_
  refine wpS_put rfl rfl rfl (yv_len el_30 rfl) ?_
  refine wpS_put rfl rfl rfl (yv_fieldAddr fo_32_1 rfl) ?_
  refine wpS_put rfl rfl rfl (yv_load_box sc_3 rfl (RW.here _) hS hs25 trivial sg1_1) ?_
  refine wpS_put rfl rfl rfl (yv_neq rfl rfl) ?_
  refine wpS_quick 2 rfl ?_
  refine wpS_case 46 rfl (fun hb => ?_) (fun hb => ?_)
  · replace H := cond_t H hb
    refine wpS_quick 7 rfl ?_
    refine wpS_nil ?_
    refine QH_seq_k hK119 ?_
    refine wpC_cond_t rfl rfl ?_
    refine wpC_seq_k (fun K hK121 => ?_)
    refine wpC_region ?_
    refine wpS_quick 1 rfl ?_
    refine wpS_nil ?_
    refine QH_seq_k hK121 ?_
    refine wpC_ret ?_
    refine QH_then_ret ?_
    refine QH_ret rfl (RV.tmp rfl RV.nil) rfl ?_
    obtain rfl := Option.some.inj H
    replace hS := hS.cut 0
    exact ⟨rfl, hS⟩
  replace H := cond_f H hb
  refine wpS_put rfl rfl rfl (yv_fieldAddr fo_32_10 rfl) ?_
  refine wpS_put rfl rfl rfl (yv_load_box sc_30 rfl (RW.here _) hS hs0 trivial sg21_1) ?_
  refine wpS_put rfl rfl rfl (yv_len el_30 rfl) ?_
  refine wpS_put rfl rfl rfl (yv_fieldAddr fo_32_1 rfl) ?_
  refine wpS_put rfl rfl rfl (yv_load_box sc_3 rfl (RW.here _) hS hs25 trivial sg1_1) ?_
  refine wpS_put rfl rfl rfl (yv_neq rfl rfl) ?_
  refine wpS_quick 1 rfl ?_
  refine wpS_nil ?_
  refine QH_seq_k hK119 ?_
  refine wpC_cond rfl (fun hb => ?_) (fun hb => ?_)
  · replace H := cond_t H hb
    refine wpC_seq_k (fun K hK122 => ?_)
    refine wpC_region ?_
    refine wpS_quick 1 rfl ?_
    refine wpS_nil ?_
    refine QH_seq_k hK122 ?_
    refine wpC_ret ?_
    refine QH_then_ret ?_
    refine QH_ret rfl (RV.tmp rfl RV.nil) rfl ?_
    obtain rfl := Option.some.inj H
    replace hS := hS.cut 0
    exact ⟨rfl, hS⟩
  replace H := cond_f H hb
  refine wpC_skip ?_
  refine QH_seq_k hK118 ?_
  refine wpC_seq_k (fun K hK123 => ?_)
  refine wpC_seq_k (fun K hK124 => ?_)
  refine wpC_draw 34 [] (fun _ _ => True) ⟨by kernel_rfl, by kernel_rfl⟩ hS (fun w hS hB => ?_)
  refine wpR_batch [true] (by decide +kernel) (by repeat (first | exact PF.body | exact PF.round | apply PF.then | apply PF.inBlock | apply PF.jump)) ?_
  refine LtK.put rfl rfl rfl (yv_load_boxA ag_32 rfl (RW.below _) hS hs12 trivial sg0_22) ?_
  refine LtK.nil ?_
  refine wpR_call [false, true] 1 ⟨by decide, by kernel_rfl, by kernel_rfl⟩ rfl rfl ?_
  dsimp only [pickL]
  obtain ⟨r125, hm126, H⟩ := bind_some H
  refine wpS_call rfl rfl rfl rfl (by kernel_rfl) rfl (c_ref20_Right r44 A46 c47 A50 c51 A54 c55 A58 c59 A62 c63 _ (SlI.of_rd k48 (hS.row_rd hs13) (hS.row_blk hs13)) (SlI.of_rd k52 (hS.row_rd hs14) (hS.row_blk hs14)) (SlI.of_rd k56 (hS.row_rd hs15) (hS.row_blk hs15)) (SlI.of_rd k60 (hS.row_rd hs16) (hS.row_blk hs16)) (SlI.of_rd k64 (hS.row_rd hs17) (hS.row_blk hs17)) hm126) ?_
  rintro e w ⟨rfl, hN⟩; refine ⟨_, rfl, ?_⟩; have hB := hN.pure; have hS := hS.join hN; clear hN
  refine wpS_nil ?_
  refine QH_step hB ?_
  refine wpR_batch [false, false, true, true] (by decide +kernel) (by repeat (first | exact PF.body | exact PF.round | apply PF.then | apply PF.inBlock | apply PF.jump)) ?_
  refine LtK.put rfl rfl rfl (yv_not rfl) ?_
  refine LtK.put rfl rfl rfl (yv_move rfl) ?_
  refine LtK.nil ?_
  refine wpR_case 57 rfl (fun hb => ?_) (fun hb => ?_)
  · replace H := cond_t H hb
    refine wpR_batch [false, false, false, false, true] (by decide +kernel) (by repeat (first | exact PF.body | exact PF.round | apply PF.then | apply PF.inBlock | apply PF.jump)) ?_
    refine LtK.skip rfl rfl rfl ?_
    refine LtK.nil ?_
    refine wpR_call [false, false, false, false, false, true] 5 ⟨by decide, by kernel_rfl, by kernel_rfl⟩ rfl rfl ?_
    dsimp only [pickL]
    refine wpS_skip rfl rfl rfl ?_
    refine wpS_nil ?_
    refine QH_step (Below.refl _ _) ?_
    refine wpR_batch [false, false, false, false, false, false, true, true, true, true] (by decide +kernel) (by repeat (first | exact PF.body | exact PF.round | apply PF.then | apply PF.inBlock | apply PF.jump)) ?_
    refine LtK.skip rfl rfl rfl ?_
    refine LtK.put rfl rfl rfl (yv_pick_t rfl rfl rfl) ?_
    refine LtK.put rfl rfl rfl (yv_move rfl) ?_
    refine LtK.skip rfl rfl rfl ?_
    refine LtK.nil ?_
    refine wpR_call [false, false, false, false, false, false, false, false, false, false, true] 10 ⟨by decide, by kernel_rfl, by kernel_rfl⟩ rfl rfl ?_
    dsimp only [pickL]
    refine wpS_skip rfl rfl rfl ?_
    refine wpS_nil ?_
    refine QH_step (Below.refl _ _) ?_
    refine wpR_batch [false, false, false, false, false, false, false, false, false, false, false, true, true, true, true, true] (by decide +kernel) (by repeat (first | exact PF.body | exact PF.round | apply PF.then | apply PF.inBlock | apply PF.jump)) ?_
    refine LtK.skip rfl rfl rfl ?_
    refine LtK.put rfl rfl rfl (yv_pick_t rfl rfl rfl) ?_
    refine LtK.put rfl rfl rfl (yv_move rfl) ?_
    refine LtK.skip rfl rfl rfl ?_
    refine LtK.skip rfl rfl rfl ?_
    refine LtK.nil ?_
    refine wpR_call [false, false, false, false, false, false, false, false, false, false, false, false, false, false, false, false, true] 16 ⟨by decide, by kernel_rfl, by kernel_rfl⟩ rfl rfl ?_
    dsimp only [pickL]
    refine wpS_skip rfl rfl rfl ?_
    refine wpS_nil ?_
    refine QH_step (Below.refl _ _) ?_
    refine wpR_batch [false, false, false, false, false, false, false, false, false, false, false, false, false, false, false, false, false, true, true, true, true, true, false, true] (by decide +kernel) (by repeat (first | exact PF.body | exact PF.round | apply PF.then | apply PF.inBlock | apply PF.jump)) ?_
    refine LtK.skip rfl rfl rfl ?_
    refine LtK.put rfl rfl rfl (yv_pick_t rfl rfl rfl) ?_
    refine LtK.put rfl rfl rfl (yv_move rfl) ?_
    refine LtK.skip rfl rfl rfl ?_
    refine LtK.skip rfl rfl rfl ?_
    refine LtK.skip rfl rfl rfl ?_
    refine LtK.nil ?_
    refine wpR_call [false, false, false, false, false, false, false, false, false, false, false, false, false, false, false, false, false, false, false, false, false, false, true] 22 ⟨by decide, by kernel_rfl, by kernel_rfl⟩ rfl rfl ?_
    dsimp only [pickL]
    refine wpS_skip rfl rfl rfl ?_
    refine wpS_nil ?_
    refine QH_step (Below.refl _ _) ?_
    refine wpR_call [false, false, false, false, false, false, false, false, false, false, false, false, false, false, false, false, false, false, false, false, false, false, false, false, true] 24 ⟨by decide, by kernel_rfl, by kernel_rfl⟩ rfl rfl ?_
    dsimp only [pickL]
    refine wpS_skip rfl rfl rfl ?_
    refine wpS_nil ?_
    refine QH_step (Below.refl _ _) ?_
    refine wpR_batch [false, false, false, false, false, false, false, false, false, false, false, false, false, false, false, false, false, false, false, false, false, false, false, false, false, true, true, true, true, false, true] (by decide +kernel) (by repeat (first | exact PF.body | exact PF.round | apply PF.then | apply PF.inBlock | apply PF.jump)) ?_
    refine LtK.skip rfl rfl rfl ?_
    refine LtK.put rfl rfl rfl (yv_pick_t rfl rfl rfl) ?_
    refine LtK.put rfl rfl rfl (yv_move rfl) ?_
    refine LtK.skip rfl rfl rfl ?_
    refine LtK.skip rfl rfl rfl ?_
    refine LtK.nil ?_
    refine wpR_call [false, false, false, false, false, false, false, false, false, false, false, false, false, false, false, false, false, false, false, false, false, false, false, false, false, false, false, false, false, true] 29 ⟨by decide, by kernel_rfl, by kernel_rfl⟩ rfl rfl ?_
    dsimp only [pickL]
    refine wpS_skip rfl rfl rfl ?_
    refine wpS_nil ?_
    refine QH_step (Below.refl _ _) ?_
    refine wpR_call [false, false, false, false, false, false, false, false, false, false, false, false, false, false, false, false, false, false, false, false, false, false, false, false, false, false, false, false, false, false, false, true] 31 ⟨by decide, by kernel_rfl, by kernel_rfl⟩ rfl rfl ?_
    dsimp only [pickL]
    refine wpS_skip rfl rfl rfl ?_
    refine wpS_nil ?_
    refine QH_step (Below.refl _ _) ?_
    refine wpR_batch [false, false, false, false, false, false, false, false, false, false, false, false, false, false, false, false, false, false, false, false, false, false, false, false, false, false, false, false, false, false, false, false, true, true] (by decide +kernel) (by repeat (first | exact PF.body | exact PF.round | apply PF.then | apply PF.inBlock | apply PF.jump)) ?_
    refine LtK.skip rfl rfl rfl ?_
    refine LtK.put rfl rfl rfl (yv_pick_t rfl rfl rfl) ?_
    refine LtK.nil ?_
    refine wpR_end (by kernel_rfl) ?_
    refine QH_seq_k hK124 ?_
    refine wpC_cond_t rfl rfl ?_
    refine wpC_seq_k (fun K hK127 => ?_)
    refine wpC_region ?_
    refine wpS_quick 1 rfl ?_
    refine wpS_nil ?_
    refine QH_seq_k hK127 ?_
    refine wpC_ret ?_
    refine QH_then_ret ?_
    refine QH_ret rfl (RV.tmp rfl RV.nil) rfl ?_
    obtain rfl := Option.some.inj H
    replace hS := hS.cut 0
    exact ⟨rfl, hS⟩
  replace H := cond_f H hb
  refine wpR_batch [false, false, false, false, true] (by decide +kernel) (by repeat (first | exact PF.body | exact PF.round | apply PF.then | apply PF.inBlock | apply PF.jump)) ?_
  refine LtK.put rfl rfl rfl (yv_load_boxA ag_32 rfl (RW.below _) hS hs6 trivial sg0_22) ?_
  refine LtK.nil ?_
  refine wpR_call [false, false, false, false, false, true] 5 ⟨by decide, by kernel_rfl, by kernel_rfl⟩ rfl rfl ?_
  dsimp only [pickL]
  obtain ⟨r128, hm129, H⟩ := bind_some H
  refine wpS_call rfl rfl rfl rfl (by kernel_rfl) rfl (c_ref20_Right r69 A71 c72 A75 c76 A79 c80 A83 c84 A87 c88 _ (SlI.of_rd k73 (hS.row_rd hs7) (hS.row_blk hs7)) (SlI.of_rd k77 (hS.row_rd hs8) (hS.row_blk hs8)) (SlI.of_rd k81 (hS.row_rd hs9) (hS.row_blk hs9)) (SlI.of_rd k85 (hS.row_rd hs10) (hS.row_blk hs10)) (SlI.of_rd k89 (hS.row_rd hs11) (hS.row_blk hs11)) hm129) ?_
  rintro e w ⟨rfl, hN⟩; refine ⟨_, rfl, ?_⟩; have hB := hN.pure; have hS := hS.join hN; clear hN
  refine wpS_nil ?_
  refine QH_step hB ?_
  refine wpR_batch [false, false, false, false, false, false, true, true, true] (by decide +kernel) (by repeat (first | exact PF.body | exact PF.round | apply PF.then | apply PF.inBlock | apply PF.jump)) ?_
  refine LtK.put rfl rfl rfl (yv_not rfl) ?_
  refine LtK.put rfl rfl rfl (yv_pick_f rfl rfl rfl) ?_
  refine LtK.put rfl rfl rfl (yv_move rfl) ?_
  refine LtK.nil ?_
  refine wpR_case 62 rfl (fun hb => ?_) (fun hb => ?_)
  · replace H := cond_t H hb
    refine wpR_batch [false, false, false, false, false, false, false, false, false, true] (by decide +kernel) (by repeat (first | exact PF.body | exact PF.round | apply PF.then | apply PF.inBlock | apply PF.jump)) ?_
    refine LtK.skip rfl rfl rfl ?_
    refine LtK.nil ?_
    refine wpR_call [false, false, false, false, false, false, false, false, false, false, true] 10 ⟨by decide, by kernel_rfl, by kernel_rfl⟩ rfl rfl ?_
    dsimp only [pickL]
    refine wpS_skip rfl rfl rfl ?_
    refine wpS_nil ?_
    refine QH_step (Below.refl _ _) ?_
    refine wpR_batch [false, false, false, false, false, false, false, false, false, false, false, true, true, true, true, true] (by decide +kernel) (by repeat (first | exact PF.body | exact PF.round | apply PF.then | apply PF.inBlock | apply PF.jump)) ?_
    refine LtK.skip rfl rfl rfl ?_
    refine LtK.put rfl rfl rfl (yv_pick_t rfl rfl rfl) ?_
    refine LtK.put rfl rfl rfl (yv_move rfl) ?_
    refine LtK.skip rfl rfl rfl ?_
    refine LtK.skip rfl rfl rfl ?_
    refine LtK.nil ?_
    refine wpR_call [false, false, false, false, false, false, false, false, false, false, false, false, false, false, false, false, true] 16 ⟨by decide, by kernel_rfl, by kernel_rfl⟩ rfl rfl ?_
    dsimp only [pickL]
    refine wpS_skip rfl rfl rfl ?_
    refine wpS_nil ?_
    refine QH_step (Below.refl _ _) ?_
    refine wpR_batch [false, false, false, false, false, false, false, false, false, false, false, false, false, false, false, false, false, true, true, true, true, true, false, true] (by decide +kernel) (by repeat (first | exact PF.body | exact PF.round | apply PF.then | apply PF.inBlock | apply PF.jump)) ?_
    refine LtK.skip rfl rfl rfl ?_
    refine LtK.put rfl rfl rfl (yv_pick_t rfl rfl rfl) ?_
    refine LtK.put rfl rfl rfl (yv_move rfl) ?_
    refine LtK.skip rfl rfl rfl ?_
    refine LtK.skip rfl rfl rfl ?_
    refine LtK.skip rfl rfl rfl ?_
    refine LtK.nil ?_
    refine wpR_call [false, false, false, false, false, false, false, false, false, false, false, false, false, false, false, false, false, false, false, false, false, false, true] 22 ⟨by decide, by kernel_rfl, by kernel_rfl⟩ rfl rfl ?_
    dsimp only [pickL]
    refine wpS_skip rfl rfl rfl ?_
    refine wpS_nil ?_
    refine QH_step (Below.refl _ _) ?_
    refine wpR_call [false, false, false, false, false, false, false, false, false, false, false, false, false, false, false, false, false, false, false, false, false, false, false, false, true] 24 ⟨by decide, by kernel_rfl, by kernel_rfl⟩ rfl rfl ?_
    dsimp only [pickL]
    refine wpS_skip rfl rfl rfl ?_
    refine wpS_nil ?_
    refine QH_step (Below.refl _ _) ?_
    refine wpR_batch [false, false, false, false, false, false, false, false, false, false, false, false, false, false, false, false, false, false, false, false, false, false, false, false, false, true, true, true, true, false, true] (by decide +kernel) (by repeat (first | exact PF.body | exact PF.round | apply PF.then | apply PF.inBlock | apply PF.jump)) ?_
    refine LtK.skip rfl rfl rfl ?_
    refine LtK.put rfl rfl rfl (yv_pick_t rfl rfl rfl) ?_
    refine LtK.put rfl rfl rfl (yv_move rfl) ?_
    refine LtK.skip rfl rfl rfl ?_
    refine LtK.skip rfl rfl rfl ?_
    refine LtK.nil ?_
    refine wpR_call [false, false, false, false, false, false, false, false, false, false, false, false, false, false, false, false, false, false, false, false, false, false, false, false, false, false, false, false, false, true] 29 ⟨by decide, by kernel_rfl, by kernel_rfl⟩ rfl rfl ?_
    dsimp only [pickL]
    refine wpS_skip rfl rfl rfl ?_
    refine wpS_nil ?_
    refine QH_step (Below.refl _ _) ?_
    refine wpR_call [false, false, false, false, false, false, false, false, false, false, false, false, false, false, false, false, false, false, false, false, false, false, false, false, false, false, false, false, false, false, false, true] 31 ⟨by decide, by kernel_rfl, by kernel_rfl⟩ rfl rfl ?_
    dsimp only [pickL]
    refine wpS_skip rfl rfl rfl ?_
    refine wpS_nil ?_
    refine QH_step (Below.refl _ _) ?_
    refine wpR_batch [false, false, false, false, false, false, false, false, false, false, false, false, false, false, false, false, false, false, false, false, false, false, false, false, false, false, false, false, false, false, false, false, true, true] (by decide +kernel) (by repeat (first | exact PF.body | exact PF.round | apply PF.then | apply PF.inBlock | apply PF.jump)) ?_
    refine LtK.skip rfl rfl rfl ?_
    refine LtK.put rfl rfl rfl (yv_pick_t rfl rfl rfl) ?_
    refine LtK.nil ?_
    refine wpR_end (by kernel_rfl) ?_
    refine QH_seq_k hK124 ?_
    refine wpC_cond_t rfl rfl ?_
    refine wpC_seq_k (fun K hK130 => ?_)
    refine wpC_region ?_
    refine wpS_quick 1 rfl ?_
    refine wpS_nil ?_
    refine QH_seq_k hK130 ?_
    refine wpC_ret ?_
    refine QH_then_ret ?_
    refine QH_ret rfl (RV.tmp rfl RV.nil) rfl ?_
    obtain rfl := Option.some.inj H
    replace hS := hS.cut 0
    exact ⟨rfl, hS⟩
  replace H := cond_f H hb
  refine wpR_batch [false, false, false, false, false, false, false, false, false, true] (by decide +kernel) (by repeat (first | exact PF.body | exact PF.round | apply PF.then | apply PF.inBlock | apply PF.jump)) ?_
  refine LtK.put rfl rfl rfl (yv_load_boxA ag_32 rfl (RW.below _) hS hs0 trivial sg0_22) ?_
  refine LtK.nil ?_
  refine wpR_call [false, false, false, false, false, false, false, false, false, false, true] 10 ⟨by decide, by kernel_rfl, by kernel_rfl⟩ rfl rfl ?_
  dsimp only [pickL]
  obtain ⟨r131, hm132, H⟩ := bind_some H
  refine wpS_call rfl rfl rfl rfl (by kernel_rfl) rfl (c_ref20_Right r94 A96 c97 A100 c101 A104 c105 A108 c109 A112 c113 _ (SlI.of_rd k98 (hS.row_rd hs1) (hS.row_blk hs1)) (SlI.of_rd k102 (hS.row_rd hs2) (hS.row_blk hs2)) (SlI.of_rd k106 (hS.row_rd hs3) (hS.row_blk hs3)) (SlI.of_rd k110 (hS.row_rd hs4) (hS.row_blk hs4)) (SlI.of_rd k114 (hS.row_rd hs5) (hS.row_blk hs5)) hm132) ?_
  rintro e w ⟨rfl, hN⟩; refine ⟨_, rfl, ?_⟩; have hB := hN.pure; have hS := hS.join hN; clear hN
  refine wpS_nil ?_
  refine QH_step hB ?_
  refine wpR_batch [false, false, false, false, false, false, false, false, false, false, false, true, true, true] (by decide +kernel) (by repeat (first | exact PF.body | exact PF.round | apply PF.then | apply PF.inBlock | apply PF.jump)) ?_
  refine LtK.put rfl rfl rfl (yv_not rfl) ?_
  refine LtK.put rfl rfl rfl (yv_pick_f rfl rfl rfl) ?_
  refine LtK.put rfl rfl rfl (yv_move rfl) ?_
  refine LtK.nil ?_
  refine wpR_case 67 rfl (fun hb => ?_) (fun hb => ?_)
  · replace H := cond_t H hb
    refine wpR_batch [false, false, false, false, false, false, false, false, false, false, false, false, false, false, true, true] (by decide +kernel) (by repeat (first | exact PF.body | exact PF.round | apply PF.then | apply PF.inBlock | apply PF.jump)) ?_
    refine LtK.skip rfl rfl rfl ?_
    refine LtK.skip rfl rfl rfl ?_
    refine LtK.nil ?_
    refine wpR_call [false, false, false, false, false, false, false, false, false, false, false, false, false, false, false, false, true] 16 ⟨by decide, by kernel_rfl, by kernel_rfl⟩ rfl rfl ?_
    dsimp only [pickL]
    refine wpS_skip rfl rfl rfl ?_
    refine wpS_nil ?_
    refine QH_step (Below.refl _ _) ?_
    refine wpR_batch [false, false, false, false, false, false, false, false, false, false, false, false, false, false, false, false, false, true, true, true, true, true, false, true] (by decide +kernel) (by repeat (first | exact PF.body | exact PF.round | apply PF.then | apply PF.inBlock | apply PF.jump)) ?_
    refine LtK.skip rfl rfl rfl ?_
    refine LtK.put rfl rfl rfl (yv_pick_t rfl rfl rfl) ?_
    refine LtK.put rfl rfl rfl (yv_move rfl) ?_
    refine LtK.skip rfl rfl rfl ?_
    refine LtK.skip rfl rfl rfl ?_
    refine LtK.skip rfl rfl rfl ?_
    refine LtK.nil ?_
    refine wpR_call [false, false, false, false, false, false, false, false, false, false, false, false, false, false, false, false, false, false, false, false, false, false, true] 22 ⟨by decide, by kernel_rfl, by kernel_rfl⟩ rfl rfl ?_
    dsimp only [pickL]
    refine wpS_skip rfl rfl rfl ?_
    refine wpS_nil ?_
    refine QH_step (Below.refl _ _) ?_
    refine wpR_call [false, false, false, false, false, false, false, false, false, false, false, false, false, false, false, false, false, false, false, false, false, false, false, false, true] 24 ⟨by decide, by kernel_rfl, by kernel_rfl⟩ rfl rfl ?_
    dsimp only [pickL]
    refine wpS_skip rfl rfl rfl ?_
    refine wpS_nil ?_
    refine QH_step (Below.refl _ _) ?_
    refine wpR_batch [false, false, false, false, false, false, false, false, false, false, false, false, false, false, false, false, false, false, false, false, false, false, false, false, false, true, true, true, true, false, true] (by decide +kernel) (by repeat (first | exact PF.body | exact PF.round | apply PF.then | apply PF.inBlock | apply PF.jump)) ?_
    refine LtK.skip rfl rfl rfl ?_
    refine LtK.put rfl rfl rfl (yv_pick_t rfl rfl rfl) ?_
    refine LtK.put rfl rfl rfl (yv_move rfl) ?_
    refine LtK.skip rfl rfl rfl ?_
    refine LtK.skip rfl rfl rfl ?_
    refine LtK.nil ?_
    refine wpR_call [false, false, false, false, false, false, false, false, false, false, false, false, false, false, false, false, false, false, false, false, false, false, false, false, false, false, false, false, false, true] 29 ⟨by decide, by kernel_rfl, by kernel_rfl⟩ rfl rfl ?_
    dsimp only [pickL]
    refine wpS_skip rfl rfl rfl ?_
    refine wpS_nil ?_
    refine QH_step (Below.refl _ _) ?_
    refine wpR_call [false, false, false, false, false, false, false, false, false, false, false, false, false, false, false, false, false, false, false, false, false, false, false, false, false, false, false, false, false, false, false, true] 31 ⟨by decide, by kernel_rfl, by kernel_rfl⟩ rfl rfl ?_
    dsimp only [pickL]
    refine wpS_skip rfl rfl rfl ?_
    refine wpS_nil ?_
    refine QH_step (Below.refl _ _) ?_
    refine wpR_batch [false, false, false, false, false, false, false, false, false, false, false, false, false, false, false, false, false, false, false, false, false, false, false, false, false, false, false, false, false, false, false, false, true, true] (by decide +kernel) (by repeat (first | exact PF.body | exact PF.round | apply PF.then | apply PF.inBlock | apply PF.jump)) ?_
    refine LtK.skip rfl rfl rfl ?_
    refine LtK.put rfl rfl rfl (yv_pick_t rfl rfl rfl) ?_
    refine LtK.nil ?_
    refine wpR_end (by kernel_rfl) ?_
    refine QH_seq_k hK124 ?_
    refine wpC_cond_t rfl rfl ?_
    refine wpC_seq_k (fun K hK133 => ?_)
    refine wpC_region ?_
    refine wpS_quick 1 rfl ?_
    refine wpS_nil ?_
    refine QH_seq_k hK133 ?_
    refine wpC_ret ?_
    refine QH_then_ret ?_
    refine QH_ret rfl (RV.tmp rfl RV.nil) rfl ?_
    obtain rfl := Option.some.inj H
    replace hS := hS.cut 0
    exact ⟨rfl, hS⟩
  replace H := cond_f H hb
  refine wpR_batch [false, false, false, false, false, false, false, false, false, false, false, false, false, false, true, true] (by decide +kernel) (by repeat (first | exact PF.body | exact PF.round | apply PF.then | apply PF.inBlock | apply PF.jump)) ?_
  refine LtK.put rfl rfl rfl (yv_load_boxA ag_32 rfl (RW.below _) hS hs25 trivial sg0_22) ?_
  refine LtK.put rfl rfl rfl (yv_load_boxA ag_32 rfl (RW.below _) hS hs18 trivial sg0_22) ?_
  refine LtK.nil ?_
  refine wpR_call [false, false, false, false, false, false, false, false, false, false, false, false, false, false, false, false, true] 16 ⟨by decide, by kernel_rfl, by kernel_rfl⟩ rfl rfl ?_
  dsimp only [pickL]
  obtain ⟨r134, hm135, H⟩ := bind_some H
  refine wpS_call rfl rfl rfl rfl (by kernel_rfl) rfl (c_ref20_Same x0 r19 A0_ c0_ A1_ c1_ A2_ c2_ A3_ c3_ A4_ c4_ A21 c22 A25 c26 A29 c30 A33 c34 A37 c38 _ (SlI.of_rd s0_.k (hS.rd0 s0_.rd) (hS.blk0 s0_.blk)) (SlI.of_rd s1_.k (hS.rd0 s1_.rd) (hS.blk0 s1_.blk)) (SlI.of_rd s2_.k (hS.rd0 s2_.rd) (hS.blk0 s2_.blk)) (SlI.of_rd s3_.k (hS.rd0 s3_.rd) (hS.blk0 s3_.blk)) (SlI.of_rd s4_.k (hS.rd0 s4_.rd) (hS.blk0 s4_.blk)) (SlI.of_rd k23 (hS.row_rd hs19) (hS.row_blk hs19)) (SlI.of_rd k27 (hS.row_rd hs20) (hS.row_blk hs20)) (SlI.of_rd k31 (hS.row_rd hs21) (hS.row_blk hs21)) (SlI.of_rd k35 (hS.row_rd hs22) (hS.row_blk hs22)) (SlI.of_rd k39 (hS.row_rd hs23) (hS.row_blk hs23)) hm135) ?_
  rintro e w ⟨rfl, hN⟩; refine ⟨_, rfl, ?_⟩; have hB := hN.pure; have hS := hS.join hN; clear hN
  refine wpS_nil ?_
  refine QH_step hB ?_
  refine wpR_batch [false, false, false, false, false, false, false, false, false, false, false, false, false, false, false, false, false, true, true, true] (by decide +kernel) (by repeat (first | exact PF.body | exact PF.round | apply PF.then | apply PF.inBlock | apply PF.jump)) ?_
  refine LtK.put rfl rfl rfl (yv_not rfl) ?_
  refine LtK.put rfl rfl rfl (yv_pick_f rfl rfl rfl) ?_
  refine LtK.put rfl rfl rfl (yv_move rfl) ?_
  refine LtK.nil ?_
  refine wpR_case 73 rfl (fun hb => ?_) (fun hb => ?_)
  · replace H := cond_t H hb
    refine wpR_batch [false, false, false, false, false, false, false, false, false, false, false, false, false, false, false, false, false, false, false, false, true, true, false, true] (by decide +kernel) (by repeat (first | exact PF.body | exact PF.round | apply PF.then | apply PF.inBlock | apply PF.jump)) ?_
    refine LtK.skip rfl rfl rfl ?_
    refine LtK.skip rfl rfl rfl ?_
    refine LtK.skip rfl rfl rfl ?_
    refine LtK.nil ?_
    refine wpR_call [false, false, false, false, false, false, false, false, false, false, false, false, false, false, false, false, false, false, false, false, false, false, true] 22 ⟨by decide, by kernel_rfl, by kernel_rfl⟩ rfl rfl ?_
    dsimp only [pickL]
    refine wpS_skip rfl rfl rfl ?_
    refine wpS_nil ?_
    refine QH_step (Below.refl _ _) ?_
    refine wpR_call [false, false, false, false, false, false, false, false, false, false, false, false, false, false, false, false, false, false, false, false, false, false, false, false, true] 24 ⟨by decide, by kernel_rfl, by kernel_rfl⟩ rfl rfl ?_
    dsimp only [pickL]
    refine wpS_skip rfl rfl rfl ?_
    refine wpS_nil ?_
    refine QH_step (Below.refl _ _) ?_
    refine wpR_batch [false, false, false, false, false, false, false, false, false, false, false, false, false, false, false, false, false, false, false, false, false, false, false, false, false, true, true, true, true, false, true] (by decide +kernel) (by repeat (first | exact PF.body | exact PF.round | apply PF.then | apply PF.inBlock | apply PF.jump)) ?_
    refine LtK.skip rfl rfl rfl ?_
    refine LtK.put rfl rfl rfl (yv_pick_t rfl rfl rfl) ?_
    refine LtK.put rfl rfl rfl (yv_move rfl) ?_
    refine LtK.skip rfl rfl rfl ?_
    refine LtK.skip rfl rfl rfl ?_
    refine LtK.nil ?_
    refine wpR_call [false, false, false, false, false, false, false, false, false, false, false, false, false, false, false, false, false, false, false, false, false, false, false, false, false, false, false, false, false, true] 29 ⟨by decide, by kernel_rfl, by kernel_rfl⟩ rfl rfl ?_
    dsimp only [pickL]
    refine wpS_skip rfl rfl rfl ?_
    refine wpS_nil ?_
    refine QH_step (Below.refl _ _) ?_
    refine wpR_call [false, false, false, false, false, false, false, false, false, false, false, false, false, false, false, false, false, false, false, false, false, false, false, false, false, false, false, false, false, false, false, true] 31 ⟨by decide, by kernel_rfl, by kernel_rfl⟩ rfl rfl ?_
    dsimp only [pickL]
    refine wpS_skip rfl rfl rfl ?_
    refine wpS_nil ?_
    refine QH_step (Below.refl _ _) ?_
    refine wpR_batch [false, false, false, false, false, false, false, false, false, false, false, false, false, false, false, false, false, false, false, false, false, false, false, false, false, false, false, false, false, false, false, false, true, true] (by decide +kernel) (by repeat (first | exact PF.body | exact PF.round | apply PF.then | apply PF.inBlock | apply PF.jump)) ?_
    refine LtK.skip rfl rfl rfl ?_
    refine LtK.put rfl rfl rfl (yv_pick_t rfl rfl rfl) ?_
    refine LtK.nil ?_
    refine wpR_end (by kernel_rfl) ?_
    refine QH_seq_k hK124 ?_
    refine wpC_cond_t rfl rfl ?_
    refine wpC_seq_k (fun K hK136 => ?_)
    refine wpC_region ?_
    refine wpS_quick 1 rfl ?_
    refine wpS_nil ?_
    refine QH_seq_k hK136 ?_
    refine wpC_ret ?_
    refine QH_then_ret ?_
    refine QH_ret rfl (RV.tmp rfl RV.nil) rfl ?_
    obtain rfl := Option.some.inj H
    replace hS := hS.cut 0
    exact ⟨rfl, hS⟩
  replace H := cond_f H hb
  refine wpR_batch [false, false, false, false, false, false, false, false, false, false, false, false, false, false, false, false, false, false, false, false, true, true, false, true] (by decide +kernel) (by repeat (first | exact PF.body | exact PF.round | apply PF.then | apply PF.inBlock | apply PF.jump)) ?_
  refine LtK.put rfl rfl rfl (yv_load_boxA ag_32 rfl (RW.below _) hS hs12 trivial sg0_22) ?_
  refine LtK.put rfl rfl rfl (yv_load_boxA ag_39 rfl (RW.below _) hS hs24 trivial sg0_15) ?_
  refine LtK.put rfl rfl rfl (yv_load_boxA ag_32 rfl (RW.below _) hS hs12 trivial sg0_22) ?_
  refine LtK.nil ?_
  refine wpR_call [false, false, false, false, false, false, false, false, false, false, false, false, false, false, false, false, false, false, false, false, false, false, true] 22 ⟨by decide, by kernel_rfl, by kernel_rfl⟩ rfl rfl ?_
  dsimp only [pickL]
  obtain ⟨r137, hm138, H⟩ := bind_some H
  refine wpS_call rfl rfl rfl rfl (by kernel_rfl) rfl (c_advert_Hear r44 x1 A46 c47 A50 c51 A54 c55 A58 c59 A62 c63 A5_ c5_ _ (SlI.of_rd k48 (hS.row_rd hs13) (hS.row_blk hs13)) (SlI.of_rd k52 (hS.row_rd hs14) (hS.row_blk hs14)) (SlI.of_rd k56 (hS.row_rd hs15) (hS.row_blk hs15)) (SlI.of_rd k60 (hS.row_rd hs16) (hS.row_blk hs16)) (SlI.of_rd k64 (hS.row_rd hs17) (hS.row_blk hs17)) (SlI.of_rd s5_.k (hS.rd0 s5_.rd) (hS.blk0 s5_.blk)) hm138) ?_
  rintro e w ⟨A139, c140, A143, c144, A147, c148, A151, c152, A155, c156, rfl, k141, k145, k149, k153, k157, hN⟩; refine ⟨_, rfl, ?_⟩; have hB := hN.pure; have hS := hS.join hN; clear hN
  refine wpS_nil ?_
  refine QH_step hB ?_
  refine wpR_call [false, false, false, false, false, false, false, false, false, false, false, false, false, false, false, false, false, false, false, false, false, false, false, false, true] 24 ⟨by decide, by kernel_rfl, by kernel_rfl⟩ rfl rfl ?_
  dsimp only [pickL]
  obtain ⟨r159, hm160, H⟩ := bind_some H
  refine wpS_call rfl rfl rfl rfl (by kernel_rfl) rfl (c_ref20_Same r137 r44 A139 c140 A143 c144 A147 c148 A151 c152 A155 c156 A46 c47 A50 c51 A54 c55 A58 c59 A62 c63 _ (SlI.of_rd k141 (hS.row_rd hs0) (hS.row_blk hs0)) (SlI.of_rd k145 (hS.row_rd hs1) (hS.row_blk hs1)) (SlI.of_rd k149 (hS.row_rd hs2) (hS.row_blk hs2)) (SlI.of_rd k153 (hS.row_rd hs3) (hS.row_blk hs3)) (SlI.of_rd k157 (hS.row_rd hs4) (hS.row_blk hs4)) (SlI.of_rd k48 (hS.row_rd hs18) (hS.row_blk hs18)) (SlI.of_rd k52 (hS.row_rd hs19) (hS.row_blk hs19)) (SlI.of_rd k56 (hS.row_rd hs20) (hS.row_blk hs20)) (SlI.of_rd k60 (hS.row_rd hs21) (hS.row_blk hs21)) (SlI.of_rd k64 (hS.row_rd hs22) (hS.row_blk hs22)) hm160) ?_
  rintro e w ⟨rfl, hN⟩; refine ⟨_, rfl, ?_⟩; have hB := hN.pure; have hS := hS.join hN; clear hN
  refine wpS_nil ?_
  refine QH_step hB ?_
  refine wpR_batch [false, false, false, false, false, false, false, false, false, false, false, false, false, false, false, false, false, false, false, false, false, false, false, false, false, true, true, true] (by decide +kernel) (by repeat (first | exact PF.body | exact PF.round | apply PF.then | apply PF.inBlock | apply PF.jump)) ?_
  refine LtK.put rfl rfl rfl (yv_not rfl) ?_
  refine LtK.put rfl rfl rfl (yv_pick_f rfl rfl rfl) ?_
  refine LtK.put rfl rfl rfl (yv_move rfl) ?_
  refine LtK.nil ?_
  refine wpR_case 81 rfl (fun hb => ?_) (fun hb => ?_)
  · replace H := cond_t H hb
    refine wpR_batch [false, false, false, false, false, false, false, false, false, false, false, false, false, false, false, false, false, false, false, false, false, false, false, false, false, false, false, false, true, false, true] (by decide +kernel) (by repeat (first | exact PF.body | exact PF.round | apply PF.then | apply PF.inBlock | apply PF.jump)) ?_
    refine LtK.skip rfl rfl rfl ?_
    refine LtK.skip rfl rfl rfl ?_
    refine LtK.nil ?_
    refine wpR_call [false, false, false, false, false, false, false, false, false, false, false, false, false, false, false, false, false, false, false, false, false, false, false, false, false, false, false, false, false, true] 29 ⟨by decide, by kernel_rfl, by kernel_rfl⟩ rfl rfl ?_
    dsimp only [pickL]
    refine wpS_skip rfl rfl rfl ?_
    refine wpS_nil ?_
    refine QH_step (Below.refl _ _) ?_
    refine wpR_call [false, false, false, false, false, false, false, false, false, false, false, false, false, false, false, false, false, false, false, false, false, false, false, false, false, false, false, false, false, false, false, true] 31 ⟨by decide, by kernel_rfl, by kernel_rfl⟩ rfl rfl ?_
    dsimp only [pickL]
    refine wpS_skip rfl rfl rfl ?_
    refine wpS_nil ?_
    refine QH_step (Below.refl _ _) ?_
    refine wpR_batch [false, false, false, false, false, false, false, false, false, false, false, false, false, false, false, false, false, false, false, false, false, false, false, false, false, false, false, false, false, false, false, false, true, true] (by decide +kernel) (by repeat (first | exact PF.body | exact PF.round | apply PF.then | apply PF.inBlock | apply PF.jump)) ?_
    refine LtK.skip rfl rfl rfl ?_
    refine LtK.put rfl rfl rfl (yv_pick_t rfl rfl rfl) ?_
    refine LtK.nil ?_
    refine wpR_end (by kernel_rfl) ?_
    refine QH_seq_k hK124 ?_
    refine wpC_cond_t rfl rfl ?_
    refine wpC_seq_k (fun K hK161 => ?_)
    refine wpC_region ?_
    refine wpS_quick 1 rfl ?_
    refine wpS_nil ?_
    refine QH_seq_k hK161 ?_
    refine wpC_ret ?_
    refine QH_then_ret ?_
    refine QH_ret rfl (RV.tmp rfl RV.nil) rfl ?_
    obtain rfl := Option.some.inj H
    replace hS := hS.cut 0
    exact ⟨rfl, hS⟩
  replace H := cond_f H hb
  refine wpR_batch [false, false, false, false, false, false, false, false, false, false, false, false, false, false, false, false, false, false, false, false, false, false, false, false, false, false, false, false, true, false, true] (by decide +kernel) (by repeat (first | exact PF.body | exact PF.round | apply PF.then | apply PF.inBlock | apply PF.jump)) ?_
  refine LtK.put rfl rfl rfl (yv_load_boxA ag_32 rfl (RW.below _) hS hs11 trivial sg0_22) ?_
  refine LtK.put rfl rfl rfl (yv_load_boxA ag_32 rfl (RW.below _) hS hs11 trivial sg0_22) ?_
  refine LtK.nil ?_
  refine wpR_call [false, false, false, false, false, false, false, false, false, false, false, false, false, false, false, false, false, false, false, false, false, false, false, false, false, false, false, false, false, true] 29 ⟨by decide, by kernel_rfl, by kernel_rfl⟩ rfl rfl ?_
  dsimp only [pickL]
  obtain ⟨r162, hm163, H⟩ := bind_some H
  refine wpS_call rfl rfl rfl rfl (by kernel_rfl) rfl (c_advert_Forget r69 A71 c72 A75 c76 A79 c80 A83 c84 A87 c88 _ (SlI.of_rd k73 (hS.row_rd hs12) (hS.row_blk hs12)) (SlI.of_rd k77 (hS.row_rd hs13) (hS.row_blk hs13)) (SlI.of_rd k81 (hS.row_rd hs14) (hS.row_blk hs14)) (SlI.of_rd k85 (hS.row_rd hs15) (hS.row_blk hs15)) (SlI.of_rd k89 (hS.row_rd hs16) (hS.row_blk hs16)) hm163) ?_
  rintro e w ⟨A164, c165, A168, c169, A172, c173, A176, c177, A180, c181, rfl, k166, k170, k174, k178, k182, hN⟩; refine ⟨_, rfl, ?_⟩; have hB := hN.pure; have hS := hS.join hN; clear hN
  refine wpS_nil ?_
  refine QH_step hB ?_
  refine wpR_call [false, false, false, false, false, false, false, false, false, false, false, false, false, false, false, false, false, false, false, false, false, false, false, false, false, false, false, false, false, false, false, true] 31 ⟨by decide, by kernel_rfl, by kernel_rfl⟩ rfl rfl ?_
  dsimp only [pickL]
  obtain ⟨r184, hm185, H⟩ := bind_some H
  refine wpS_call rfl rfl rfl rfl (by kernel_rfl) rfl (c_ref20_Same r162 r69 A164 c165 A168 c169 A172 c173 A176 c177 A180 c181 A71 c72 A75 c76 A79 c80 A83 c84 A87 c88 _ (SlI.of_rd k166 (hS.row_rd hs0) (hS.row_blk hs0)) (SlI.of_rd k170 (hS.row_rd hs1) (hS.row_blk hs1)) (SlI.of_rd k174 (hS.row_rd hs2) (hS.row_blk hs2)) (SlI.of_rd k178 (hS.row_rd hs3) (hS.row_blk hs3)) (SlI.of_rd k182 (hS.row_rd hs4) (hS.row_blk hs4)) (SlI.of_rd k73 (hS.row_rd hs17) (hS.row_blk hs17)) (SlI.of_rd k77 (hS.row_rd hs18) (hS.row_blk hs18)) (SlI.of_rd k81 (hS.row_rd hs19) (hS.row_blk hs19)) (SlI.of_rd k85 (hS.row_rd hs20) (hS.row_blk hs20)) (SlI.of_rd k89 (hS.row_rd hs21) (hS.row_blk hs21)) hm185) ?_
  rintro e w ⟨rfl, hN⟩; refine ⟨_, rfl, ?_⟩; have hB := hN.pure; have hS := hS.join hN; clear hN
  refine wpS_nil ?_
  refine QH_step hB ?_
  refine wpR_batch [false, false, false, false, false, false, false, false, false, false, false, false, false, false, false, false, false, false, false, false, false, false, false, false, false, false, false, false, false, false, false, false, true, true] (by decide +kernel) (by repeat (first | exact PF.body | exact PF.round | apply PF.then | apply PF.inBlock | apply PF.jump)) ?_
  refine LtK.put rfl rfl rfl (yv_not rfl) ?_
  refine LtK.put rfl rfl rfl (yv_pick_f rfl rfl rfl) ?_
  refine LtK.nil ?_
  refine wpR_end (by kernel_rfl) ?_
  refine QH_seq_k hK124 ?_
  refine wpC_cond rfl (fun hb => ?_) (fun hb => ?_)
  · replace H := cond_t H hb
    refine wpC_seq_k (fun K hK186 => ?_)
    refine wpC_region ?_
    refine wpS_quick 1 rfl ?_
    refine wpS_nil ?_
    refine QH_seq_k hK186 ?_
    refine wpC_ret ?_
    refine QH_then_ret ?_
    refine QH_ret rfl (RV.tmp rfl RV.nil) rfl ?_
    obtain rfl := Option.some.inj H
    replace hS := hS.cut 0
    exact ⟨rfl, hS⟩
  replace H := cond_f H hb
  refine wpC_skip ?_
  refine QH_seq_k hK123 ?_
  refine wpC_seq_k (fun K hK187 => ?_)
  refine wpC_seq_k (fun K hK188 => ?_)
  refine wpC_region ?_
  refine wpS_quick 1 rfl ?_
  refine wpS_nil ?_
  refine QH_seq_k hK188 ?_
  refine wpC_block ?_
  refine wpC_loop (X := Nat × Bool × Int) (fun x => (3, .pointer (some ⟨b2, 0, none⟩)) :: (4, .pointer (some ⟨b4, 0, none⟩)) :: (6, .bool x.2.1) :: (8, .pointer (some ⟨b66, 0, none⟩)) :: (9, .pointer (some ⟨b91, 0, none⟩)) :: (10, .pointer (some ⟨b116, 0, none⟩)) :: (11, .int .i64 x.2.2) :: []) (fun x w => St0 All w0 w (.row (.slice A164 r162.tuple.log.length c165) 47 3 r162.tuple.log.length (encs enE r162.tuple.log) :: .row (.slice A168 r162.votes.length c169) 4 1 r162.votes.length (encs enO r162.votes) :: .row (.slice A172 r162.next.length c173) 3 1 r162.next.length (encs enI r162.next) :: .row (.slice A176 r162.mtch.length c177) 3 1 r162.mtch.length (encs enI r162.mtch) :: .row (.slice A180 r162.caps.length c181) 3 1 r162.caps.length (encs enI r162.caps) :: .row (.slice A139 r137.tuple.log.length c140) 47 3 r137.tuple.log.length (encs enE r137.tuple.log) :: .row (.slice A143 r137.votes.length c144) 4 1 r137.votes.length (encs enO r137.votes) :: .row (.slice A147 r137.next.length c148) 3 1 r137.next.length (encs enI r137.next) :: .row (.slice A151 r137.mtch.length c152) 3 1 r137.mtch.length (encs enI r137.mtch) :: .row (.slice A155 r137.caps.length c156) 3 1 r137.caps.length (encs enI r137.caps) :: .box b116 [.int .i64 r94.id, .int .i64 r94.n, .int .u8 r94.role, .int .i64 r94.binary, .int .i64 r94.tuple.snap.index, .int .i64 r94.tuple.snap.term, .int .i64 r94.tuple.snap.sum, .int .i64 r94.tuple.snap.level, .bool r94.tuple.snap.final, .slice A96 r94.tuple.log.length c97, .int .i64 r94.tuple.term, .int .i64 r94.tuple.vote, .int .i64 r94.commit, .int .i64 r94.applied.index, .int .i64 r94.applied.term, .int .i64 r94.applied.sum, .int .i64 r94.applied.level, .bool r94.applied.final, .slice A100 r94.votes.length c101, .slice A104 r94.next.length c105, .slice A108 r94.mtch.length c109, .slice A112 r94.caps.length c113] 32 :: .row (.slice A96 r94.tuple.log.length c97) 47 3 r94.tuple.log.length (encs enE r94.tuple.log) :: .row (.slice A100 r94.votes.length c101) 4 1 r94.votes.length (encs enO r94.votes) :: .row (.slice A104 r94.next.length c105) 3 1 r94.next.length (encs enI r94.next) :: .row (.slice A108 r94.mtch.length c109) 3 1 r94.mtch.length (encs enI r94.mtch) :: .row (.slice A112 r94.caps.length c113) 3 1 r94.caps.length (encs enI r94.caps) :: .box b91 [.int .i64 r69.id, .int .i64 r69.n, .int .u8 r69.role, .int .i64 r69.binary, .int .i64 r69.tuple.snap.index, .int .i64 r69.tuple.snap.term, .int .i64 r69.tuple.snap.sum, .int .i64 r69.tuple.snap.level, .bool r69.tuple.snap.final, .slice A71 r69.tuple.log.length c72, .int .i64 r69.tuple.term, .int .i64 r69.tuple.vote, .int .i64 r69.commit, .int .i64 r69.applied.index, .int .i64 r69.applied.term, .int .i64 r69.applied.sum, .int .i64 r69.applied.level, .bool r69.applied.final, .slice A75 r69.votes.length c76, .slice A79 r69.next.length c80, .slice A83 r69.mtch.length c84, .slice A87 r69.caps.length c88] 32 :: .row (.slice A71 r69.tuple.log.length c72) 47 3 r69.tuple.log.length (encs enE r69.tuple.log) :: .row (.slice A75 r69.votes.length c76) 4 1 r69.votes.length (encs enO r69.votes) :: .row (.slice A79 r69.next.length c80) 3 1 r69.next.length (encs enI r69.next) :: .row (.slice A83 r69.mtch.length c84) 3 1 r69.mtch.length (encs enI r69.mtch) :: .row (.slice A87 r69.caps.length c88) 3 1 r69.caps.length (encs enI r69.caps) :: .box b66 [.int .i64 r44.id, .int .i64 r44.n, .int .u8 r44.role, .int .i64 r44.binary, .int .i64 r44.tuple.snap.index, .int .i64 r44.tuple.snap.term, .int .i64 r44.tuple.snap.sum, .int .i64 r44.tuple.snap.level, .bool r44.tuple.snap.final, .slice A46 r44.tuple.log.length c47, .int .i64 r44.tuple.term, .int .i64 r44.tuple.vote, .int .i64 r44.commit, .int .i64 r44.applied.index, .int .i64 r44.applied.term, .int .i64 r44.applied.sum, .int .i64 r44.applied.level, .bool r44.applied.final, .slice A50 r44.votes.length c51, .slice A54 r44.next.length c55, .slice A58 r44.mtch.length c59, .slice A62 r44.caps.length c63] 32 :: .row (.slice A46 r44.tuple.log.length c47) 47 3 r44.tuple.log.length (encs enE r44.tuple.log) :: .row (.slice A50 r44.votes.length c51) 4 1 r44.votes.length (encs enO r44.votes) :: .row (.slice A54 r44.next.length c55) 3 1 r44.next.length (encs enI r44.next) :: .row (.slice A58 r44.mtch.length c59) 3 1 r44.mtch.length (encs enI r44.mtch) :: .row (.slice A62 r44.caps.length c63) 3 1 r44.caps.length (encs enI r44.caps) :: .box b41 [.int .i64 r19.id, .int .i64 r19.n, .int .u8 r19.role, .int .i64 r19.binary, .int .i64 r19.tuple.snap.index, .int .i64 r19.tuple.snap.term, .int .i64 r19.tuple.snap.sum, .int .i64 r19.tuple.snap.level, .bool r19.tuple.snap.final, .slice A21 r19.tuple.log.length c22, .int .i64 r19.tuple.term, .int .i64 r19.tuple.vote, .int .i64 r19.commit, .int .i64 r19.applied.index, .int .i64 r19.applied.term, .int .i64 r19.applied.sum, .int .i64 r19.applied.level, .bool r19.applied.final, .slice A25 r19.votes.length c26, .slice A29 r19.next.length c30, .slice A33 r19.mtch.length c34, .slice A37 r19.caps.length c38] 32 :: .row (.slice A21 r19.tuple.log.length c22) 47 3 r19.tuple.log.length (encs enE r19.tuple.log) :: .row (.slice A25 r19.votes.length c26) 4 1 r19.votes.length (encs enO r19.votes) :: .row (.slice A29 r19.next.length c30) 3 1 r19.next.length (encs enI r19.next) :: .row (.slice A33 r19.mtch.length c34) 3 1 r19.mtch.length (encs enI r19.mtch) :: .row (.slice A37 r19.caps.length c38) 3 1 r19.caps.length (encs enI r19.caps) :: .box b4 [.int .u8 x1.kind, .int .i64 x1.frm, .int .i64 x1.dst, .int .i64 x1.term, .int .i64 x1.cap, .int .i64 x1.last, .int .i64 x1.lastTerm, .int .i64 x1.commit, .bool x1.okk, .slice A5_ x1.entries.length c5_, .int .i64 x1.snap.index, .int .i64 x1.snap.term, .int .i64 x1.snap.sum, .int .i64 x1.snap.level, .bool x1.snap.final] 39 :: .box b2 [.int .i64 x0.id, .int .i64 x0.n, .int .u8 x0.role, .int .i64 x0.binary, .int .i64 x0.tuple.snap.index, .int .i64 x0.tuple.snap.term, .int .i64 x0.tuple.snap.sum, .int .i64 x0.tuple.snap.level, .bool x0.tuple.snap.final, .slice A0_ x0.tuple.log.length c0_, .int .i64 x0.tuple.term, .int .i64 x0.tuple.vote, .int .i64 x0.commit, .int .i64 x0.applied.index, .int .i64 x0.applied.term, .int .i64 x0.applied.sum, .int .i64 x0.applied.level, .bool x0.applied.final, .slice A1_ x0.votes.length c1_, .slice A2_ x0.next.length c2_, .slice A3_ x0.mtch.length c3_, .slice A4_ x0.caps.length c4_] 32 :: []) ∧ m_law21_AdvertRight_l1 x0 x1 r44 r69 r94 x.1 x.2.1 x.2.2 = some r) (fun x => x.1) (fuelN, false, 0) (by repeat (first | exact Sub.nil | refine Sub.cons rfl ?_)) ⟨hS, H⟩ ?_
  rintro ⟨n, v189, v190⟩ w ⟨hS, H⟩
  dsimp only at hS H ⊢
  obtain _ | n := n
  · have H0 : none = some r := H
    cases H0
  rw [m_law21_AdvertRight_l1] at H
  refine wpC_seq_k (fun K hK191 => ?_)
  refine wpC_seq_k (fun K hK192 => ?_)
  refine wpC_region ?_
  refine wpS_quick 1 rfl ?_
  refine wpS_put rfl rfl rfl (yv_fieldAddr fo_32_1 rfl) ?_
  refine wpS_put rfl rfl rfl (yv_load_box sc_3 rfl (RW.here _) hS hs35 trivial sg1_1) ?_
  refine wpS_put rfl rfl rfl (yv_lss rfl rfl) ?_
  refine wpS_nil ?_
  refine QH_seq_k hK192 ?_
  refine wpC_cond rfl (fun hb => ?_) (fun hb => ?_)
  rotate_left
  · replace H := cond_f H hb
    refine wpC_exit ?_
    refine QH_then_exit ?_
    refine QH_then_exit ?_
    refine QH_block_hit ?_
    refine QH_seq_k hK187 ?_
    refine wpC_seq_k (fun K hK286 => ?_)
    refine wpC_draw 8 [5, 7] (fun i b => (i = 5 → b ≠ b66) ∧ (i = 7 → b ≠ b91)) ⟨by kernel_rfl, by kernel_rfl⟩ hS (fun w hS hB => ?_)
    refine wpR_batch [true, true, false, false, true] (by decide +kernel) (by repeat (first | exact PF.body | exact PF.round | apply PF.then | apply PF.inBlock | apply PF.jump)) ?_
    refine LtK.put rfl rfl rfl (yv_fieldAddr fo_32_10 rfl) ?_
    refine LtK.put rfl rfl rfl (yv_load_box sc_30 rfl (RW.below _) hS hs35 trivial sg21_1) ?_
    refine LtK.put rfl rfl rfl (yv_fieldAddr fo_32_10 rfl) ?_
    refine LtK.nil ?_
    refine wpR_batchG [false, false, true, true] [5] (fun b => b ≠ b66) (by decide +kernel) (by intro j hj b hb; simp only [List.mem_cons, List.not_mem_nil, or_false] at hj; (try rcases hj with rfl | rfl | rfl | rfl | rfl) <;> simp_all) (by repeat (first | exact PF.body | exact PF.round | apply PF.then | apply PF.inBlock | apply PF.jump)) ?_
    refine LtK.put rfl rfl rfl (yv_fieldAddr fo_32_10 rfl) ?_
    refine LtK.put rfl rfl rfl (yv_load_box sc_30 rfl (RW.keepB _ _) hS hs35 (hS.ne 35 22 rfl rfl rfl) sg21_1) ?_
    refine LtK.nil ?_
    refine wpR_seal [false, false, false, false, false, true] 5 ⟨by decide, by kernel_rfl, by kernel_rfl⟩ rfl rfl ?_
    dsimp only [pickL]
    refine wpS_store rfl rfl rfl CellsOf.slice hS ps22 st21_1 (by kernel_rfl) rfl (fun w hS hB => ?_)
    refine wpS_nil ?_
    refine QH_stepG (hB.sub (fun _ _ h => by simpa using h)) ?_
    refine wpR_batch [false, false, false, false, false, false, true] (by decide +kernel) (by repeat (first | exact PF.body | exact PF.round | apply PF.then | apply PF.inBlock | apply PF.jump)) ?_
    refine LtK.put rfl rfl rfl (yv_fieldAddr fo_32_10 rfl) ?_
    refine LtK.nil ?_
    refine wpR_seal [false, false, false, false, false, false, false, true] 7 ⟨by decide, by kernel_rfl, by kernel_rfl⟩ rfl rfl ?_
    dsimp only [pickL]
    refine wpS_store rfl rfl rfl CellsOf.slice hS ps16 st21_1 (by kernel_rfl) rfl (fun w hS hB => ?_)
    refine wpS_nil ?_
    refine QH_stepG (hB.sub (fun _ _ h => by simpa using h)) ?_
    refine wpR_end (by kernel_rfl) ?_
    refine QH_seq_k hK286 ?_
    refine wpC_seq_k (fun K hK287 => ?_)
    refine wpC_draw 8 [5, 7] (fun i b => (i = 5 → b ≠ b116) ∧ (i = 7 → b ≠ b116)) ⟨by kernel_rfl, by kernel_rfl⟩ hS (fun w hS hB => ?_)
    refine wpR_batch [true, true, false, false, true] (by decide +kernel) (by repeat (first | exact PF.body | exact PF.round | apply PF.then | apply PF.inBlock | apply PF.jump)) ?_
    refine LtK.put rfl rfl rfl (yv_fieldAddr fo_32_10 rfl) ?_
    refine LtK.put rfl rfl rfl (yv_load_box sc_30 rfl (RW.below _) hS hs35 trivial sg21_1) ?_
    refine LtK.put rfl rfl rfl (yv_fieldAddr fo_32_10 rfl) ?_
    refine LtK.nil ?_
    refine wpR_batchG [false, false, true, true] [5] (fun b => b ≠ b116) (by decide +kernel) (by intro j hj b hb; simp only [List.mem_cons, List.not_mem_nil, or_false] at hj; (try rcases hj with rfl | rfl | rfl | rfl | rfl) <;> simp_all) (by repeat (first | exact PF.body | exact PF.round | apply PF.then | apply PF.inBlock | apply PF.jump)) ?_
    refine LtK.put rfl rfl rfl (yv_fieldAddr fo_32_3 rfl) ?_
    refine LtK.put rfl rfl rfl (yv_load_box sc_3 rfl (RW.keepB _ _) hS hs35 (hS.ne 35 10 rfl rfl rfl) sg3_1) ?_
    refine LtK.nil ?_
    refine wpR_seal [false, false, false, false, false, true] 5 ⟨by decide, by kernel_rfl, by kernel_rfl⟩ rfl rfl ?_
    dsimp only [pickL]
    refine wpS_store rfl rfl rfl CellsOf.slice hS ps10 st21_1 (by kernel_rfl) rfl (fun w hS hB => ?_)
    refine wpS_nil ?_
    refine QH_stepG (hB.sub (fun _ _ h => by simpa using h)) ?_
    refine wpR_batch [false, false, false, false, false, false, true] (by decide +kernel) (by repeat (first | exact PF.body | exact PF.round | apply PF.then | apply PF.inBlock | apply PF.jump)) ?_
    refine LtK.put rfl rfl rfl (yv_fieldAddr fo_32_3 rfl) ?_
    refine LtK.nil ?_
    refine wpR_seal [false, false, false, false, false, false, false, true] 7 ⟨by decide, by kernel_rfl, by kernel_rfl⟩ rfl rfl ?_
    dsimp only [pickL]
    refine wpS_store rfl rfl rfl CellsOf.int hS ps10 st3_1 (by kernel_rfl) rfl (fun w hS hB => ?_)
    refine wpS_nil ?_
    refine QH_stepG (hB.sub (fun _ _ h => by simpa using h)) ?_
    refine wpR_end (by kernel_rfl) ?_
    refine QH_seq_k hK287 ?_
    refine wpC_seq_k (fun K hK288 => ?_)
    refine wpC_region ?_
    refine wpS_put rfl rfl rfl (yv_load_boxA ag_32 rfl (RW.here _) hS hs22 trivial sg0_22) ?_
    refine wpS_put rfl rfl rfl (yv_load_boxA ag_32 rfl (RW.here _) hS hs35 trivial sg0_22) ?_
    obtain ⟨r289, hm290, H⟩ := bind_some H
    refine wpS_call rfl rfl rfl rfl (by kernel_rfl) rfl (c_ref20_Same (⟨r44.id, r44.n, r44.role, r44.binary, r44.tuple, r44.commit, r44.applied, r44.votes, r44.next, r44.mtch, x0.caps⟩ : Co) x0 A46 c47 A50 c51 A54 c55 A58 c59 A4_ c4_ A0_ c0_ A1_ c1_ A2_ c2_ A3_ c3_ A4_ c4_ _ (SlI.of_rd k48 (hS.row_rd hs23) (hS.row_blk hs23)) (SlI.of_rd k52 (hS.row_rd hs24) (hS.row_blk hs24)) (SlI.of_rd k56 (hS.row_rd hs25) (hS.row_blk hs25)) (SlI.of_rd k60 (hS.row_rd hs26) (hS.row_blk hs26)) (SlI.of_rd s4_.k (hS.rd0 s4_.rd) (hS.blk0 s4_.blk)) (SlI.of_rd s0_.k (hS.rd0 s0_.rd) (hS.blk0 s0_.blk)) (SlI.of_rd s1_.k (hS.rd0 s1_.rd) (hS.blk0 s1_.blk)) (SlI.of_rd s2_.k (hS.rd0 s2_.rd) (hS.blk0 s2_.blk)) (SlI.of_rd s3_.k (hS.rd0 s3_.rd) (hS.blk0 s3_.blk)) (SlI.of_rd s4_.k (hS.rd0 s4_.rd) (hS.blk0 s4_.blk)) hm290) ?_
    rintro e w ⟨rfl, hN⟩; refine ⟨_, rfl, ?_⟩; have hB := hN.pure; have hS := hS.join hN; clear hN
    refine wpS_quick 1 rfl ?_
    refine wpS_case 173 rfl (fun hb => ?_) (fun hb => ?_)
    rotate_left
    · replace H := cond_f H hb
      refine wpS_quick 13 rfl ?_
      refine wpS_nil ?_
      refine QH_seq_k hK288 ?_
      refine wpC_ret ?_
      refine QH_ret rfl (RV.tmp rfl RV.nil) rfl ?_
      obtain rfl := Option.some.inj H
      replace hS := hS.cut 0
      exact ⟨rfl, hS⟩
    replace H := cond_t H hb
    refine wpS_put rfl rfl rfl (yv_load_boxA ag_32 rfl (RW.here _) hS hs16 trivial sg0_22) ?_
    refine wpS_put rfl rfl rfl (yv_load_boxA ag_32 rfl (RW.here _) hS hs35 trivial sg0_22) ?_
    obtain ⟨r291, hm292, H⟩ := bind_some H
    refine wpS_call rfl rfl rfl rfl (by kernel_rfl) rfl (c_ref20_Same (⟨r69.id, r69.n, r69.role, r69.binary, r69.tuple, r69.commit, r69.applied, r69.votes, r69.next, r69.mtch, x0.caps⟩ : Co) x0 A71 c72 A75 c76 A79 c80 A83 c84 A4_ c4_ A0_ c0_ A1_ c1_ A2_ c2_ A3_ c3_ A4_ c4_ _ (SlI.of_rd k73 (hS.row_rd hs17) (hS.row_blk hs17)) (SlI.of_rd k77 (hS.row_rd hs18) (hS.row_blk hs18)) (SlI.of_rd k81 (hS.row_rd hs19) (hS.row_blk hs19)) (SlI.of_rd k85 (hS.row_rd hs20) (hS.row_blk hs20)) (SlI.of_rd s4_.k (hS.rd0 s4_.rd) (hS.blk0 s4_.blk)) (SlI.of_rd s0_.k (hS.rd0 s0_.rd) (hS.blk0 s0_.blk)) (SlI.of_rd s1_.k (hS.rd0 s1_.rd) (hS.blk0 s1_.blk)) (SlI.of_rd s2_.k (hS.rd0 s2_.rd) (hS.blk0 s2_.blk)) (SlI.of_rd s3_.k (hS.rd0 s3_.rd) (hS.blk0 s3_.blk)) (SlI.of_rd s4_.k (hS.rd0 s4_.rd) (hS.blk0 s4_.blk)) hm292) ?_
    rintro e w ⟨rfl, hN⟩; refine ⟨_, rfl, ?_⟩; have hB := hN.pure; have hS := hS.join hN; clear hN
    refine wpS_quick 2 rfl ?_
    refine wpS_case 178 rfl (fun hb => ?_) (fun hb => ?_)
    rotate_left
    · replace H := cond_f H hb
      refine wpS_quick 8 rfl ?_
      refine wpS_nil ?_
      refine QH_seq_k hK288 ?_
      refine wpC_ret ?_
      refine QH_ret rfl (RV.tmp rfl RV.nil) rfl ?_
      obtain rfl := Option.some.inj H
      replace hS := hS.cut 0
      exact ⟨rfl, hS⟩
    replace H := cond_t H hb
    refine wpS_put rfl rfl rfl (yv_load_boxA ag_32 rfl (RW.here _) hS hs10 trivial sg0_22) ?_
    refine wpS_put rfl rfl rfl (yv_load_boxA ag_32 rfl (RW.here _) hS hs35 trivial sg0_22) ?_
    obtain ⟨r293, hm294, H⟩ := bind_some H
    refine wpS_call rfl rfl rfl rfl (by kernel_rfl) rfl (c_ref20_Same (⟨r94.id, r94.n, r94.role, x0.binary, r94.tuple, r94.commit, r94.applied, r94.votes, r94.next, r94.mtch, x0.caps⟩ : Co) x0 A96 c97 A100 c101 A104 c105 A108 c109 A4_ c4_ A0_ c0_ A1_ c1_ A2_ c2_ A3_ c3_ A4_ c4_ _ (SlI.of_rd k98 (hS.row_rd hs11) (hS.row_blk hs11)) (SlI.of_rd k102 (hS.row_rd hs12) (hS.row_blk hs12)) (SlI.of_rd k106 (hS.row_rd hs13) (hS.row_blk hs13)) (SlI.of_rd k110 (hS.row_rd hs14) (hS.row_blk hs14)) (SlI.of_rd s4_.k (hS.rd0 s4_.rd) (hS.blk0 s4_.blk)) (SlI.of_rd s0_.k (hS.rd0 s0_.rd) (hS.blk0 s0_.blk)) (SlI.of_rd s1_.k (hS.rd0 s1_.rd) (hS.blk0 s1_.blk)) (SlI.of_rd s2_.k (hS.rd0 s2_.rd) (hS.blk0 s2_.blk)) (SlI.of_rd s3_.k (hS.rd0 s3_.rd) (hS.blk0 s3_.blk)) (SlI.of_rd s4_.k (hS.rd0 s4_.rd) (hS.blk0 s4_.blk)) hm294) ?_
    rintro e w ⟨rfl, hN⟩; refine ⟨_, rfl, ?_⟩; have hB := hN.pure; have hS := hS.join hN; clear hN
    refine wpS_quick 2 rfl ?_
    refine wpS_case 183 rfl (fun hb => ?_) (fun hb => ?_)
    rotate_left
    · replace H := cond_f H hb
      refine wpS_quick 3 rfl ?_
      refine wpS_nil ?_
      refine QH_seq_k hK288 ?_
      refine wpC_ret ?_
      refine QH_ret rfl (RV.tmp rfl RV.nil) rfl ?_
      obtain rfl := Option.some.inj H
      replace hS := hS.cut 0
      exact ⟨rfl, hS⟩
    replace H := cond_t H hb
    obtain ⟨r295, hm296, H⟩ := bind_some H
    refine wpS_call rfl rfl rfl rfl (by kernel_rfl) rfl (c_law21_wakes _ hm296) ?_
    rintro e w ⟨rfl, hN⟩; refine ⟨_, rfl, ?_⟩; have hB := hN.pure; have hS := hS.join hN; clear hN
    refine wpS_quick 2 rfl ?_
    refine wpS_nil ?_
    refine QH_seq_k hK288 ?_
    refine wpC_ret ?_
    refine QH_ret rfl (RV.tmp rfl RV.nil) rfl ?_
    obtain rfl := Option.some.inj H
    replace hS := hS.cut 0
    exact ⟨rfl, hS⟩
  replace H := cond_t H hb
  refine wpC_skip ?_
  refine QH_seq_k hK191 ?_
  refine wpC_seq_k (fun K hK193 => ?_)
  refine wpC_block ?_
  refine wpC_seq_k (fun K hK194 => ?_)
  refine wpC_region ?_
  refine wpS_put rfl rfl rfl (yv_load_boxA ag_32 rfl (RW.here _) hS hs35 trivial sg0_22) ?_
  refine wpS_put rfl rfl rfl (yv_load_boxA ag_39 rfl (RW.here _) hS hs34 trivial sg0_15) ?_
  obtain ⟨r195, hm196, H⟩ := bind_some H
  refine wpS_call rfl rfl rfl rfl (by kernel_rfl) rfl (c_advert_To x0 x1 A0_ c0_ A1_ c1_ A2_ c2_ A3_ c3_ A4_ c4_ A5_ c5_ _ (SlI.of_rd s0_.k (hS.rd0 s0_.rd) (hS.blk0 s0_.blk)) (SlI.of_rd s1_.k (hS.rd0 s1_.rd) (hS.blk0 s1_.blk)) (SlI.of_rd s2_.k (hS.rd0 s2_.rd) (hS.blk0 s2_.blk)) (SlI.of_rd s3_.k (hS.rd0 s3_.rd) (hS.blk0 s3_.blk)) (SlI.of_rd s4_.k (hS.rd0 s4_.rd) (hS.blk0 s4_.blk)) (SlI.of_rd s5_.k (hS.rd0 s5_.rd) (hS.blk0 s5_.blk)) hm196) ?_
  rintro e w ⟨rfl, hN⟩; refine ⟨_, rfl, ?_⟩; have hB := hN.pure; have hS := hS.join hN; clear hN
  refine wpS_quick 1 rfl ?_
  refine wpS_case 97 rfl (fun hb => ?_) (fun hb => ?_)
  rotate_left
  · replace H := cond_f H hb
    refine wpS_quick 7 rfl ?_
    refine wpS_nil ?_
    refine QH_seq_k hK194 ?_
    refine wpC_seq_k (fun K hK265 => ?_)
    refine wpC_seq_k (fun K hK266 => ?_)
    refine wpC_draw 28 [] (fun _ _ => True) ⟨by kernel_rfl, by kernel_rfl⟩ hS (fun w hS hB => ?_)
    refine wpR_batch [true, true, true, true, true, true, true, true, true, true, true, true, true, true, true, true, true, true, true, true, true, true, true, true, true, true, true, true] (by decide +kernel) (by repeat (first | exact PF.body | exact PF.round | apply PF.then | apply PF.inBlock | apply PF.jump)) ?_
    refine LtK.put rfl rfl rfl (yv_move rfl) ?_
    refine LtK.put rfl rfl rfl (yv_move rfl) ?_
    refine LtK.skip rfl rfl rfl ?_
    refine LtK.skip rfl rfl rfl ?_
    refine LtK.skip rfl rfl rfl ?_
    refine LtK.skip rfl rfl rfl ?_
    refine LtK.skip rfl rfl rfl ?_
    refine LtK.skip rfl rfl rfl ?_
    refine LtK.skip rfl rfl rfl ?_
    refine LtK.skip rfl rfl rfl ?_
    refine LtK.put rfl rfl rfl (yv_pick_f rfl rfl rfl) ?_
    refine LtK.put rfl rfl rfl (yv_move rfl) ?_
    refine LtK.put rfl rfl rfl (yv_move rfl) ?_
    refine LtK.put rfl rfl rfl (yv_not rfl) ?_
    refine LtK.put rfl rfl rfl (yv_move rfl) ?_
    refine LtK.put rfl rfl rfl (yv_fieldAddr fo_32_10 rfl) ?_
    refine LtK.put rfl rfl rfl (yv_load_box sc_30 rfl (RW.below _) hS hs22 trivial sg21_1) ?_
    refine LtK.put rfl rfl rfl (yv_move rfl) ?_
    obtain ⟨e267, hi269, H⟩ := bind_some H
    obtain ⟨j268, hi269a, hi269b, hi269c⟩ := idx_some hi269
    refine LtK.put rfl rfl rfl (yx_idx el_30 rfl rfl hi269a hi269c (Rd.el (hS.row_rd hs27) he_enI hi269b)) ?_
    refine LtK.put rfl rfl rfl (yx_ld0 sc_3 rfl (RW.below _) (Rd.el (hS.row_rd hs27) he_enI hi269b) rfl) ?_
    refine LtK.put rfl rfl rfl (yv_fieldAddr fo_32_10 rfl) ?_
    refine LtK.put rfl rfl rfl (yv_load_box sc_30 rfl (RW.below _) hS hs35 trivial sg21_1) ?_
    refine LtK.put rfl rfl rfl (yv_move rfl) ?_
    obtain ⟨e270, hi272, H⟩ := bind_some H
    obtain ⟨j271, hi272a, hi272b, hi272c⟩ := idx_some hi272
    refine LtK.put rfl rfl rfl (yx_idx el_30 rfl rfl hi272a hi272c (Rd.el (hS.rd0 s4_.rd) he_enI hi272b)) ?_
    refine LtK.put rfl rfl rfl (yx_ld0 sc_3 rfl (RW.below _) (Rd.el (hS.rd0 s4_.rd) he_enI hi272b) rfl) ?_
    refine LtK.put rfl rfl rfl (yv_neq rfl rfl) ?_
    refine LtK.put rfl rfl rfl (yv_pick_t rfl rfl rfl) ?_
    refine LtK.put rfl rfl rfl (yv_pick_f rfl rfl rfl) ?_
    refine LtK.nil ?_
    refine wpR_end (by kernel_rfl) ?_
    refine QH_seq_k hK266 ?_
    refine wpC_cond rfl (fun hb => ?_) (fun hb => ?_)
    · replace H := cond_t H hb
      refine wpC_seq_k (fun K hK273 => ?_)
      refine wpC_region ?_
      refine wpS_quick 1 rfl ?_
      refine wpS_nil ?_
      refine QH_seq_k hK273 ?_
      refine wpC_ret ?_
      refine QH_then_ret ?_
      refine QH_block_ret ?_
      refine QH_then_ret ?_
      refine QH_then_ret ?_
      refine QH_block_ret ?_
      refine QH_then_ret ?_
      refine QH_ret rfl (RV.tmp rfl RV.nil) rfl ?_
      obtain rfl := Option.some.inj H
      replace hS := hS.cut 0
      exact ⟨rfl, hS⟩
    replace H := cond_f H hb
    refine wpC_skip ?_
    refine QH_seq_k hK265 ?_
    refine wpC_seq_k (fun K hK274 => ?_)
    refine wpC_draw 26 [] (fun _ _ => True) ⟨by kernel_rfl, by kernel_rfl⟩ hS (fun w hS hB => ?_)
    refine wpR_batch [true, true, true, true, true, true] (by decide +kernel) (by repeat (first | exact PF.body | exact PF.round | apply PF.then | apply PF.inBlock | apply PF.jump)) ?_
    refine LtK.put rfl rfl rfl (yv_move rfl) ?_
    refine LtK.put rfl rfl rfl (yv_fieldAddr fo_32_0 rfl) ?_
    refine LtK.put rfl rfl rfl (yv_load_box sc_3 rfl (RW.below _) hS hs35 trivial sg0_1) ?_
    refine LtK.put rfl rfl rfl (yx_sub rfl rfl) ?_
    refine LtK.put rfl rfl rfl (yv_neq rfl rfl) ?_
    refine LtK.put rfl rfl rfl (yv_move rfl) ?_
    refine LtK.nil ?_
    refine wpR_case 137 rfl (fun hb => ?_) (fun hb => ?_)
    rotate_left
    · replace H := cond_f H hb
      refine wpR_batch [false, false, false, false, false, false, true, true, true, true, true, true, true, true, true, true, true, true, true, true, true, true, true, true, true, true] (by decide +kernel) (by repeat (first | exact PF.body | exact PF.round | apply PF.then | apply PF.inBlock | apply PF.jump)) ?_
      refine LtK.skip rfl rfl rfl ?_
      refine LtK.skip rfl rfl rfl ?_
      refine LtK.skip rfl rfl rfl ?_
      refine LtK.skip rfl rfl rfl ?_
      refine LtK.skip rfl rfl rfl ?_
      refine LtK.skip rfl rfl rfl ?_
      refine LtK.skip rfl rfl rfl ?_
      refine LtK.skip rfl rfl rfl ?_
      refine LtK.skip rfl rfl rfl ?_
      refine LtK.skip rfl rfl rfl ?_
      refine LtK.skip rfl rfl rfl ?_
      refine LtK.skip rfl rfl rfl ?_
      refine LtK.skip rfl rfl rfl ?_
      refine LtK.skip rfl rfl rfl ?_
      refine LtK.skip rfl rfl rfl ?_
      refine LtK.skip rfl rfl rfl ?_
      refine LtK.skip rfl rfl rfl ?_
      refine LtK.skip rfl rfl rfl ?_
      refine LtK.skip rfl rfl rfl ?_
      refine LtK.put rfl rfl rfl (yv_pick_f rfl rfl rfl) ?_
      refine LtK.nil ?_
      refine wpR_end (by kernel_rfl) ?_
      refine QH_seq_k hK274 ?_
      refine wpC_cond_f rfl rfl ?_
      refine wpC_skip ?_
      refine QH_block_normal ?_
      refine QH_seq_k hK193 ?_
      refine wpC_region ?_
      refine wpS_quick 1 rfl ?_
      refine wpS_put rfl rfl rfl (yx_add rfl rfl) ?_
      refine wpS_quick 1 rfl ?_
      refine wpS_nil ?_
      exact QH_again (n, v189, (IntKind.wrap .i64 (v190 + 1))) (by repeat (first | exact Sub.nil | refine Sub.cons rfl ?_)) ⟨hS, H⟩ (Nat.lt_succ_self _)
    replace H := cond_t H hb
    refine wpR_batch [false, false, false, false, false, false, true, true, true, true, true, true, true] (by decide +kernel) (by repeat (first | exact PF.body | exact PF.round | apply PF.then | apply PF.inBlock | apply PF.jump)) ?_
    refine LtK.put rfl rfl rfl (yv_fieldAddr fo_32_10 rfl) ?_
    refine LtK.put rfl rfl rfl (yv_load_box sc_30 rfl (RW.below _) hS hs16 trivial sg21_1) ?_
    refine LtK.put rfl rfl rfl (yv_move rfl) ?_
    obtain ⟨e275, hi277, H⟩ := bind_some H
    obtain ⟨j276, hi277a, hi277b, hi277c⟩ := idx_some hi277
    refine LtK.put rfl rfl rfl (yx_idx el_30 rfl rfl hi277a hi277c (Rd.el (hS.row_rd hs21) he_enI hi277b)) ?_
    refine LtK.put rfl rfl rfl (yx_ld0 sc_3 rfl (RW.below _) (Rd.el (hS.row_rd hs21) he_enI hi277b) rfl) ?_
    refine LtK.put rfl rfl rfl (yv_neq rfl rfl) ?_
    refine LtK.put rfl rfl rfl (yv_move rfl) ?_
    refine LtK.nil ?_
    refine wpR_case 144 rfl (fun hb => ?_) (fun hb => ?_)
    · replace H := cond_t H hb
      refine wpR_batch [false, false, false, false, false, false, false, false, false, false, false, false, false, true, true, true, true, true, true, true, true, true, true, true, true, true] (by decide +kernel) (by repeat (first | exact PF.body | exact PF.round | apply PF.then | apply PF.inBlock | apply PF.jump)) ?_
      refine LtK.skip rfl rfl rfl ?_
      refine LtK.skip rfl rfl rfl ?_
      refine LtK.skip rfl rfl rfl ?_
      refine LtK.skip rfl rfl rfl ?_
      refine LtK.skip rfl rfl rfl ?_
      refine LtK.skip rfl rfl rfl ?_
      refine LtK.skip rfl rfl rfl ?_
      refine LtK.skip rfl rfl rfl ?_
      refine LtK.skip rfl rfl rfl ?_
      refine LtK.skip rfl rfl rfl ?_
      refine LtK.skip rfl rfl rfl ?_
      refine LtK.put rfl rfl rfl (yv_pick_t rfl rfl rfl) ?_
      refine LtK.put rfl rfl rfl (yv_pick_t rfl rfl rfl) ?_
      refine LtK.nil ?_
      refine wpR_end (by kernel_rfl) ?_
      refine QH_seq_k hK274 ?_
      refine wpC_cond_t rfl rfl ?_
      refine wpC_seq_k (fun K hK278 => ?_)
      refine wpC_region ?_
      refine wpS_quick 1 rfl ?_
      refine wpS_nil ?_
      refine QH_seq_k hK278 ?_
      refine wpC_ret ?_
      refine QH_block_ret ?_
      refine QH_then_ret ?_
      refine QH_then_ret ?_
      refine QH_block_ret ?_
      refine QH_then_ret ?_
      refine QH_ret rfl (RV.tmp rfl RV.nil) rfl ?_
      obtain rfl := Option.some.inj H
      replace hS := hS.cut 0
      exact ⟨rfl, hS⟩
    replace H := cond_f H hb
    refine wpR_batch [false, false, false, false, false, false, false, false, false, false, false, false, false, true, true, true, true, true, true, true, true, true, true, true, true, true] (by decide +kernel) (by repeat (first | exact PF.body | exact PF.round | apply PF.then | apply PF.inBlock | apply PF.jump)) ?_
    refine LtK.put rfl rfl rfl (yv_fieldAddr fo_32_10 rfl) ?_
    refine LtK.put rfl rfl rfl (yv_load_box sc_30 rfl (RW.below _) hS hs10 trivial sg21_1) ?_
    refine LtK.put rfl rfl rfl (yv_move rfl) ?_
    obtain ⟨e279, hi281, H⟩ := bind_some H
    obtain ⟨j280, hi281a, hi281b, hi281c⟩ := idx_some hi281
    refine LtK.put rfl rfl rfl (yx_idx el_30 rfl rfl hi281a hi281c (Rd.el (hS.row_rd hs15) he_enI hi281b)) ?_
    refine LtK.put rfl rfl rfl (yx_ld0 sc_3 rfl (RW.below _) (Rd.el (hS.row_rd hs15) he_enI hi281b) rfl) ?_
    refine LtK.put rfl rfl rfl (yv_fieldAddr fo_32_10 rfl) ?_
    refine LtK.put rfl rfl rfl (yv_load_box sc_30 rfl (RW.below _) hS hs35 trivial sg21_1) ?_
    refine LtK.put rfl rfl rfl (yv_move rfl) ?_
    obtain ⟨e282, hi284, H⟩ := bind_some H
    obtain ⟨j283, hi284a, hi284b, hi284c⟩ := idx_some hi284
    refine LtK.put rfl rfl rfl (yx_idx el_30 rfl rfl hi284a hi284c (Rd.el (hS.rd0 s4_.rd) he_enI hi284b)) ?_
    refine LtK.put rfl rfl rfl (yx_ld0 sc_3 rfl (RW.below _) (Rd.el (hS.rd0 s4_.rd) he_enI hi284b) rfl) ?_
    refine LtK.put rfl rfl rfl (yv_neq rfl rfl) ?_
    refine LtK.put rfl rfl rfl (yv_pick_f rfl rfl rfl) ?_
    refine LtK.put rfl rfl rfl (yv_pick_t rfl rfl rfl) ?_
    refine LtK.nil ?_
    refine wpR_end (by kernel_rfl) ?_
    refine QH_seq_k hK274 ?_
    refine wpC_cond rfl (fun hb => ?_) (fun hb => ?_)
    rotate_left
    · replace H := cond_f H hb
      refine wpC_skip ?_
      refine QH_block_normal ?_
      refine QH_seq_k hK193 ?_
      refine wpC_region ?_
      refine wpS_quick 1 rfl ?_
      refine wpS_put rfl rfl rfl (yx_add rfl rfl) ?_
      refine wpS_quick 1 rfl ?_
      refine wpS_nil ?_
      exact QH_again (n, v189, (IntKind.wrap .i64 (v190 + 1))) (by repeat (first | exact Sub.nil | refine Sub.cons rfl ?_)) ⟨hS, H⟩ (Nat.lt_succ_self _)
    replace H := cond_t H hb
    refine wpC_seq_k (fun K hK285 => ?_)
    refine wpC_region ?_
    refine wpS_quick 1 rfl ?_
    refine wpS_nil ?_
    refine QH_seq_k hK285 ?_
    refine wpC_ret ?_
    refine QH_block_ret ?_
    refine QH_then_ret ?_
    refine QH_then_ret ?_
    refine QH_block_ret ?_
    refine QH_then_ret ?_
    refine QH_ret rfl (RV.tmp rfl RV.nil) rfl ?_
    obtain rfl := Option.some.inj H
    replace hS := hS.cut 0
    exact ⟨rfl, hS⟩
  replace H := cond_t H hb
  refine wpS_put rfl rfl rfl (yv_fieldAddr fo_39_1 rfl) ?_
  refine wpS_put rfl rfl rfl (yv_load_box sc_3 rfl (RW.here _) hS hs34 trivial sg1_1) ?_
  refine wpS_quick 1 rfl ?_
  refine wpS_put rfl rfl rfl (yx_add rfl rfl) ?_
  refine wpS_put rfl rfl rfl (yv_eql rfl rfl) ?_
  refine wpS_quick 2 rfl ?_
  refine wpS_nil ?_
  refine QH_seq_k hK194 ?_
  refine wpC_seq_k (fun K hK197 => ?_)
  refine wpC_seq_k (fun K hK198 => ?_)
  refine wpC_draw 28 [] (fun _ _ => True) ⟨by kernel_rfl, by kernel_rfl⟩ hS (fun w hS hB => ?_)
  refine wpR_batch [true, true] (by decide +kernel) (by repeat (first | exact PF.body | exact PF.round | apply PF.then | apply PF.inBlock | apply PF.jump)) ?_
  refine LtK.put rfl rfl rfl (yv_move rfl) ?_
  refine LtK.put rfl rfl rfl (yv_move rfl) ?_
  refine LtK.nil ?_
  refine wpR_case 105 rfl (fun hb => ?_) (fun hb => ?_)
  rotate_left
  · replace H := cond_f H hb
    refine wpR_batch [false, false, true, true, true, true, true, true, true, true, true, true, true, true, true] (by decide +kernel) (by repeat (first | exact PF.body | exact PF.round | apply PF.then | apply PF.inBlock | apply PF.jump)) ?_
    refine LtK.skip rfl rfl rfl ?_
    refine LtK.skip rfl rfl rfl ?_
    refine LtK.skip rfl rfl rfl ?_
    refine LtK.skip rfl rfl rfl ?_
    refine LtK.skip rfl rfl rfl ?_
    refine LtK.skip rfl rfl rfl ?_
    refine LtK.skip rfl rfl rfl ?_
    refine LtK.skip rfl rfl rfl ?_
    refine LtK.put rfl rfl rfl (yv_pick_f rfl rfl rfl) ?_
    refine LtK.put rfl rfl rfl (yv_move rfl) ?_
    refine LtK.put rfl rfl rfl (yv_move rfl) ?_
    refine LtK.put rfl rfl rfl (yv_not rfl) ?_
    refine LtK.put rfl rfl rfl (yv_move rfl) ?_
    refine LtK.nil ?_
    refine wpR_case 118 rfl (fun hb => ?_) (fun hb => ?_)
    rotate_left
    · replace H := cond_f H hb
      refine wpR_batch [false, false, false, false, false, false, false, false, false, false, false, false, false, false, false, true, true, true, true, true, true, true, true, true, true, true, true, true] (by decide +kernel) (by repeat (first | exact PF.body | exact PF.round | apply PF.then | apply PF.inBlock | apply PF.jump)) ?_
      refine LtK.skip rfl rfl rfl ?_
      refine LtK.skip rfl rfl rfl ?_
      refine LtK.skip rfl rfl rfl ?_
      refine LtK.skip rfl rfl rfl ?_
      refine LtK.skip rfl rfl rfl ?_
      refine LtK.skip rfl rfl rfl ?_
      refine LtK.skip rfl rfl rfl ?_
      refine LtK.skip rfl rfl rfl ?_
      refine LtK.skip rfl rfl rfl ?_
      refine LtK.skip rfl rfl rfl ?_
      refine LtK.skip rfl rfl rfl ?_
      refine LtK.put rfl rfl rfl (yv_pick_f rfl rfl rfl) ?_
      refine LtK.put rfl rfl rfl (yv_pick_f rfl rfl rfl) ?_
      refine LtK.nil ?_
      refine wpR_end (by kernel_rfl) ?_
      refine QH_seq_k hK198 ?_
      refine wpC_cond_f rfl rfl ?_
      refine wpC_skip ?_
      refine QH_seq_k hK197 ?_
      refine wpC_seq_k (fun K hK253 => ?_)
      refine wpC_draw 26 [] (fun _ _ => True) ⟨by kernel_rfl, by kernel_rfl⟩ hS (fun w hS hB => ?_)
      refine wpR_batch [true, true, true, true, true, true] (by decide +kernel) (by repeat (first | exact PF.body | exact PF.round | apply PF.then | apply PF.inBlock | apply PF.jump)) ?_
      refine LtK.put rfl rfl rfl (yv_move rfl) ?_
      refine LtK.put rfl rfl rfl (yv_fieldAddr fo_32_0 rfl) ?_
      refine LtK.put rfl rfl rfl (yv_load_box sc_3 rfl (RW.below _) hS hs35 trivial sg0_1) ?_
      refine LtK.put rfl rfl rfl (yx_sub rfl rfl) ?_
      refine LtK.put rfl rfl rfl (yv_neq rfl rfl) ?_
      refine LtK.put rfl rfl rfl (yv_move rfl) ?_
      refine LtK.nil ?_
      refine wpR_case 137 rfl (fun hb => ?_) (fun hb => ?_)
      rotate_left
      · replace H := cond_f H hb
        refine wpR_batch [false, false, false, false, false, false, true, true, true, true, true, true, true, true, true, true, true, true, true, true, true, true, true, true, true, true] (by decide +kernel) (by repeat (first | exact PF.body | exact PF.round | apply PF.then | apply PF.inBlock | apply PF.jump)) ?_
        refine LtK.skip rfl rfl rfl ?_
        refine LtK.skip rfl rfl rfl ?_
        refine LtK.skip rfl rfl rfl ?_
        refine LtK.skip rfl rfl rfl ?_
        refine LtK.skip rfl rfl rfl ?_
        refine LtK.skip rfl rfl rfl ?_
        refine LtK.skip rfl rfl rfl ?_
        refine LtK.skip rfl rfl rfl ?_
        refine LtK.skip rfl rfl rfl ?_
        refine LtK.skip rfl rfl rfl ?_
        refine LtK.skip rfl rfl rfl ?_
        refine LtK.skip rfl rfl rfl ?_
        refine LtK.skip rfl rfl rfl ?_
        refine LtK.skip rfl rfl rfl ?_
        refine LtK.skip rfl rfl rfl ?_
        refine LtK.skip rfl rfl rfl ?_
        refine LtK.skip rfl rfl rfl ?_
        refine LtK.skip rfl rfl rfl ?_
        refine LtK.skip rfl rfl rfl ?_
        refine LtK.put rfl rfl rfl (yv_pick_f rfl rfl rfl) ?_
        refine LtK.nil ?_
        refine wpR_end (by kernel_rfl) ?_
        refine QH_seq_k hK253 ?_
        refine wpC_cond_f rfl rfl ?_
        refine wpC_skip ?_
        refine QH_block_normal ?_
        refine QH_seq_k hK193 ?_
        refine wpC_region ?_
        refine wpS_quick 1 rfl ?_
        refine wpS_put rfl rfl rfl (yx_add rfl rfl) ?_
        refine wpS_quick 1 rfl ?_
        refine wpS_nil ?_
        exact QH_again (n, v189, (IntKind.wrap .i64 (v190 + 1))) (by repeat (first | exact Sub.nil | refine Sub.cons rfl ?_)) ⟨hS, H⟩ (Nat.lt_succ_self _)
      replace H := cond_t H hb
      refine wpR_batch [false, false, false, false, false, false, true, true, true, true, true, true, true] (by decide +kernel) (by repeat (first | exact PF.body | exact PF.round | apply PF.then | apply PF.inBlock | apply PF.jump)) ?_
      refine LtK.put rfl rfl rfl (yv_fieldAddr fo_32_10 rfl) ?_
      refine LtK.put rfl rfl rfl (yv_load_box sc_30 rfl (RW.below _) hS hs16 trivial sg21_1) ?_
      refine LtK.put rfl rfl rfl (yv_move rfl) ?_
      obtain ⟨e254, hi256, H⟩ := bind_some H
      obtain ⟨j255, hi256a, hi256b, hi256c⟩ := idx_some hi256
      refine LtK.put rfl rfl rfl (yx_idx el_30 rfl rfl hi256a hi256c (Rd.el (hS.row_rd hs21) he_enI hi256b)) ?_
      refine LtK.put rfl rfl rfl (yx_ld0 sc_3 rfl (RW.below _) (Rd.el (hS.row_rd hs21) he_enI hi256b) rfl) ?_
      refine LtK.put rfl rfl rfl (yv_neq rfl rfl) ?_
      refine LtK.put rfl rfl rfl (yv_move rfl) ?_
      refine LtK.nil ?_
      refine wpR_case 144 rfl (fun hb => ?_) (fun hb => ?_)
      · replace H := cond_t H hb
        refine wpR_batch [false, false, false, false, false, false, false, false, false, false, false, false, false, true, true, true, true, true, true, true, true, true, true, true, true, true] (by decide +kernel) (by repeat (first | exact PF.body | exact PF.round | apply PF.then | apply PF.inBlock | apply PF.jump)) ?_
        refine LtK.skip rfl rfl rfl ?_
        refine LtK.skip rfl rfl rfl ?_
        refine LtK.skip rfl rfl rfl ?_
        refine LtK.skip rfl rfl rfl ?_
        refine LtK.skip rfl rfl rfl ?_
        refine LtK.skip rfl rfl rfl ?_
        refine LtK.skip rfl rfl rfl ?_
        refine LtK.skip rfl rfl rfl ?_
        refine LtK.skip rfl rfl rfl ?_
        refine LtK.skip rfl rfl rfl ?_
        refine LtK.skip rfl rfl rfl ?_
        refine LtK.put rfl rfl rfl (yv_pick_t rfl rfl rfl) ?_
        refine LtK.put rfl rfl rfl (yv_pick_t rfl rfl rfl) ?_
        refine LtK.nil ?_
        refine wpR_end (by kernel_rfl) ?_
        refine QH_seq_k hK253 ?_
        refine wpC_cond_t rfl rfl ?_
        refine wpC_seq_k (fun K hK257 => ?_)
        refine wpC_region ?_
        refine wpS_quick 1 rfl ?_
        refine wpS_nil ?_
        refine QH_seq_k hK257 ?_
        refine wpC_ret ?_
        refine QH_block_ret ?_
        refine QH_then_ret ?_
        refine QH_then_ret ?_
        refine QH_block_ret ?_
        refine QH_then_ret ?_
        refine QH_ret rfl (RV.tmp rfl RV.nil) rfl ?_
        obtain rfl := Option.some.inj H
        replace hS := hS.cut 0
        exact ⟨rfl, hS⟩
      replace H := cond_f H hb
      refine wpR_batch [false, false, false, false, false, false, false, false, false, false, false, false, false, true, true, true, true, true, true, true, true, true, true, true, true, true] (by decide +kernel) (by repeat (first | exact PF.body | exact PF.round | apply PF.then | apply PF.inBlock | apply PF.jump)) ?_
      refine LtK.put rfl rfl rfl (yv_fieldAddr fo_32_10 rfl) ?_
      refine LtK.put rfl rfl rfl (yv_load_box sc_30 rfl (RW.below _) hS hs10 trivial sg21_1) ?_
      refine LtK.put rfl rfl rfl (yv_move rfl) ?_
      obtain ⟨e258, hi260, H⟩ := bind_some H
      obtain ⟨j259, hi260a, hi260b, hi260c⟩ := idx_some hi260
      refine LtK.put rfl rfl rfl (yx_idx el_30 rfl rfl hi260a hi260c (Rd.el (hS.row_rd hs15) he_enI hi260b)) ?_
      refine LtK.put rfl rfl rfl (yx_ld0 sc_3 rfl (RW.below _) (Rd.el (hS.row_rd hs15) he_enI hi260b) rfl) ?_
      refine LtK.put rfl rfl rfl (yv_fieldAddr fo_32_10 rfl) ?_
      refine LtK.put rfl rfl rfl (yv_load_box sc_30 rfl (RW.below _) hS hs35 trivial sg21_1) ?_
      refine LtK.put rfl rfl rfl (yv_move rfl) ?_
      obtain ⟨e261, hi263, H⟩ := bind_some H
      obtain ⟨j262, hi263a, hi263b, hi263c⟩ := idx_some hi263
      refine LtK.put rfl rfl rfl (yx_idx el_30 rfl rfl hi263a hi263c (Rd.el (hS.rd0 s4_.rd) he_enI hi263b)) ?_
      refine LtK.put rfl rfl rfl (yx_ld0 sc_3 rfl (RW.below _) (Rd.el (hS.rd0 s4_.rd) he_enI hi263b) rfl) ?_
      refine LtK.put rfl rfl rfl (yv_neq rfl rfl) ?_
      refine LtK.put rfl rfl rfl (yv_pick_f rfl rfl rfl) ?_
      refine LtK.put rfl rfl rfl (yv_pick_t rfl rfl rfl) ?_
      refine LtK.nil ?_
      refine wpR_end (by kernel_rfl) ?_
      refine QH_seq_k hK253 ?_
      refine wpC_cond rfl (fun hb => ?_) (fun hb => ?_)
      rotate_left
      · replace H := cond_f H hb
        refine wpC_skip ?_
        refine QH_block_normal ?_
        refine QH_seq_k hK193 ?_
        refine wpC_region ?_
        refine wpS_quick 1 rfl ?_
        refine wpS_put rfl rfl rfl (yx_add rfl rfl) ?_
        refine wpS_quick 1 rfl ?_
        refine wpS_nil ?_
        exact QH_again (n, v189, (IntKind.wrap .i64 (v190 + 1))) (by repeat (first | exact Sub.nil | refine Sub.cons rfl ?_)) ⟨hS, H⟩ (Nat.lt_succ_self _)
      replace H := cond_t H hb
      refine wpC_seq_k (fun K hK264 => ?_)
      refine wpC_region ?_
      refine wpS_quick 1 rfl ?_
      refine wpS_nil ?_
      refine QH_seq_k hK264 ?_
      refine wpC_ret ?_
      refine QH_block_ret ?_
      refine QH_then_ret ?_
      refine QH_then_ret ?_
      refine QH_block_ret ?_
      refine QH_then_ret ?_
      refine QH_ret rfl (RV.tmp rfl RV.nil) rfl ?_
      obtain rfl := Option.some.inj H
      replace hS := hS.cut 0
      exact ⟨rfl, hS⟩
    replace H := cond_t H hb
    refine wpR_batch [false, false, false, false, false, false, false, false, false, false, false, false, false, false, false, true, true, true, true, true, true, true, true, true, true, true, true, true] (by decide +kernel) (by repeat (first | exact PF.body | exact PF.round | apply PF.then | apply PF.inBlock | apply PF.jump)) ?_
    refine LtK.put rfl rfl rfl (yv_fieldAddr fo_32_10 rfl) ?_
    refine LtK.put rfl rfl rfl (yv_load_box sc_30 rfl (RW.below _) hS hs22 trivial sg21_1) ?_
    refine LtK.put rfl rfl rfl (yv_move rfl) ?_
    obtain ⟨e234, hi236, H⟩ := bind_some H
    obtain ⟨j235, hi236a, hi236b, hi236c⟩ := idx_some hi236
    refine LtK.put rfl rfl rfl (yx_idx el_30 rfl rfl hi236a hi236c (Rd.el (hS.row_rd hs27) he_enI hi236b)) ?_
    refine LtK.put rfl rfl rfl (yx_ld0 sc_3 rfl (RW.below _) (Rd.el (hS.row_rd hs27) he_enI hi236b) rfl) ?_
    refine LtK.put rfl rfl rfl (yv_fieldAddr fo_32_10 rfl) ?_
    refine LtK.put rfl rfl rfl (yv_load_box sc_30 rfl (RW.below _) hS hs35 trivial sg21_1) ?_
    refine LtK.put rfl rfl rfl (yv_move rfl) ?_
    obtain ⟨e237, hi239, H⟩ := bind_some H
    obtain ⟨j238, hi239a, hi239b, hi239c⟩ := idx_some hi239
    refine LtK.put rfl rfl rfl (yx_idx el_30 rfl rfl hi239a hi239c (Rd.el (hS.rd0 s4_.rd) he_enI hi239b)) ?_
    refine LtK.put rfl rfl rfl (yx_ld0 sc_3 rfl (RW.below _) (Rd.el (hS.rd0 s4_.rd) he_enI hi239b) rfl) ?_
    refine LtK.put rfl rfl rfl (yv_neq rfl rfl) ?_
    refine LtK.put rfl rfl rfl (yv_pick_t rfl rfl rfl) ?_
    refine LtK.put rfl rfl rfl (yv_pick_f rfl rfl rfl) ?_
    refine LtK.nil ?_
    refine wpR_end (by kernel_rfl) ?_
    refine QH_seq_k hK198 ?_
    refine wpC_cond rfl (fun hb => ?_) (fun hb => ?_)
    · replace H := cond_t H hb
      refine wpC_seq_k (fun K hK240 => ?_)
      refine wpC_region ?_
      refine wpS_quick 1 rfl ?_
      refine wpS_nil ?_
      refine QH_seq_k hK240 ?_
      refine wpC_ret ?_
      refine QH_then_ret ?_
      refine QH_block_ret ?_
      refine QH_then_ret ?_
      refine QH_then_ret ?_
      refine QH_block_ret ?_
      refine QH_then_ret ?_
      refine QH_ret rfl (RV.tmp rfl RV.nil) rfl ?_
      obtain rfl := Option.some.inj H
      replace hS := hS.cut 0
      exact ⟨rfl, hS⟩
    replace H := cond_f H hb
    refine wpC_skip ?_
    refine QH_seq_k hK197 ?_
    refine wpC_seq_k (fun K hK241 => ?_)
    refine wpC_draw 26 [] (fun _ _ => True) ⟨by kernel_rfl, by kernel_rfl⟩ hS (fun w hS hB => ?_)
    refine wpR_batch [true, true, true, true, true, true] (by decide +kernel) (by repeat (first | exact PF.body | exact PF.round | apply PF.then | apply PF.inBlock | apply PF.jump)) ?_
    refine LtK.put rfl rfl rfl (yv_move rfl) ?_
    refine LtK.put rfl rfl rfl (yv_fieldAddr fo_32_0 rfl) ?_
    refine LtK.put rfl rfl rfl (yv_load_box sc_3 rfl (RW.below _) hS hs35 trivial sg0_1) ?_
    refine LtK.put rfl rfl rfl (yx_sub rfl rfl) ?_
    refine LtK.put rfl rfl rfl (yv_neq rfl rfl) ?_
    refine LtK.put rfl rfl rfl (yv_move rfl) ?_
    refine LtK.nil ?_
    refine wpR_case 137 rfl (fun hb => ?_) (fun hb => ?_)
    rotate_left
    · replace H := cond_f H hb
      refine wpR_batch [false, false, false, false, false, false, true, true, true, true, true, true, true, true, true, true, true, true, true, true, true, true, true, true, true, true] (by decide +kernel) (by repeat (first | exact PF.body | exact PF.round | apply PF.then | apply PF.inBlock | apply PF.jump)) ?_
      refine LtK.skip rfl rfl rfl ?_
      refine LtK.skip rfl rfl rfl ?_
      refine LtK.skip rfl rfl rfl ?_
      refine LtK.skip rfl rfl rfl ?_
      refine LtK.skip rfl rfl rfl ?_
      refine LtK.skip rfl rfl rfl ?_
      refine LtK.skip rfl rfl rfl ?_
      refine LtK.skip rfl rfl rfl ?_
      refine LtK.skip rfl rfl rfl ?_
      refine LtK.skip rfl rfl rfl ?_
      refine LtK.skip rfl rfl rfl ?_
      refine LtK.skip rfl rfl rfl ?_
      refine LtK.skip rfl rfl rfl ?_
      refine LtK.skip rfl rfl rfl ?_
      refine LtK.skip rfl rfl rfl ?_
      refine LtK.skip rfl rfl rfl ?_
      refine LtK.skip rfl rfl rfl ?_
      refine LtK.skip rfl rfl rfl ?_
      refine LtK.skip rfl rfl rfl ?_
      refine LtK.put rfl rfl rfl (yv_pick_f rfl rfl rfl) ?_
      refine LtK.nil ?_
      refine wpR_end (by kernel_rfl) ?_
      refine QH_seq_k hK241 ?_
      refine wpC_cond_f rfl rfl ?_
      refine wpC_skip ?_
      refine QH_block_normal ?_
      refine QH_seq_k hK193 ?_
      refine wpC_region ?_
      refine wpS_quick 1 rfl ?_
      refine wpS_put rfl rfl rfl (yx_add rfl rfl) ?_
      refine wpS_quick 1 rfl ?_
      refine wpS_nil ?_
      exact QH_again (n, v189, (IntKind.wrap .i64 (v190 + 1))) (by repeat (first | exact Sub.nil | refine Sub.cons rfl ?_)) ⟨hS, H⟩ (Nat.lt_succ_self _)
    replace H := cond_t H hb
    refine wpR_batch [false, false, false, false, false, false, true, true, true, true, true, true, true] (by decide +kernel) (by repeat (first | exact PF.body | exact PF.round | apply PF.then | apply PF.inBlock | apply PF.jump)) ?_
    refine LtK.put rfl rfl rfl (yv_fieldAddr fo_32_10 rfl) ?_
    refine LtK.put rfl rfl rfl (yv_load_box sc_30 rfl (RW.below _) hS hs16 trivial sg21_1) ?_
    refine LtK.put rfl rfl rfl (yv_move rfl) ?_
    obtain ⟨e242, hi244, H⟩ := bind_some H
    obtain ⟨j243, hi244a, hi244b, hi244c⟩ := idx_some hi244
    refine LtK.put rfl rfl rfl (yx_idx el_30 rfl rfl hi244a hi244c (Rd.el (hS.row_rd hs21) he_enI hi244b)) ?_
    refine LtK.put rfl rfl rfl (yx_ld0 sc_3 rfl (RW.below _) (Rd.el (hS.row_rd hs21) he_enI hi244b) rfl) ?_
    refine LtK.put rfl rfl rfl (yv_neq rfl rfl) ?_
    refine LtK.put rfl rfl rfl (yv_move rfl) ?_
    refine LtK.nil ?_
    refine wpR_case 144 rfl (fun hb => ?_) (fun hb => ?_)
    · replace H := cond_t H hb
      refine wpR_batch [false, false, false, false, false, false, false, false, false, false, false, false, false, true, true, true, true, true, true, true, true, true, true, true, true, true] (by decide +kernel) (by repeat (first | exact PF.body | exact PF.round | apply PF.then | apply PF.inBlock | apply PF.jump)) ?_
      refine LtK.skip rfl rfl rfl ?_
      refine LtK.skip rfl rfl rfl ?_
      refine LtK.skip rfl rfl rfl ?_
      refine LtK.skip rfl rfl rfl ?_
      refine LtK.skip rfl rfl rfl ?_
      refine LtK.skip rfl rfl rfl ?_
      refine LtK.skip rfl rfl rfl ?_
      refine LtK.skip rfl rfl rfl ?_
      refine LtK.skip rfl rfl rfl ?_
      refine LtK.skip rfl rfl rfl ?_
      refine LtK.skip rfl rfl rfl ?_
      refine LtK.put rfl rfl rfl (yv_pick_t rfl rfl rfl) ?_
      refine LtK.put rfl rfl rfl (yv_pick_t rfl rfl rfl) ?_
      refine LtK.nil ?_
      refine wpR_end (by kernel_rfl) ?_
      refine QH_seq_k hK241 ?_
      refine wpC_cond_t rfl rfl ?_
      refine wpC_seq_k (fun K hK245 => ?_)
      refine wpC_region ?_
      refine wpS_quick 1 rfl ?_
      refine wpS_nil ?_
      refine QH_seq_k hK245 ?_
      refine wpC_ret ?_
      refine QH_block_ret ?_
      refine QH_then_ret ?_
      refine QH_then_ret ?_
      refine QH_block_ret ?_
      refine QH_then_ret ?_
      refine QH_ret rfl (RV.tmp rfl RV.nil) rfl ?_
      obtain rfl := Option.some.inj H
      replace hS := hS.cut 0
      exact ⟨rfl, hS⟩
    replace H := cond_f H hb
    refine wpR_batch [false, false, false, false, false, false, false, false, false, false, false, false, false, true, true, true, true, true, true, true, true, true, true, true, true, true] (by decide +kernel) (by repeat (first | exact PF.body | exact PF.round | apply PF.then | apply PF.inBlock | apply PF.jump)) ?_
    refine LtK.put rfl rfl rfl (yv_fieldAddr fo_32_10 rfl) ?_
    refine LtK.put rfl rfl rfl (yv_load_box sc_30 rfl (RW.below _) hS hs10 trivial sg21_1) ?_
    refine LtK.put rfl rfl rfl (yv_move rfl) ?_
    obtain ⟨e246, hi248, H⟩ := bind_some H
    obtain ⟨j247, hi248a, hi248b, hi248c⟩ := idx_some hi248
    refine LtK.put rfl rfl rfl (yx_idx el_30 rfl rfl hi248a hi248c (Rd.el (hS.row_rd hs15) he_enI hi248b)) ?_
    refine LtK.put rfl rfl rfl (yx_ld0 sc_3 rfl (RW.below _) (Rd.el (hS.row_rd hs15) he_enI hi248b) rfl) ?_
    refine LtK.put rfl rfl rfl (yv_fieldAddr fo_32_10 rfl) ?_
    refine LtK.put rfl rfl rfl (yv_load_box sc_30 rfl (RW.below _) hS hs35 trivial sg21_1) ?_
    refine LtK.put rfl rfl rfl (yv_move rfl) ?_
    obtain ⟨e249, hi251, H⟩ := bind_some H
    obtain ⟨j250, hi251a, hi251b, hi251c⟩ := idx_some hi251
    refine LtK.put rfl rfl rfl (yx_idx el_30 rfl rfl hi251a hi251c (Rd.el (hS.rd0 s4_.rd) he_enI hi251b)) ?_
    refine LtK.put rfl rfl rfl (yx_ld0 sc_3 rfl (RW.below _) (Rd.el (hS.rd0 s4_.rd) he_enI hi251b) rfl) ?_
    refine LtK.put rfl rfl rfl (yv_neq rfl rfl) ?_
    refine LtK.put rfl rfl rfl (yv_pick_f rfl rfl rfl) ?_
    refine LtK.put rfl rfl rfl (yv_pick_t rfl rfl rfl) ?_
    refine LtK.nil ?_
    refine wpR_end (by kernel_rfl) ?_
    refine QH_seq_k hK241 ?_
    refine wpC_cond rfl (fun hb => ?_) (fun hb => ?_)
    rotate_left
    · replace H := cond_f H hb
      refine wpC_skip ?_
      refine QH_block_normal ?_
      refine QH_seq_k hK193 ?_
      refine wpC_region ?_
      refine wpS_quick 1 rfl ?_
      refine wpS_put rfl rfl rfl (yx_add rfl rfl) ?_
      refine wpS_quick 1 rfl ?_
      refine wpS_nil ?_
      exact QH_again (n, v189, (IntKind.wrap .i64 (v190 + 1))) (by repeat (first | exact Sub.nil | refine Sub.cons rfl ?_)) ⟨hS, H⟩ (Nat.lt_succ_self _)
    replace H := cond_t H hb
    refine wpC_seq_k (fun K hK252 => ?_)
    refine wpC_region ?_
    refine wpS_quick 1 rfl ?_
    refine wpS_nil ?_
    refine QH_seq_k hK252 ?_
    refine wpC_ret ?_
    refine QH_block_ret ?_
    refine QH_then_ret ?_
    refine QH_then_ret ?_
    refine QH_block_ret ?_
    refine QH_then_ret ?_
    refine QH_ret rfl (RV.tmp rfl RV.nil) rfl ?_
    obtain rfl := Option.some.inj H
    replace hS := hS.cut 0
    exact ⟨rfl, hS⟩
  replace H := cond_t H hb
  refine wpR_batch [false, false, true, true, true, true, true, true, true, true, true, true] (by decide +kernel) (by repeat (first | exact PF.body | exact PF.round | apply PF.then | apply PF.inBlock | apply PF.jump)) ?_
  refine LtK.put rfl rfl rfl (yv_fieldAddr fo_32_10 rfl) ?_
  refine LtK.put rfl rfl rfl (yv_load_box sc_30 rfl (RW.below _) hS hs22 trivial sg21_1) ?_
  refine LtK.put rfl rfl rfl (yv_move rfl) ?_
  obtain ⟨e199, hi201, H⟩ := bind_some H
  obtain ⟨j200, hi201a, hi201b, hi201c⟩ := idx_some hi201
  refine LtK.put rfl rfl rfl (yx_idx el_30 rfl rfl hi201a hi201c (Rd.el (hS.row_rd hs27) he_enI hi201b)) ?_
  refine LtK.put rfl rfl rfl (yx_ld0 sc_3 rfl (RW.below _) (Rd.el (hS.row_rd hs27) he_enI hi201b) rfl) ?_
  refine LtK.put rfl rfl rfl (yv_fieldAddr fo_39_4 rfl) ?_
  refine LtK.put rfl rfl rfl (yv_load_box sc_3 rfl (RW.below _) hS hs34 trivial sg4_1) ?_
  refine LtK.put rfl rfl rfl (yv_neq rfl rfl) ?_
  refine LtK.put rfl rfl rfl (yv_pick_t rfl rfl rfl) ?_
  refine LtK.put rfl rfl rfl (yv_move rfl) ?_
  refine LtK.nil ?_
  refine wpR_case 115 rfl (fun hb => ?_) (fun hb => ?_)
  · replace H := cond_t H hb
    refine wpR_batch [false, false, false, false, false, false, false, false, false, false, false, false, true, true, true, true, true, true, true, true, true, true, true, true, true, true, true, true] (by decide +kernel) (by repeat (first | exact PF.body | exact PF.round | apply PF.then | apply PF.inBlock | apply PF.jump)) ?_
    refine LtK.skip rfl rfl rfl ?_
    refine LtK.skip rfl rfl rfl ?_
    refine LtK.skip rfl rfl rfl ?_
    refine LtK.skip rfl rfl rfl ?_
    refine LtK.skip rfl rfl rfl ?_
    refine LtK.skip rfl rfl rfl ?_
    refine LtK.skip rfl rfl rfl ?_
    refine LtK.skip rfl rfl rfl ?_
    refine LtK.skip rfl rfl rfl ?_
    refine LtK.skip rfl rfl rfl ?_
    refine LtK.skip rfl rfl rfl ?_
    refine LtK.skip rfl rfl rfl ?_
    refine LtK.skip rfl rfl rfl ?_
    refine LtK.skip rfl rfl rfl ?_
    refine LtK.skip rfl rfl rfl ?_
    refine LtK.put rfl rfl rfl (yv_pick_t rfl rfl rfl) ?_
    refine LtK.nil ?_
    refine wpR_end (by kernel_rfl) ?_
    refine QH_seq_k hK198 ?_
    refine wpC_cond_t rfl rfl ?_
    refine wpC_seq_k (fun K hK202 => ?_)
    refine wpC_region ?_
    refine wpS_quick 1 rfl ?_
    refine wpS_nil ?_
    refine QH_seq_k hK202 ?_
    refine wpC_ret ?_
    refine QH_then_ret ?_
    refine QH_block_ret ?_
    refine QH_then_ret ?_
    refine QH_then_ret ?_
    refine QH_block_ret ?_
    refine QH_then_ret ?_
    refine QH_ret rfl (RV.tmp rfl RV.nil) rfl ?_
    obtain rfl := Option.some.inj H
    replace hS := hS.cut 0
    exact ⟨rfl, hS⟩
  replace H := cond_f H hb
  refine wpR_batch [false, false, false, false, false, false, false, false, false, false, false, false, true, true, true] (by decide +kernel) (by repeat (first | exact PF.body | exact PF.round | apply PF.then | apply PF.inBlock | apply PF.jump)) ?_
  refine LtK.put rfl rfl rfl (yv_move rfl) ?_
  refine LtK.put rfl rfl rfl (yv_not rfl) ?_
  refine LtK.put rfl rfl rfl (yv_move rfl) ?_
  refine LtK.nil ?_
  refine wpR_case 118 rfl (fun hb => ?_) (fun hb => ?_)
  rotate_left
  · replace H := cond_f H hb
    refine wpR_batch [false, false, false, false, false, false, false, false, false, false, false, false, false, false, false, true, true, true, true, true, true, true, true, true, true, true, true, true] (by decide +kernel) (by repeat (first | exact PF.body | exact PF.round | apply PF.then | apply PF.inBlock | apply PF.jump)) ?_
    refine LtK.skip rfl rfl rfl ?_
    refine LtK.skip rfl rfl rfl ?_
    refine LtK.skip rfl rfl rfl ?_
    refine LtK.skip rfl rfl rfl ?_
    refine LtK.skip rfl rfl rfl ?_
    refine LtK.skip rfl rfl rfl ?_
    refine LtK.skip rfl rfl rfl ?_
    refine LtK.skip rfl rfl rfl ?_
    refine LtK.skip rfl rfl rfl ?_
    refine LtK.skip rfl rfl rfl ?_
    refine LtK.skip rfl rfl rfl ?_
    refine LtK.put rfl rfl rfl (yv_pick_f rfl rfl rfl) ?_
    refine LtK.put rfl rfl rfl (yv_pick_f rfl rfl rfl) ?_
    refine LtK.nil ?_
    refine wpR_end (by kernel_rfl) ?_
    refine QH_seq_k hK198 ?_
    refine wpC_cond_f rfl rfl ?_
    refine wpC_skip ?_
    refine QH_seq_k hK197 ?_
    refine wpC_seq_k (fun K hK222 => ?_)
    refine wpC_draw 26 [] (fun _ _ => True) ⟨by kernel_rfl, by kernel_rfl⟩ hS (fun w hS hB => ?_)
    refine wpR_batch [true, true, true, true, true, true] (by decide +kernel) (by repeat (first | exact PF.body | exact PF.round | apply PF.then | apply PF.inBlock | apply PF.jump)) ?_
    refine LtK.put rfl rfl rfl (yv_move rfl) ?_
    refine LtK.put rfl rfl rfl (yv_fieldAddr fo_32_0 rfl) ?_
    refine LtK.put rfl rfl rfl (yv_load_box sc_3 rfl (RW.below _) hS hs35 trivial sg0_1) ?_
    refine LtK.put rfl rfl rfl (yx_sub rfl rfl) ?_
    refine LtK.put rfl rfl rfl (yv_neq rfl rfl) ?_
    refine LtK.put rfl rfl rfl (yv_move rfl) ?_
    refine LtK.nil ?_
    refine wpR_case 137 rfl (fun hb => ?_) (fun hb => ?_)
    rotate_left
    · replace H := cond_f H hb
      refine wpR_batch [false, false, false, false, false, false, true, true, true, true, true, true, true, true, true, true, true, true, true, true, true, true, true, true, true, true] (by decide +kernel) (by repeat (first | exact PF.body | exact PF.round | apply PF.then | apply PF.inBlock | apply PF.jump)) ?_
      refine LtK.skip rfl rfl rfl ?_
      refine LtK.skip rfl rfl rfl ?_
      refine LtK.skip rfl rfl rfl ?_
      refine LtK.skip rfl rfl rfl ?_
      refine LtK.skip rfl rfl rfl ?_
      refine LtK.skip rfl rfl rfl ?_
      refine LtK.skip rfl rfl rfl ?_
      refine LtK.skip rfl rfl rfl ?_
      refine LtK.skip rfl rfl rfl ?_
      refine LtK.skip rfl rfl rfl ?_
      refine LtK.skip rfl rfl rfl ?_
      refine LtK.skip rfl rfl rfl ?_
      refine LtK.skip rfl rfl rfl ?_
      refine LtK.skip rfl rfl rfl ?_
      refine LtK.skip rfl rfl rfl ?_
      refine LtK.skip rfl rfl rfl ?_
      refine LtK.skip rfl rfl rfl ?_
      refine LtK.skip rfl rfl rfl ?_
      refine LtK.skip rfl rfl rfl ?_
      refine LtK.put rfl rfl rfl (yv_pick_f rfl rfl rfl) ?_
      refine LtK.nil ?_
      refine wpR_end (by kernel_rfl) ?_
      refine QH_seq_k hK222 ?_
      refine wpC_cond_f rfl rfl ?_
      refine wpC_skip ?_
      refine QH_block_normal ?_
      refine QH_seq_k hK193 ?_
      refine wpC_region ?_
      refine wpS_quick 1 rfl ?_
      refine wpS_put rfl rfl rfl (yx_add rfl rfl) ?_
      refine wpS_quick 1 rfl ?_
      refine wpS_nil ?_
      exact QH_again (n, v189, (IntKind.wrap .i64 (v190 + 1))) (by repeat (first | exact Sub.nil | refine Sub.cons rfl ?_)) ⟨hS, H⟩ (Nat.lt_succ_self _)
    replace H := cond_t H hb
    refine wpR_batch [false, false, false, false, false, false, true, true, true, true, true, true, true] (by decide +kernel) (by repeat (first | exact PF.body | exact PF.round | apply PF.then | apply PF.inBlock | apply PF.jump)) ?_
    refine LtK.put rfl rfl rfl (yv_fieldAddr fo_32_10 rfl) ?_
    refine LtK.put rfl rfl rfl (yv_load_box sc_30 rfl (RW.below _) hS hs16 trivial sg21_1) ?_
    refine LtK.put rfl rfl rfl (yv_move rfl) ?_
    obtain ⟨e223, hi225, H⟩ := bind_some H
    obtain ⟨j224, hi225a, hi225b, hi225c⟩ := idx_some hi225
    refine LtK.put rfl rfl rfl (yx_idx el_30 rfl rfl hi225a hi225c (Rd.el (hS.row_rd hs21) he_enI hi225b)) ?_
    refine LtK.put rfl rfl rfl (yx_ld0 sc_3 rfl (RW.below _) (Rd.el (hS.row_rd hs21) he_enI hi225b) rfl) ?_
    refine LtK.put rfl rfl rfl (yv_neq rfl rfl) ?_
    refine LtK.put rfl rfl rfl (yv_move rfl) ?_
    refine LtK.nil ?_
    refine wpR_case 144 rfl (fun hb => ?_) (fun hb => ?_)
    · replace H := cond_t H hb
      refine wpR_batch [false, false, false, false, false, false, false, false, false, false, false, false, false, true, true, true, true, true, true, true, true, true, true, true, true, true] (by decide +kernel) (by repeat (first | exact PF.body | exact PF.round | apply PF.then | apply PF.inBlock | apply PF.jump)) ?_
      refine LtK.skip rfl rfl rfl ?_
      refine LtK.skip rfl rfl rfl ?_
      refine LtK.skip rfl rfl rfl ?_
      refine LtK.skip rfl rfl rfl ?_
      refine LtK.skip rfl rfl rfl ?_
      refine LtK.skip rfl rfl rfl ?_
      refine LtK.skip rfl rfl rfl ?_
      refine LtK.skip rfl rfl rfl ?_
      refine LtK.skip rfl rfl rfl ?_
      refine LtK.skip rfl rfl rfl ?_
      refine LtK.skip rfl rfl rfl ?_
      refine LtK.put rfl rfl rfl (yv_pick_t rfl rfl rfl) ?_
      refine LtK.put rfl rfl rfl (yv_pick_t rfl rfl rfl) ?_
      refine LtK.nil ?_
      refine wpR_end (by kernel_rfl) ?_
      refine QH_seq_k hK222 ?_
      refine wpC_cond_t rfl rfl ?_
      refine wpC_seq_k (fun K hK226 => ?_)
      refine wpC_region ?_
      refine wpS_quick 1 rfl ?_
      refine wpS_nil ?_
      refine QH_seq_k hK226 ?_
      refine wpC_ret ?_
      refine QH_block_ret ?_
      refine QH_then_ret ?_
      refine QH_then_ret ?_
      refine QH_block_ret ?_
      refine QH_then_ret ?_
      refine QH_ret rfl (RV.tmp rfl RV.nil) rfl ?_
      obtain rfl := Option.some.inj H
      replace hS := hS.cut 0
      exact ⟨rfl, hS⟩
    replace H := cond_f H hb
    refine wpR_batch [false, false, false, false, false, false, false, false, false, false, false, false, false, true, true, true, true, true, true, true, true, true, true, true, true, true] (by decide +kernel) (by repeat (first | exact PF.body | exact PF.round | apply PF.then | apply PF.inBlock | apply PF.jump)) ?_
    refine LtK.put rfl rfl rfl (yv_fieldAddr fo_32_10 rfl) ?_
    refine LtK.put rfl rfl rfl (yv_load_box sc_30 rfl (RW.below _) hS hs10 trivial sg21_1) ?_
    refine LtK.put rfl rfl rfl (yv_move rfl) ?_
    obtain ⟨e227, hi229, H⟩ := bind_some H
    obtain ⟨j228, hi229a, hi229b, hi229c⟩ := idx_some hi229
    refine LtK.put rfl rfl rfl (yx_idx el_30 rfl rfl hi229a hi229c (Rd.el (hS.row_rd hs15) he_enI hi229b)) ?_
    refine LtK.put rfl rfl rfl (yx_ld0 sc_3 rfl (RW.below _) (Rd.el (hS.row_rd hs15) he_enI hi229b) rfl) ?_
    refine LtK.put rfl rfl rfl (yv_fieldAddr fo_32_10 rfl) ?_
    refine LtK.put rfl rfl rfl (yv_load_box sc_30 rfl (RW.below _) hS hs35 trivial sg21_1) ?_
    refine LtK.put rfl rfl rfl (yv_move rfl) ?_
    obtain ⟨e230, hi232, H⟩ := bind_some H
    obtain ⟨j231, hi232a, hi232b, hi232c⟩ := idx_some hi232
    refine LtK.put rfl rfl rfl (yx_idx el_30 rfl rfl hi232a hi232c (Rd.el (hS.rd0 s4_.rd) he_enI hi232b)) ?_
    refine LtK.put rfl rfl rfl (yx_ld0 sc_3 rfl (RW.below _) (Rd.el (hS.rd0 s4_.rd) he_enI hi232b) rfl) ?_
    refine LtK.put rfl rfl rfl (yv_neq rfl rfl) ?_
    refine LtK.put rfl rfl rfl (yv_pick_f rfl rfl rfl) ?_
    refine LtK.put rfl rfl rfl (yv_pick_t rfl rfl rfl) ?_
    refine LtK.nil ?_
    refine wpR_end (by kernel_rfl) ?_
    refine QH_seq_k hK222 ?_
    refine wpC_cond rfl (fun hb => ?_) (fun hb => ?_)
    rotate_left
    · replace H := cond_f H hb
      refine wpC_skip ?_
      refine QH_block_normal ?_
      refine QH_seq_k hK193 ?_
      refine wpC_region ?_
      refine wpS_quick 1 rfl ?_
      refine wpS_put rfl rfl rfl (yx_add rfl rfl) ?_
      refine wpS_quick 1 rfl ?_
      refine wpS_nil ?_
      exact QH_again (n, v189, (IntKind.wrap .i64 (v190 + 1))) (by repeat (first | exact Sub.nil | refine Sub.cons rfl ?_)) ⟨hS, H⟩ (Nat.lt_succ_self _)
    replace H := cond_t H hb
    refine wpC_seq_k (fun K hK233 => ?_)
    refine wpC_region ?_
    refine wpS_quick 1 rfl ?_
    refine wpS_nil ?_
    refine QH_seq_k hK233 ?_
    refine wpC_ret ?_
    refine QH_block_ret ?_
    refine QH_then_ret ?_
    refine QH_then_ret ?_
    refine QH_block_ret ?_
    refine QH_then_ret ?_
    refine QH_ret rfl (RV.tmp rfl RV.nil) rfl ?_
    obtain rfl := Option.some.inj H
    replace hS := hS.cut 0
    exact ⟨rfl, hS⟩
  replace H := cond_t H hb
  refine wpR_batch [false, false, false, false, false, false, false, false, false, false, false, false, false, false, false, true, true, true, true, true, true, true, true, true, true, true, true, true] (by decide +kernel) (by repeat (first | exact PF.body | exact PF.round | apply PF.then | apply PF.inBlock | apply PF.jump)) ?_
  refine LtK.put rfl rfl rfl (yv_fieldAddr fo_32_10 rfl) ?_
  refine LtK.put rfl rfl rfl (yv_load_box sc_30 rfl (RW.below _) hS hs22 trivial sg21_1) ?_
  refine LtK.put rfl rfl rfl (yv_move rfl) ?_
  obtain ⟨e203, hi205, H⟩ := bind_some H
  obtain ⟨j204, hi205a, hi205b, hi205c⟩ := idx_some hi205
  refine LtK.put rfl rfl rfl (yx_idx el_30 rfl rfl hi205a hi205c (Rd.el (hS.row_rd hs27) he_enI hi205b)) ?_
  refine LtK.put rfl rfl rfl (yx_ld0 sc_3 rfl (RW.below _) (Rd.el (hS.row_rd hs27) he_enI hi205b) rfl) ?_
  refine LtK.put rfl rfl rfl (yv_fieldAddr fo_32_10 rfl) ?_
  refine LtK.put rfl rfl rfl (yv_load_box sc_30 rfl (RW.below _) hS hs35 trivial sg21_1) ?_
  refine LtK.put rfl rfl rfl (yv_move rfl) ?_
  obtain ⟨e206, hi208, H⟩ := bind_some H
  obtain ⟨j207, hi208a, hi208b, hi208c⟩ := idx_some hi208
  refine LtK.put rfl rfl rfl (yx_idx el_30 rfl rfl hi208a hi208c (Rd.el (hS.rd0 s4_.rd) he_enI hi208b)) ?_
  refine LtK.put rfl rfl rfl (yx_ld0 sc_3 rfl (RW.below _) (Rd.el (hS.rd0 s4_.rd) he_enI hi208b) rfl) ?_
  refine LtK.put rfl rfl rfl (yv_neq rfl rfl) ?_
  refine LtK.put rfl rfl rfl (yv_pick_t rfl rfl rfl) ?_
  refine LtK.put rfl rfl rfl (yv_pick_f rfl rfl rfl) ?_
  refine LtK.nil ?_
  refine wpR_end (by kernel_rfl) ?_
  refine QH_seq_k hK198 ?_
  refine wpC_cond rfl (fun hb => ?_) (fun hb => ?_)
  · replace H := cond_t H hb
    refine wpC_seq_k (fun K hK209 => ?_)
    refine wpC_region ?_
    refine wpS_quick 1 rfl ?_
    refine wpS_nil ?_
    refine QH_seq_k hK209 ?_
    refine wpC_ret ?_
    refine QH_then_ret ?_
    refine QH_block_ret ?_
    refine QH_then_ret ?_
    refine QH_then_ret ?_
    refine QH_block_ret ?_
    refine QH_then_ret ?_
    refine QH_ret rfl (RV.tmp rfl RV.nil) rfl ?_
    obtain rfl := Option.some.inj H
    replace hS := hS.cut 0
    exact ⟨rfl, hS⟩
  replace H := cond_f H hb
  refine wpC_skip ?_
  refine QH_seq_k hK197 ?_
  refine wpC_seq_k (fun K hK210 => ?_)
  refine wpC_draw 26 [] (fun _ _ => True) ⟨by kernel_rfl, by kernel_rfl⟩ hS (fun w hS hB => ?_)
  refine wpR_batch [true, true, true, true, true, true] (by decide +kernel) (by repeat (first | exact PF.body | exact PF.round | apply PF.then | apply PF.inBlock | apply PF.jump)) ?_
  refine LtK.put rfl rfl rfl (yv_move rfl) ?_
  refine LtK.put rfl rfl rfl (yv_fieldAddr fo_32_0 rfl) ?_
  refine LtK.put rfl rfl rfl (yv_load_box sc_3 rfl (RW.below _) hS hs35 trivial sg0_1) ?_
  refine LtK.put rfl rfl rfl (yx_sub rfl rfl) ?_
  refine LtK.put rfl rfl rfl (yv_neq rfl rfl) ?_
  refine LtK.put rfl rfl rfl (yv_move rfl) ?_
  refine LtK.nil ?_
  refine wpR_case 137 rfl (fun hb => ?_) (fun hb => ?_)
  rotate_left
  · replace H := cond_f H hb
    refine wpR_batch [false, false, false, false, false, false, true, true, true, true, true, true, true, true, true, true, true, true, true, true, true, true, true, true, true, true] (by decide +kernel) (by repeat (first | exact PF.body | exact PF.round | apply PF.then | apply PF.inBlock | apply PF.jump)) ?_
    refine LtK.skip rfl rfl rfl ?_
    refine LtK.skip rfl rfl rfl ?_
    refine LtK.skip rfl rfl rfl ?_
    refine LtK.skip rfl rfl rfl ?_
    refine LtK.skip rfl rfl rfl ?_
    refine LtK.skip rfl rfl rfl ?_
    refine LtK.skip rfl rfl rfl ?_
    refine LtK.skip rfl rfl rfl ?_
    refine LtK.skip rfl rfl rfl ?_
    refine LtK.skip rfl rfl rfl ?_
    refine LtK.skip rfl rfl rfl ?_
    refine LtK.skip rfl rfl rfl ?_
    refine LtK.skip rfl rfl rfl ?_
    refine LtK.skip rfl rfl rfl ?_
    refine LtK.skip rfl rfl rfl ?_
    refine LtK.skip rfl rfl rfl ?_
    refine LtK.skip rfl rfl rfl ?_
    refine LtK.skip rfl rfl rfl ?_
    refine LtK.skip rfl rfl rfl ?_
    refine LtK.put rfl rfl rfl (yv_pick_f rfl rfl rfl) ?_
    refine LtK.nil ?_
    refine wpR_end (by kernel_rfl) ?_
    refine QH_seq_k hK210 ?_
    refine wpC_cond_f rfl rfl ?_
    refine wpC_skip ?_
    refine QH_block_normal ?_
    refine QH_seq_k hK193 ?_
    refine wpC_region ?_
    refine wpS_quick 1 rfl ?_
    refine wpS_put rfl rfl rfl (yx_add rfl rfl) ?_
    refine wpS_quick 1 rfl ?_
    refine wpS_nil ?_
    exact QH_again (n, v189, (IntKind.wrap .i64 (v190 + 1))) (by repeat (first | exact Sub.nil | refine Sub.cons rfl ?_)) ⟨hS, H⟩ (Nat.lt_succ_self _)
  replace H := cond_t H hb
  refine wpR_batch [false, false, false, false, false, false, true, true, true, true, true, true, true] (by decide +kernel) (by repeat (first | exact PF.body | exact PF.round | apply PF.then | apply PF.inBlock | apply PF.jump)) ?_
  refine LtK.put rfl rfl rfl (yv_fieldAddr fo_32_10 rfl) ?_
  refine LtK.put rfl rfl rfl (yv_load_box sc_30 rfl (RW.below _) hS hs16 trivial sg21_1) ?_
  refine LtK.put rfl rfl rfl (yv_move rfl) ?_
  obtain ⟨e211, hi213, H⟩ := bind_some H
  obtain ⟨j212, hi213a, hi213b, hi213c⟩ := idx_some hi213
  refine LtK.put rfl rfl rfl (yx_idx el_30 rfl rfl hi213a hi213c (Rd.el (hS.row_rd hs21) he_enI hi213b)) ?_
  refine LtK.put rfl rfl rfl (yx_ld0 sc_3 rfl (RW.below _) (Rd.el (hS.row_rd hs21) he_enI hi213b) rfl) ?_
  refine LtK.put rfl rfl rfl (yv_neq rfl rfl) ?_
  refine LtK.put rfl rfl rfl (yv_move rfl) ?_
  refine LtK.nil ?_
  refine wpR_case 144 rfl (fun hb => ?_) (fun hb => ?_)
  · replace H := cond_t H hb
    refine wpR_batch [false, false, false, false, false, false, false, false, false, false, false, false, false, true, true, true, true, true, true, true, true, true, true, true, true, true] (by decide +kernel) (by repeat (first | exact PF.body | exact PF.round | apply PF.then | apply PF.inBlock | apply PF.jump)) ?_
    refine LtK.skip rfl rfl rfl ?_
    refine LtK.skip rfl rfl rfl ?_
    refine LtK.skip rfl rfl rfl ?_
    refine LtK.skip rfl rfl rfl ?_
    refine LtK.skip rfl rfl rfl ?_
    refine LtK.skip rfl rfl rfl ?_
    refine LtK.skip rfl rfl rfl ?_
    refine LtK.skip rfl rfl rfl ?_
    refine LtK.skip rfl rfl rfl ?_
    refine LtK.skip rfl rfl rfl ?_
    refine LtK.skip rfl rfl rfl ?_
    refine LtK.put rfl rfl rfl (yv_pick_t rfl rfl rfl) ?_
    refine LtK.put rfl rfl rfl (yv_pick_t rfl rfl rfl) ?_
    refine LtK.nil ?_
    refine wpR_end (by kernel_rfl) ?_
    refine QH_seq_k hK210 ?_
    refine wpC_cond_t rfl rfl ?_
    refine wpC_seq_k (fun K hK214 => ?_)
    refine wpC_region ?_
    refine wpS_quick 1 rfl ?_
    refine wpS_nil ?_
    refine QH_seq_k hK214 ?_
    refine wpC_ret ?_
    refine QH_block_ret ?_
    refine QH_then_ret ?_
    refine QH_then_ret ?_
    refine QH_block_ret ?_
    refine QH_then_ret ?_
    refine QH_ret rfl (RV.tmp rfl RV.nil) rfl ?_
    obtain rfl := Option.some.inj H
    replace hS := hS.cut 0
    exact ⟨rfl, hS⟩
  replace H := cond_f H hb
  refine wpR_batch [false, false, false, false, false, false, false, false, false, false, false, false, false, true, true, true, true, true, true, true, true, true, true, true, true, true] (by decide +kernel) (by repeat (first | exact PF.body | exact PF.round | apply PF.then | apply PF.inBlock | apply PF.jump)) ?_
  refine LtK.put rfl rfl rfl (yv_fieldAddr fo_32_10 rfl) ?_
  refine LtK.put rfl rfl rfl (yv_load_box sc_30 rfl (RW.below _) hS hs10 trivial sg21_1) ?_
  refine LtK.put rfl rfl rfl (yv_move rfl) ?_
  obtain ⟨e215, hi217, H⟩ := bind_some H
  obtain ⟨j216, hi217a, hi217b, hi217c⟩ := idx_some hi217
  refine LtK.put rfl rfl rfl (yx_idx el_30 rfl rfl hi217a hi217c (Rd.el (hS.row_rd hs15) he_enI hi217b)) ?_
  refine LtK.put rfl rfl rfl (yx_ld0 sc_3 rfl (RW.below _) (Rd.el (hS.row_rd hs15) he_enI hi217b) rfl) ?_
  refine LtK.put rfl rfl rfl (yv_fieldAddr fo_32_10 rfl) ?_
  refine LtK.put rfl rfl rfl (yv_load_box sc_30 rfl (RW.below _) hS hs35 trivial sg21_1) ?_
  refine LtK.put rfl rfl rfl (yv_move rfl) ?_
  obtain ⟨e218, hi220, H⟩ := bind_some H
  obtain ⟨j219, hi220a, hi220b, hi220c⟩ := idx_some hi220
  refine LtK.put rfl rfl rfl (yx_idx el_30 rfl rfl hi220a hi220c (Rd.el (hS.rd0 s4_.rd) he_enI hi220b)) ?_
  refine LtK.put rfl rfl rfl (yx_ld0 sc_3 rfl (RW.below _) (Rd.el (hS.rd0 s4_.rd) he_enI hi220b) rfl) ?_
  refine LtK.put rfl rfl rfl (yv_neq rfl rfl) ?_
  refine LtK.put rfl rfl rfl (yv_pick_f rfl rfl rfl) ?_
  refine LtK.put rfl rfl rfl (yv_pick_t rfl rfl rfl) ?_
  refine LtK.nil ?_
  refine wpR_end (by kernel_rfl) ?_
  refine QH_seq_k hK210 ?_
  refine wpC_cond rfl (fun hb => ?_) (fun hb => ?_)
  rotate_left
  · replace H := cond_f H hb
    refine wpC_skip ?_
    refine QH_block_normal ?_
    refine QH_seq_k hK193 ?_
    refine wpC_region ?_
    refine wpS_quick 1 rfl ?_
    refine wpS_put rfl rfl rfl (yx_add rfl rfl) ?_
    refine wpS_quick 1 rfl ?_
    refine wpS_nil ?_
    exact QH_again (n, v189, (IntKind.wrap .i64 (v190 + 1))) (by repeat (first | exact Sub.nil | refine Sub.cons rfl ?_)) ⟨hS, H⟩ (Nat.lt_succ_self _)
  replace H := cond_t H hb
  refine wpC_seq_k (fun K hK221 => ?_)
  refine wpC_region ?_
  refine wpS_quick 1 rfl ?_
  refine wpS_nil ?_
  refine QH_seq_k hK221 ?_
  refine wpC_ret ?_
  refine QH_block_ret ?_
  refine QH_then_ret ?_
  refine QH_then_ret ?_
  refine QH_block_ret ?_
  refine QH_then_ret ?_
  refine QH_ret rfl (RV.tmp rfl RV.nil) rfl ?_
  obtain rfl := Option.some.inj H
  replace hS := hS.cut 0
  exact ⟨rfl, hS⟩
end Go.Proofs.Ytohkkncfofomdaa
