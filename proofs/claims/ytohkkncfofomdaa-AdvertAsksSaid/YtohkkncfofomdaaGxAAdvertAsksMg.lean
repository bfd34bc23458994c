/- What functions compute, in plain terms, and that they do; printed. -/
import Derived.Test.YtohkkncfofomdaaMg1
import Derived.Test.YtohkkncfofomdaaMg2
import Derived.Test.YtohkkncfofomdaaMg4
namespace Go.Proofs.Ytohkkncfofomdaa
open Go Go.RowKit
set_option maxRecDepth 100000
set_option maxHeartbeats 4000000
theorem c_law21_AdvertAsks (x0 : Co) (x1 : Co) (x2 : Int) (A0_ : Option Addr) (c0_ : Nat) (A1_ : Option Addr) (c1_ : Nat) (A2_ : Option Addr) (c2_ : Nat) (A3_ : Option Addr) (c3_ : Nat) (A4_ : Option Addr) (c4_ : Nat) (A5_ : Option Addr) (c5_ : Nat) (A6_ : Option Addr) (c6_ : Nat) (A7_ : Option Addr) (c7_ : Nat) (A8_ : Option Addr) (c8_ : Nat) (A9_ : Option Addr) (c9_ : Nat) (w0 : World) (s0_ : SlI w0 enE A0_ c0_ x0.tuple.log) (s1_ : SlI w0 enO A1_ c1_ x0.votes) (s2_ : SlI w0 enI A2_ c2_ x0.next) (s3_ : SlI w0 enI A3_ c3_ x0.mtch) (s4_ : SlI w0 enI A4_ c4_ x0.caps) (s5_ : SlI w0 enE A5_ c5_ x1.tuple.log) (s6_ : SlI w0 enO A6_ c6_ x1.votes) (s7_ : SlI w0 enI A7_ c7_ x1.next) (s8_ : SlI w0 enI A8_ c8_ x1.mtch) (s9_ : SlI w0 enI A9_ c9_ x1.caps) {r : Bool} (H : m_law21_AdvertAsks x0 x1 x2 = some r) : Calls Try.prog 8 #[.agg #[.int .i64 x0.id, .int .i64 x0.n, .int .u8 x0.role, .int .i64 x0.binary, .int .i64 x0.tuple.snap.index, .int .i64 x0.tuple.snap.term, .int .i64 x0.tuple.snap.sum, .int .i64 x0.tuple.snap.level, .bool x0.tuple.snap.final, .slice A0_ x0.tuple.log.length c0_, .int .i64 x0.tuple.term, .int .i64 x0.tuple.vote, .int .i64 x0.commit, .int .i64 x0.applied.index, .int .i64 x0.applied.term, .int .i64 x0.applied.sum, .int .i64 x0.applied.level, .bool x0.applied.final, .slice A1_ x0.votes.length c1_, .slice A2_ x0.next.length c2_, .slice A3_ x0.mtch.length c3_, .slice A4_ x0.caps.length c4_], .agg #[.int .i64 x1.id, .int .i64 x1.n, .int .u8 x1.role, .int .i64 x1.binary, .int .i64 x1.tuple.snap.index, .int .i64 x1.tuple.snap.term, .int .i64 x1.tuple.snap.sum, .int .i64 x1.tuple.snap.level, .bool x1.tuple.snap.final, .slice A5_ x1.tuple.log.length c5_, .int .i64 x1.tuple.term, .int .i64 x1.tuple.vote, .int .i64 x1.commit, .int .i64 x1.applied.index, .int .i64 x1.applied.term, .int .i64 x1.applied.sum, .int .i64 x1.applied.level, .bool x1.applied.final, .slice A6_ x1.votes.length c6_, .slice A7_ x1.next.length c7_, .slice A8_ x1.mtch.length c8_, .slice A9_ x1.caps.length c9_], .int .i64 x2] w0 fun e w' => e = .returned (.bool r) ∧ St0 All w0 w' [] := by
  unfold m_law21_AdvertAsks at H
  refine gw_enter3 Try.func8 rfl Try.ntmps8 rfl ?_
  have hS := St0.start All w0
  refine wpC_seq_k (fun K hK1 => ?_)
  refine wpC_region ?_
  refine wpS_box rfl rfl rfl CellsOf.agg hS (fun b2 w hS hB => ?_)
  refine wpS_box rfl rfl rfl CellsOf.agg hS (fun b4 w hS hB => ?_)
  refine wpS_quick 1 rfl ?_
  refine wpS_nil ?_
  refine QH_seq_k hK1 ?_
  refine wpC_seq_k (fun K hK6 => ?_)
  refine wpC_seq_k (fun K hK7 => ?_)
  refine wpC_region ?_
  refine wpS_put rfl rfl rfl (yv_load_boxA ag_32 rfl (RW.here _) hS hs1 trivial sg0_22) ?_
  obtain ⟨r8, hm9, H⟩ := bind_some H
  refine wpS_call rfl rfl rfl rfl (by kernel_rfl) rfl (c_ref20_Great x0 A0_ c0_ A1_ c1_ A2_ c2_ A3_ c3_ A4_ c4_ _ (SlI.of_rd s0_.k (hS.rd0 s0_.rd) (hS.blk0 s0_.blk)) (SlI.of_rd s1_.k (hS.rd0 s1_.rd) (hS.blk0 s1_.blk)) (SlI.of_rd s2_.k (hS.rd0 s2_.rd) (hS.blk0 s2_.blk)) (SlI.of_rd s3_.k (hS.rd0 s3_.rd) (hS.blk0 s3_.blk)) (SlI.of_rd s4_.k (hS.rd0 s4_.rd) (hS.blk0 s4_.blk)) hm9) ?_
  rintro e w ⟨rfl, hN⟩; refine ⟨_, rfl, ?_⟩; have hB := hN.pure; have hS := hS.join hN; clear hN
  refine wpS_quick 1 rfl ?_
  refine wpS_case 14 rfl (fun hb => ?_) (fun hb => ?_)
  · replace H := cond_t H hb
    refine wpS_quick 13 rfl ?_
    refine wpS_nil ?_
    refine QH_seq_k hK7 ?_
    refine wpC_cond_t rfl rfl ?_
    refine wpC_seq_k (fun K hK10 => ?_)
    refine wpC_region ?_
    obtain ⟨r11, hm12, H⟩ := bind_some H
    refine wpS_call rfl rfl rfl rfl (by kernel_rfl) rfl (c_law21_wakes _ hm12) ?_
    rintro e w ⟨rfl, hN⟩; refine ⟨_, rfl, ?_⟩; have hB := hN.pure; have hS := hS.join hN; clear hN
    refine wpS_quick 1 rfl ?_
    refine wpS_nil ?_
    refine QH_seq_k hK10 ?_
    refine wpC_ret ?_
    refine QH_then_ret ?_
    refine QH_ret rfl (RV.tmp rfl RV.nil) rfl ?_
    obtain rfl := Option.some.inj H
    replace hS := hS.cut 0
    exact ⟨rfl, hS⟩
  replace H := cond_f H hb
  refine wpS_put rfl rfl rfl (yv_load_boxA ag_32 rfl (RW.here _) hS hs0 trivial sg0_22) ?_
  obtain ⟨r13, hm14, H⟩ := bind_some H
  refine wpS_call rfl rfl rfl rfl (by kernel_rfl) rfl (c_ref20_Great x1 A5_ c5_ A6_ c6_ A7_ c7_ A8_ c8_ A9_ c9_ _ (SlI.of_rd s5_.k (hS.rd0 s5_.rd) (hS.blk0 s5_.blk)) (SlI.of_rd s6_.k (hS.rd0 s6_.rd) (hS.blk0 s6_.blk)) (SlI.of_rd s7_.k (hS.rd0 s7_.rd) (hS.blk0 s7_.blk)) (SlI.of_rd s8_.k (hS.rd0 s8_.rd) (hS.blk0 s8_.blk)) (SlI.of_rd s9_.k (hS.rd0 s9_.rd) (hS.blk0 s9_.blk)) hm14) ?_
  rintro e w ⟨rfl, hN⟩; refine ⟨_, rfl, ?_⟩; have hB := hN.pure; have hS := hS.join hN; clear hN
  refine wpS_quick 2 rfl ?_
  refine wpS_case 18 rfl (fun hb => ?_) (fun hb => ?_)
  · replace H := cond_t H hb
    refine wpS_quick 9 rfl ?_
    refine wpS_nil ?_
    refine QH_seq_k hK7 ?_
    refine wpC_cond_t rfl rfl ?_
    refine wpC_seq_k (fun K hK15 => ?_)
    refine wpC_region ?_
    obtain ⟨r16, hm17, H⟩ := bind_some H
    refine wpS_call rfl rfl rfl rfl (by kernel_rfl) rfl (c_law21_wakes _ hm17) ?_
    rintro e w ⟨rfl, hN⟩; refine ⟨_, rfl, ?_⟩; have hB := hN.pure; have hS := hS.join hN; clear hN
    refine wpS_quick 1 rfl ?_
    refine wpS_nil ?_
    refine QH_seq_k hK15 ?_
    refine wpC_ret ?_
    refine QH_then_ret ?_
    refine QH_ret rfl (RV.tmp rfl RV.nil) rfl ?_
    obtain rfl := Option.some.inj H
    replace hS := hS.cut 0
    exact ⟨rfl, hS⟩
  replace H := cond_f H hb
  refine wpS_put rfl rfl rfl (yv_load_boxA ag_32 rfl (RW.here _) hS hs1 trivial sg0_22) ?_
  obtain ⟨r18, hm19, H⟩ := bind_some H
  refine wpS_call rfl rfl rfl rfl (by kernel_rfl) rfl (c_ref20_Right x0 A0_ c0_ A1_ c1_ A2_ c2_ A3_ c3_ A4_ c4_ _ (SlI.of_rd s0_.k (hS.rd0 s0_.rd) (hS.blk0 s0_.blk)) (SlI.of_rd s1_.k (hS.rd0 s1_.rd) (hS.blk0 s1_.blk)) (SlI.of_rd s2_.k (hS.rd0 s2_.rd) (hS.blk0 s2_.blk)) (SlI.of_rd s3_.k (hS.rd0 s3_.rd) (hS.blk0 s3_.blk)) (SlI.of_rd s4_.k (hS.rd0 s4_.rd) (hS.blk0 s4_.blk)) hm19) ?_
  rintro e w ⟨rfl, hN⟩; refine ⟨_, rfl, ?_⟩; have hB := hN.pure; have hS := hS.join hN; clear hN
  refine wpS_put rfl rfl rfl (yv_not rfl) ?_
  refine wpS_quick 2 rfl ?_
  refine wpS_case 23 rfl (fun hb => ?_) (fun hb => ?_)
  · replace H := cond_t H hb
    refine wpS_quick 4 rfl ?_
    refine wpS_nil ?_
    refine QH_seq_k hK7 ?_
    refine wpC_cond_t rfl rfl ?_
    refine wpC_seq_k (fun K hK20 => ?_)
    refine wpC_region ?_
    obtain ⟨r21, hm22, H⟩ := bind_some H
    refine wpS_call rfl rfl rfl rfl (by kernel_rfl) rfl (c_law21_wakes _ hm22) ?_
    rintro e w ⟨rfl, hN⟩; refine ⟨_, rfl, ?_⟩; have hB := hN.pure; have hS := hS.join hN; clear hN
    refine wpS_quick 1 rfl ?_
    refine wpS_nil ?_
    refine QH_seq_k hK20 ?_
    refine wpC_ret ?_
    refine QH_then_ret ?_
    refine QH_ret rfl (RV.tmp rfl RV.nil) rfl ?_
    obtain rfl := Option.some.inj H
    replace hS := hS.cut 0
    exact ⟨rfl, hS⟩
  replace H := cond_f H hb
  refine wpS_put rfl rfl rfl (yv_load_boxA ag_32 rfl (RW.here _) hS hs0 trivial sg0_22) ?_
  obtain ⟨r23, hm24, H⟩ := bind_some H
  refine wpS_call rfl rfl rfl rfl (by kernel_rfl) rfl (c_ref20_Right x1 A5_ c5_ A6_ c6_ A7_ c7_ A8_ c8_ A9_ c9_ _ (SlI.of_rd s5_.k (hS.rd0 s5_.rd) (hS.blk0 s5_.blk)) (SlI.of_rd s6_.k (hS.rd0 s6_.rd) (hS.blk0 s6_.blk)) (SlI.of_rd s7_.k (hS.rd0 s7_.rd) (hS.blk0 s7_.blk)) (SlI.of_rd s8_.k (hS.rd0 s8_.rd) (hS.blk0 s8_.blk)) (SlI.of_rd s9_.k (hS.rd0 s9_.rd) (hS.blk0 s9_.blk)) hm24) ?_
  rintro e w ⟨rfl, hN⟩; refine ⟨_, rfl, ?_⟩; have hB := hN.pure; have hS := hS.join hN; clear hN
  refine wpS_put rfl rfl rfl (yv_not rfl) ?_
  refine wpS_quick 1 rfl ?_
  refine wpS_nil ?_
  refine QH_seq_k hK7 ?_
  refine wpC_cond rfl (fun hb => ?_) (fun hb => ?_)
  · replace H := cond_t H hb
    refine wpC_seq_k (fun K hK25 => ?_)
    refine wpC_region ?_
    obtain ⟨r26, hm27, H⟩ := bind_some H
    refine wpS_call rfl rfl rfl rfl (by kernel_rfl) rfl (c_law21_wakes _ hm27) ?_
    rintro e w ⟨rfl, hN⟩; refine ⟨_, rfl, ?_⟩; have hB := hN.pure; have hS := hS.join hN; clear hN
    refine wpS_quick 1 rfl ?_
    refine wpS_nil ?_
    refine QH_seq_k hK25 ?_
    refine wpC_ret ?_
    refine QH_then_ret ?_
    refine QH_ret rfl (RV.tmp rfl RV.nil) rfl ?_
    obtain rfl := Option.some.inj H
    replace hS := hS.cut 0
    exact ⟨rfl, hS⟩
  replace H := cond_f H hb
  refine wpC_skip ?_
  refine QH_seq_k hK6 ?_
  refine wpC_seq_k (fun K hK28 => ?_)
  refine wpC_region ?_
  refine wpS_quick 1 rfl ?_
  refine wpS_nil ?_
  refine QH_seq_k hK28 ?_
  refine wpC_seq_k (fun K hK29 => ?_)
  refine wpC_seq_k (fun K hK30 => ?_)
  refine wpC_region ?_
  refine wpS_quick 1 rfl ?_
  refine wpS_nil ?_
  refine QH_seq_k hK30 ?_
  refine wpC_block ?_
  refine wpC_loop (X := Nat × Bool × Int) (fun x => (2, .int .i64 x2) :: (3, .pointer (some ⟨b2, 0, none⟩)) :: (4, .pointer (some ⟨b4, 0, none⟩)) :: (6, .bool false) :: (7, .bool x.2.1) :: (8, .int .i64 x.2.2) :: []) (fun x w => St0 All w0 w (.box b4 [.int .i64 x1.id, .int .i64 x1.n, .int .u8 x1.role, .int .i64 x1.binary, .int .i64 x1.tuple.snap.index, .int .i64 x1.tuple.snap.term, .int .i64 x1.tuple.snap.sum, .int .i64 x1.tuple.snap.level, .bool x1.tuple.snap.final, .slice A5_ x1.tuple.log.length c5_, .int .i64 x1.tuple.term, .int .i64 x1.tuple.vote, .int .i64 x1.commit, .int .i64 x1.applied.index, .int .i64 x1.applied.term, .int .i64 x1.applied.sum, .int .i64 x1.applied.level, .bool x1.applied.final, .slice A6_ x1.votes.length c6_, .slice A7_ x1.next.length c7_, .slice A8_ x1.mtch.length c8_, .slice A9_ x1.caps.length c9_] 32 :: .box b2 [.int .i64 x0.id, .int .i64 x0.n, .int .u8 x0.role, .int .i64 x0.binary, .int .i64 x0.tuple.snap.index, .int .i64 x0.tuple.snap.term, .int .i64 x0.tuple.snap.sum, .int .i64 x0.tuple.snap.level, .bool x0.tuple.snap.final, .slice A0_ x0.tuple.log.length c0_, .int .i64 x0.tuple.term, .int .i64 x0.tuple.vote, .int .i64 x0.commit, .int .i64 x0.applied.index, .int .i64 x0.applied.term, .int .i64 x0.applied.sum, .int .i64 x0.applied.level, .bool x0.applied.final, .slice A1_ x0.votes.length c1_, .slice A2_ x0.next.length c2_, .slice A3_ x0.mtch.length c3_, .slice A4_ x0.caps.length c4_] 32 :: []) ∧ m_law21_AdvertAsks_l1 x0 x1 x2 x.1 x.2.1 x.2.2 = some r) (fun x => x.1) (fuelN, true, 0) (by repeat (first | exact Sub.nil | refine Sub.cons rfl ?_)) ⟨hS, H⟩ ?_
  rintro ⟨n, v31, v32⟩ w ⟨hS, H⟩
  dsimp only at hS H ⊢
  obtain _ | n := n
  · have H0 : none = some r := H
    cases H0
  rw [m_law21_AdvertAsks_l1] at H
  refine wpC_seq_k (fun K hK33 => ?_)
  refine wpC_seq_k (fun K hK34 => ?_)
  refine wpC_region ?_
  refine wpS_quick 1 rfl ?_
  refine wpS_put rfl rfl rfl (yv_fieldAddr fo_32_1 rfl) ?_
  refine wpS_put rfl rfl rfl (yv_load_box sc_3 rfl (RW.here _) hS hs1 trivial sg1_1) ?_
  refine wpS_put rfl rfl rfl (yv_lss rfl rfl) ?_
  refine wpS_nil ?_
  refine QH_seq_k hK34 ?_
  refine wpC_cond rfl (fun hb => ?_) (fun hb => ?_)
  · replace H := cond_t H hb
    refine wpC_skip ?_
    refine QH_seq_k hK33 ?_
    refine wpC_seq_k (fun K hK35 => ?_)
    refine wpC_block ?_
    refine wpC_region ?_
    refine wpS_quick 2 rfl ?_
    refine wpS_case 36 rfl (fun hb => ?_) (fun hb => ?_)
    rotate_left
    · replace H := cond_f H hb
      refine wpS_quick 8 rfl ?_
      refine wpS_nil ?_
      refine QH_block_normal ?_
      refine QH_seq_k hK35 ?_
      refine wpC_region ?_
      refine wpS_quick 1 rfl ?_
      refine wpS_put rfl rfl rfl (yx_add rfl rfl) ?_
      refine wpS_quick 1 rfl ?_
      refine wpS_nil ?_
      exact QH_again (n, false, (IntKind.wrap .i64 (v32 + 1))) (by repeat (first | exact Sub.nil | refine Sub.cons rfl ?_)) ⟨hS, H⟩ (Nat.lt_succ_self _)
    replace H := cond_t H hb
    refine wpS_put rfl rfl rfl (yv_fieldAddr fo_32_10 rfl) ?_
    refine wpS_put rfl rfl rfl (yv_load_box sc_30 rfl (RW.here _) hS hs1 trivial sg21_1) ?_
    refine wpS_quick 1 rfl ?_
    obtain ⟨e36, hi38, H⟩ := bind_some H
    obtain ⟨j37, hi38a, hi38b, hi38c⟩ := idx_some hi38
    refine wpS_put rfl rfl rfl (yx_idx el_30 rfl rfl hi38a hi38c (Rd.el (hS.rd0 s4_.rd) he_enI hi38b)) ?_
    refine wpS_put rfl rfl rfl (yx_ld0 sc_3 rfl (RW.here _) (Rd.el (hS.rd0 s4_.rd) he_enI hi38b) rfl) ?_
    refine wpS_put rfl rfl rfl (yv_eql rfl rfl) ?_
    refine wpS_quick 2 rfl ?_
    refine wpS_nil ?_
    refine QH_block_normal ?_
    refine QH_seq_k hK35 ?_
    refine wpC_region ?_
    refine wpS_quick 1 rfl ?_
    refine wpS_put rfl rfl rfl (yx_add rfl rfl) ?_
    refine wpS_quick 1 rfl ?_
    refine wpS_nil ?_
    exact QH_again (n, (decide (e36 = 2)), (IntKind.wrap .i64 (v32 + 1))) (by repeat (first | exact Sub.nil | refine Sub.cons rfl ?_)) ⟨hS, H⟩ (Nat.lt_succ_self _)
  replace H := cond_f H hb
  refine wpC_exit ?_
  refine QH_then_exit ?_
  refine QH_then_exit ?_
  refine QH_block_hit ?_
  refine QH_seq_k hK29 ?_
  refine wpC_seq_k (fun K hK39 => ?_)
  refine wpC_region ?_
  refine wpS_put rfl rfl rfl (yv_load_boxA ag_32 rfl (RW.here _) hS hs1 trivial sg0_22) ?_
  obtain ⟨r40, hm41, H⟩ := bind_some H
  refine wpS_call rfl rfl rfl rfl (by kernel_rfl) rfl (c_advert_Forget x0 A0_ c0_ A1_ c1_ A2_ c2_ A3_ c3_ A4_ c4_ _ (SlI.of_rd s0_.k (hS.rd0 s0_.rd) (hS.blk0 s0_.blk)) (SlI.of_rd s1_.k (hS.rd0 s1_.rd) (hS.blk0 s1_.blk)) (SlI.of_rd s2_.k (hS.rd0 s2_.rd) (hS.blk0 s2_.blk)) (SlI.of_rd s3_.k (hS.rd0 s3_.rd) (hS.blk0 s3_.blk)) (SlI.of_rd s4_.k (hS.rd0 s4_.rd) (hS.blk0 s4_.blk)) hm41) ?_
  rintro e w ⟨A42, c43, A46, c47, A50, c51, A54, c55, A58, c59, rfl, k44, k48, k52, k56, k60, hN⟩; refine ⟨_, rfl, ?_⟩; have hB := hN.pure; have hS := hS.join hN; clear hN
  refine wpS_alloc rfl rfl zc_32 hS (fun b62 w hS hB => ?_)
  refine wpS_store rfl rfl rfl CellsOf.agg hS ps0 st0_22 (by kernel_rfl) rfl (fun w hS hB => ?_)
  refine wpS_nil ?_
  refine QH_seq_k hK39 ?_
  refine wpC_seq_k (fun K hK64 => ?_)
  refine wpC_region ?_
  refine wpS_put rfl rfl rfl (yv_fieldAddr fo_32_1 rfl) ?_
  refine wpS_put rfl rfl rfl (yv_load_box sc_3 rfl (RW.here _) hS hs7 trivial sg1_1) ?_
  refine wpS_put rfl rfl rfl (yv_eql rfl rfl) ?_
  refine wpS_quick 1 rfl ?_
  refine wpS_case 49 rfl (fun hb => ?_) (fun hb => ?_)
  rotate_left
  · replace H := cond_f H hb
    refine wpS_quick 5 rfl ?_
    refine wpS_nil ?_
    refine QH_seq_k hK64 ?_
    refine wpC_seq_k (fun K hK166 => ?_)
    refine wpC_seq_k (fun K hK167 => ?_)
    refine wpC_region ?_
    refine wpS_put rfl rfl rfl (yv_load_boxA ag_32 rfl (RW.here _) hS hs7 trivial sg0_22) ?_
    obtain ⟨r168, hm169, H⟩ := bind_some H
    refine wpS_call rfl rfl rfl rfl (by kernel_rfl) rfl (c_advert_All x0 A0_ c0_ A1_ c1_ A2_ c2_ A3_ c3_ A4_ c4_ _ (SlI.of_rd s0_.k (hS.rd0 s0_.rd) (hS.blk0 s0_.blk)) (SlI.of_rd s1_.k (hS.rd0 s1_.rd) (hS.blk0 s1_.blk)) (SlI.of_rd s2_.k (hS.rd0 s2_.rd) (hS.blk0 s2_.blk)) (SlI.of_rd s3_.k (hS.rd0 s3_.rd) (hS.blk0 s3_.blk)) (SlI.of_rd s4_.k (hS.rd0 s4_.rd) (hS.blk0 s4_.blk)) hm169) ?_
    rintro e w ⟨rfl, hN⟩; refine ⟨_, rfl, ?_⟩; have hB := hN.pure; have hS := hS.join hN; clear hN
    refine wpS_quick 1 rfl ?_
    refine wpS_put rfl rfl rfl (yv_neqB (by kernel_rfl) rfl rfl) ?_
    refine wpS_quick 1 rfl ?_
    refine wpS_case 58 rfl (fun hb => ?_) (fun hb => ?_)
    · replace H := cond_t H hb
      refine wpS_quick 29 rfl ?_
      refine wpS_nil ?_
      refine QH_seq_k hK167 ?_
      refine wpC_cond_t rfl rfl ?_
      refine wpC_seq_k (fun K hK170 => ?_)
      refine wpC_region ?_
      refine wpS_quick 1 rfl ?_
      refine wpS_nil ?_
      refine QH_seq_k hK170 ?_
      refine wpC_ret ?_
      refine QH_then_ret ?_
      refine QH_ret rfl (RV.tmp rfl RV.nil) rfl ?_
      obtain rfl := Option.some.inj H
      replace hS := hS.cut 0
      exact ⟨rfl, hS⟩
    replace H := cond_f H hb
    refine wpS_put rfl rfl rfl (yv_load_boxA ag_32 rfl (RW.here _) hS hs7 trivial sg0_22) ?_
    obtain ⟨r171, hm172, H⟩ := bind_some H
    refine wpS_call rfl rfl rfl rfl (by kernel_rfl) rfl (c_advert_Ask x0 2 A0_ c0_ A1_ c1_ A2_ c2_ A3_ c3_ A4_ c4_ _ (SlI.of_rd s0_.k (hS.rd0 s0_.rd) (hS.blk0 s0_.blk)) (SlI.of_rd s1_.k (hS.rd0 s1_.rd) (hS.blk0 s1_.blk)) (SlI.of_rd s2_.k (hS.rd0 s2_.rd) (hS.blk0 s2_.blk)) (SlI.of_rd s3_.k (hS.rd0 s3_.rd) (hS.blk0 s3_.blk)) (SlI.of_rd s4_.k (hS.rd0 s4_.rd) (hS.blk0 s4_.blk)) hm172) ?_
    rintro e w ⟨rfl, hN⟩; refine ⟨_, rfl, ?_⟩; have hB := hN.pure; have hS := hS.join hN; clear hN
    refine wpS_put rfl rfl rfl (yv_eql rfl rfl) ?_
    refine wpS_quick 1 rfl ?_
    refine wpS_put rfl rfl rfl (yv_neqB (by kernel_rfl) rfl rfl) ?_
    refine wpS_quick 2 rfl ?_
    refine wpS_case 65 rfl (fun hb => ?_) (fun hb => ?_)
    · replace H := cond_t H hb
      refine wpS_quick 22 rfl ?_
      refine wpS_nil ?_
      refine QH_seq_k hK167 ?_
      refine wpC_cond_t rfl rfl ?_
      refine wpC_seq_k (fun K hK173 => ?_)
      refine wpC_region ?_
      refine wpS_quick 1 rfl ?_
      refine wpS_nil ?_
      refine QH_seq_k hK173 ?_
      refine wpC_ret ?_
      refine QH_then_ret ?_
      refine QH_ret rfl (RV.tmp rfl RV.nil) rfl ?_
      obtain rfl := Option.some.inj H
      replace hS := hS.cut 0
      exact ⟨rfl, hS⟩
    replace H := cond_f H hb
    refine wpS_put rfl rfl rfl (yv_load_boxA ag_32 rfl (RW.here _) hS hs0 trivial sg0_22) ?_
    obtain ⟨r174, hm175, H⟩ := bind_some H
    refine wpS_call rfl rfl rfl rfl (by kernel_rfl) rfl (c_advert_All r40 A42 c43 A46 c47 A50 c51 A54 c55 A58 c59 _ (SlI.of_rd k44 (hS.row_rd hs1) (hS.row_blk hs1)) (SlI.of_rd k48 (hS.row_rd hs2) (hS.row_blk hs2)) (SlI.of_rd k52 (hS.row_rd hs3) (hS.row_blk hs3)) (SlI.of_rd k56 (hS.row_rd hs4) (hS.row_blk hs4)) (SlI.of_rd k60 (hS.row_rd hs5) (hS.row_blk hs5)) hm175) ?_
    rintro e w ⟨rfl, hN⟩; refine ⟨_, rfl, ?_⟩; have hB := hN.pure; have hS := hS.join hN; clear hN
    refine wpS_quick 1 rfl ?_
    refine wpS_put rfl rfl rfl (yv_neqB (by kernel_rfl) rfl rfl) ?_
    refine wpS_quick 2 rfl ?_
    refine wpS_case 71 rfl (fun hb => ?_) (fun hb => ?_)
    · replace H := cond_t H hb
      refine wpS_quick 16 rfl ?_
      refine wpS_nil ?_
      refine QH_seq_k hK167 ?_
      refine wpC_cond_t rfl rfl ?_
      refine wpC_seq_k (fun K hK176 => ?_)
      refine wpC_region ?_
      refine wpS_quick 1 rfl ?_
      refine wpS_nil ?_
      refine QH_seq_k hK176 ?_
      refine wpC_ret ?_
      refine QH_then_ret ?_
      refine QH_ret rfl (RV.tmp rfl RV.nil) rfl ?_
      obtain rfl := Option.some.inj H
      replace hS := hS.cut 0
      exact ⟨rfl, hS⟩
    replace H := cond_f H hb
    refine wpS_put rfl rfl rfl (yv_load_boxA ag_32 rfl (RW.here _) hS hs7 trivial sg0_22) ?_
    obtain ⟨r177, hm178, H⟩ := bind_some H
    refine wpS_call rfl rfl rfl rfl (by kernel_rfl) rfl (c_advert_Least x0 A0_ c0_ A1_ c1_ A2_ c2_ A3_ c3_ A4_ c4_ _ (SlI.of_rd s0_.k (hS.rd0 s0_.rd) (hS.blk0 s0_.blk)) (SlI.of_rd s1_.k (hS.rd0 s1_.rd) (hS.blk0 s1_.blk)) (SlI.of_rd s2_.k (hS.rd0 s2_.rd) (hS.blk0 s2_.blk)) (SlI.of_rd s3_.k (hS.rd0 s3_.rd) (hS.blk0 s3_.blk)) (SlI.of_rd s4_.k (hS.rd0 s4_.rd) (hS.blk0 s4_.blk)) hm178) ?_
    rintro e w ⟨rfl, hN⟩; refine ⟨_, rfl, ?_⟩; have hB := hN.pure; have hS := hS.join hN; clear hN
    refine wpS_put rfl rfl rfl (yv_eql rfl rfl) ?_
    refine wpS_quick 1 rfl ?_
    refine wpS_put rfl rfl rfl (yv_neqB (by kernel_rfl) rfl rfl) ?_
    refine wpS_quick 2 rfl ?_
    refine wpS_case 78 rfl (fun hb => ?_) (fun hb => ?_)
    · replace H := cond_t H hb
      refine wpS_quick 9 rfl ?_
      refine wpS_nil ?_
      refine QH_seq_k hK167 ?_
      refine wpC_cond_t rfl rfl ?_
      refine wpC_seq_k (fun K hK179 => ?_)
      refine wpC_region ?_
      refine wpS_quick 1 rfl ?_
      refine wpS_nil ?_
      refine QH_seq_k hK179 ?_
      refine wpC_ret ?_
      refine QH_then_ret ?_
      refine QH_ret rfl (RV.tmp rfl RV.nil) rfl ?_
      obtain rfl := Option.some.inj H
      replace hS := hS.cut 0
      exact ⟨rfl, hS⟩
    replace H := cond_f H hb
    refine wpS_put rfl rfl rfl (yv_load_boxA ag_32 rfl (RW.here _) hS hs0 trivial sg0_22) ?_
    obtain ⟨r180, hm181, H⟩ := bind_some H
    refine wpS_call rfl rfl rfl rfl (by kernel_rfl) rfl (c_advert_Least r40 A42 c43 A46 c47 A50 c51 A54 c55 A58 c59 _ (SlI.of_rd k44 (hS.row_rd hs1) (hS.row_blk hs1)) (SlI.of_rd k48 (hS.row_rd hs2) (hS.row_blk hs2)) (SlI.of_rd k52 (hS.row_rd hs3) (hS.row_blk hs3)) (SlI.of_rd k56 (hS.row_rd hs4) (hS.row_blk hs4)) (SlI.of_rd k60 (hS.row_rd hs5) (hS.row_blk hs5)) hm181) ?_
    rintro e w ⟨rfl, hN⟩; refine ⟨_, rfl, ?_⟩; have hB := hN.pure; have hS := hS.join hN; clear hN
    refine wpS_put rfl rfl rfl (yv_eql rfl rfl) ?_
    refine wpS_quick 1 rfl ?_
    refine wpS_case 82 rfl (fun hb => ?_) (fun hb => ?_)
    rotate_left
    · replace H := cond_f H hb
      refine wpS_quick 5 rfl ?_
      refine wpS_nil ?_
      refine QH_seq_k hK167 ?_
      refine wpC_cond_f rfl rfl ?_
      refine wpC_skip ?_
      refine QH_seq_k hK166 ?_
      refine wpC_seq_k (fun K hK225 => ?_)
      refine wpC_region ?_
      refine wpS_put rfl rfl rfl (yv_load_boxA ag_32 rfl (RW.here _) hS hs7 trivial sg0_22) ?_
      obtain ⟨r226, hm227, H⟩ := bind_some H
      refine wpS_call rfl rfl rfl rfl (by kernel_rfl) rfl (c_ref20_Own x0 A0_ c0_ A1_ c1_ A2_ c2_ A3_ c3_ A4_ c4_ _ (SlI.of_rd s0_.k (hS.rd0 s0_.rd) (hS.blk0 s0_.blk)) (SlI.of_rd s1_.k (hS.rd0 s1_.rd) (hS.blk0 s1_.blk)) (SlI.of_rd s2_.k (hS.rd0 s2_.rd) (hS.blk0 s2_.blk)) (SlI.of_rd s3_.k (hS.rd0 s3_.rd) (hS.blk0 s3_.blk)) (SlI.of_rd s4_.k (hS.rd0 s4_.rd) (hS.blk0 s4_.blk)) hm227) ?_
      rintro e w ⟨A228, c229, A232, c233, A236, c237, A240, c241, A244, c245, rfl, k230, k234, k238, k242, k246, hN⟩; refine ⟨_, rfl, ?_⟩; have hB := hN.pure; have hS := hS.join hN; clear hN
      refine wpS_alloc rfl rfl zc_32 hS (fun b248 w hS hB => ?_)
      refine wpS_store rfl rfl rfl CellsOf.agg hS ps0 st0_22 (by kernel_rfl) rfl (fun w hS hB => ?_)
      refine wpS_nil ?_
      refine QH_seq_k hK225 ?_
      refine wpC_seq_k (fun K hK250 => ?_)
      refine wpC_region ?_
      refine wpS_slice0 el_30 rfl rfl hS (fun b251 w hS hB => ?_)
      refine wpS_put rfl rfl rfl (yv_fieldAddr fo_32_10 rfl) ?_
      refine wpS_put rfl rfl rfl (yv_load_box sc_30 rfl (RW.here _) hS hs13 trivial sg21_1) ?_
      obtain ⟨l253, hf254, H⟩ := bind_some H
      refine wpX_append (ys := x1.caps) he_enI oc_enI em_30 (by decide) rfl rfl rfl rfl hS (fun _ => ps0) (hS.rd0 s9_.rd) hf254 (fun A255 c256 w k257 hS => ?_)
      refine wpS_put rfl rfl rfl (yv_fieldAddr fo_32_10 rfl) ?_
      refine wpS_store rfl rfl rfl CellsOf.slice hS ps1 st21_1 (by kernel_rfl) rfl (fun w hS hB => ?_)
      refine wpS_nil ?_
      refine QH_seq_k hK250 ?_
      refine wpC_seq_k (fun K hK258 => ?_)
      refine wpC_draw 15 [] (fun _ _ => True) ⟨by kernel_rfl, by kernel_rfl⟩ hS (fun w hS hB => ?_)
      refine wpR_batch [true, true, true] (by decide +kernel) (by repeat (first | exact PF.body | exact PF.round | apply PF.then | apply PF.inBlock | apply PF.jump)) ?_
      refine LtK.put rfl rfl rfl (yv_move rfl) ?_
      refine LtK.put rfl rfl rfl (yv_eql rfl rfl) ?_
      refine LtK.put rfl rfl rfl (yv_move rfl) ?_
      refine LtK.nil ?_
      refine wpR_case 97 rfl (fun hb => ?_) (fun hb => ?_)
      · replace H := cond_t H hb
        refine wpR_batch [false, false, false, true, true, false, true, true] (by decide +kernel) (by repeat (first | exact PF.body | exact PF.round | apply PF.then | apply PF.inBlock | apply PF.jump)) ?_
        refine LtK.skip rfl rfl rfl ?_
        refine LtK.skip rfl rfl rfl ?_
        refine LtK.skip rfl rfl rfl ?_
        refine LtK.skip rfl rfl rfl ?_
        refine LtK.nil ?_
        refine wpR_call [false, false, false, false, false, true] 5 ⟨by decide, by kernel_rfl, by kernel_rfl⟩ rfl rfl ?_
        dsimp only [pickL]
        refine wpS_skip rfl rfl rfl ?_
        refine wpS_nil ?_
        refine QH_step (Below.refl _ _) ?_
        refine wpR_call [false, false, false, false, false, false, false, false, true] 8 ⟨by decide, by kernel_rfl, by kernel_rfl⟩ rfl rfl ?_
        dsimp only [pickL]
        refine wpS_skip rfl rfl rfl ?_
        refine wpS_nil ?_
        refine QH_step (Below.refl _ _) ?_
        refine wpR_batch [false, false, false, false, false, false, false, false, false, true, true, true] (by decide +kernel) (by repeat (first | exact PF.body | exact PF.round | apply PF.then | apply PF.inBlock | apply PF.jump)) ?_
        refine LtK.skip rfl rfl rfl ?_
        refine LtK.put rfl rfl rfl (yv_pick_t rfl rfl rfl) ?_
        refine LtK.put rfl rfl rfl (yv_move rfl) ?_
        refine LtK.nil ?_
        refine wpR_call [false, false, false, false, false, false, false, false, false, false, false, false, true] 12 ⟨by decide, by kernel_rfl, by kernel_rfl⟩ rfl rfl ?_
        dsimp only [pickL]
        obtain ⟨r259, hm260, H⟩ := bind_some H
        refine wpS_call rfl rfl rfl rfl (by kernel_rfl) rfl (c_law21_wakes _ hm260) ?_
        rintro e w ⟨rfl, hN⟩; refine ⟨_, rfl, ?_⟩; have hB := hN.pure; have hS := hS.join hN; clear hN
        refine wpS_nil ?_
        refine QH_step hB ?_
        refine wpR_batch [false, false, false, false, false, false, false, false, false, false, false, false, false, true, true] (by decide +kernel) (by repeat (first | exact PF.body | exact PF.round | apply PF.then | apply PF.inBlock | apply PF.jump)) ?_
        refine LtK.put rfl rfl rfl (yv_pick_t rfl rfl rfl) ?_
        refine LtK.put rfl rfl rfl (yv_assign rfl) ?_
        refine LtK.nil ?_
        refine wpR_end (by kernel_rfl) ?_
        refine QH_seq_k hK258 ?_
        refine wpC_ret ?_
        refine QH_ret rfl (RV.tmp rfl RV.nil) rfl ?_
        obtain rfl := Option.some.inj H
        replace hS := hS.cut 0
        exact ⟨rfl, hS⟩
      replace H := cond_f H hb
      refine wpR_batch [false, false, false, true, true, false, true, true] (by decide +kernel) (by repeat (first | exact PF.body | exact PF.round | apply PF.then | apply PF.inBlock | apply PF.jump)) ?_
      refine LtK.put rfl rfl rfl (yv_load_boxA ag_32 rfl (RW.below _) hS hs14 trivial sg0_22) ?_
      refine LtK.put rfl rfl rfl (yv_move rfl) ?_
      refine LtK.put rfl rfl rfl (yv_load_boxA ag_32 rfl (RW.below _) hS hs1 trivial sg0_22) ?_
      refine LtK.put rfl rfl rfl (yv_move rfl) ?_
      refine LtK.nil ?_
      refine wpR_call [false, false, false, false, false, true] 5 ⟨by decide, by kernel_rfl, by kernel_rfl⟩ rfl rfl ?_
      dsimp only [pickL]
      obtain ⟨r261, hm262, H⟩ := bind_some H
      refine wpS_call rfl rfl rfl rfl (by kernel_rfl) rfl (c_advert_Ask x0 x2 A0_ c0_ A1_ c1_ A2_ c2_ A3_ c3_ A4_ c4_ _ (SlI.of_rd s0_.k (hS.rd0 s0_.rd) (hS.blk0 s0_.blk)) (SlI.of_rd s1_.k (hS.rd0 s1_.rd) (hS.blk0 s1_.blk)) (SlI.of_rd s2_.k (hS.rd0 s2_.rd) (hS.blk0 s2_.blk)) (SlI.of_rd s3_.k (hS.rd0 s3_.rd) (hS.blk0 s3_.blk)) (SlI.of_rd s4_.k (hS.rd0 s4_.rd) (hS.blk0 s4_.blk)) hm262) ?_
      rintro e w ⟨rfl, hN⟩; refine ⟨_, rfl, ?_⟩; have hB := hN.pure; have hS := hS.join hN; clear hN
      refine wpS_nil ?_
      refine QH_step hB ?_
      refine wpR_call [false, false, false, false, false, false, false, false, true] 8 ⟨by decide, by kernel_rfl, by kernel_rfl⟩ rfl rfl ?_
      dsimp only [pickL]
      obtain ⟨r263, hm264, H⟩ := bind_some H
      refine wpS_call rfl rfl rfl rfl (by kernel_rfl) rfl (c_advert_Ask (⟨r226.id, r226.n, r226.role, r226.binary, r226.tuple, r226.commit, r226.applied, r226.votes, r226.next, r226.mtch, l253⟩ : Co) x2 A228 c229 A232 c233 A236 c237 A240 c241 A255 c256 _ (SlI.of_rd k230 (hS.row_rd hs2) (hS.row_blk hs2)) (SlI.of_rd k234 (hS.row_rd hs3) (hS.row_blk hs3)) (SlI.of_rd k238 (hS.row_rd hs4) (hS.row_blk hs4)) (SlI.of_rd k242 (hS.row_rd hs5) (hS.row_blk hs5)) (SlI.of_rd k257 (hS.row_rd hs0) (hS.row_blk hs0)) hm264) ?_
      rintro e w ⟨rfl, hN⟩; refine ⟨_, rfl, ?_⟩; have hB := hN.pure; have hS := hS.join hN; clear hN
      refine wpS_nil ?_
      refine QH_step hB ?_
      refine wpR_batch [false, false, false, false, false, false, false, false, false, true, true, true] (by decide +kernel) (by repeat (first | exact PF.body | exact PF.round | apply PF.then | apply PF.inBlock | apply PF.jump)) ?_
      refine LtK.put rfl rfl rfl (yv_eql rfl rfl) ?_
      refine LtK.put rfl rfl rfl (yv_pick_f rfl rfl rfl) ?_
      refine LtK.put rfl rfl rfl (yv_move rfl) ?_
      refine LtK.nil ?_
      refine wpR_case 106 rfl (fun hb => ?_) (fun hb => ?_)
      rotate_left
      · replace H := cond_f H hb
        refine wpR_call [false, false, false, false, false, false, false, false, false, false, false, false, true] 12 ⟨by decide, by kernel_rfl, by kernel_rfl⟩ rfl rfl ?_
        dsimp only [pickL]
        refine wpS_skip rfl rfl rfl ?_
        refine wpS_nil ?_
        refine QH_step (Below.refl _ _) ?_
        refine wpR_batch [false, false, false, false, false, false, false, false, false, false, false, false, false, true, true] (by decide +kernel) (by repeat (first | exact PF.body | exact PF.round | apply PF.then | apply PF.inBlock | apply PF.jump)) ?_
        refine LtK.put rfl rfl rfl (yv_pick_f rfl rfl rfl) ?_
        refine LtK.put rfl rfl rfl (yv_assign rfl) ?_
        refine LtK.nil ?_
        refine wpR_end (by kernel_rfl) ?_
        refine QH_seq_k hK258 ?_
        refine wpC_ret ?_
        refine QH_ret rfl (RV.tmp rfl RV.nil) rfl ?_
        obtain rfl := Option.some.inj H
        replace hS := hS.cut 0
        exact ⟨rfl, hS⟩
      replace H := cond_t H hb
      refine wpR_call [false, false, false, false, false, false, false, false, false, false, false, false, true] 12 ⟨by decide, by kernel_rfl, by kernel_rfl⟩ rfl rfl ?_
      dsimp only [pickL]
      obtain ⟨r265, hm266, H⟩ := bind_some H
      refine wpS_call rfl rfl rfl rfl (by kernel_rfl) rfl (c_law21_wakes _ hm266) ?_
      rintro e w ⟨rfl, hN⟩; refine ⟨_, rfl, ?_⟩; have hB := hN.pure; have hS := hS.join hN; clear hN
      refine wpS_nil ?_
      refine QH_step hB ?_
      refine wpR_batch [false, false, false, false, false, false, false, false, false, false, false, false, false, true, true] (by decide +kernel) (by repeat (first | exact PF.body | exact PF.round | apply PF.then | apply PF.inBlock | apply PF.jump)) ?_
      refine LtK.put rfl rfl rfl (yv_pick_t rfl rfl rfl) ?_
      refine LtK.put rfl rfl rfl (yv_assign rfl) ?_
      refine LtK.nil ?_
      refine wpR_end (by kernel_rfl) ?_
      refine QH_seq_k hK258 ?_
      refine wpC_ret ?_
      refine QH_ret rfl (RV.tmp rfl RV.nil) rfl ?_
      obtain rfl := Option.some.inj H
      replace hS := hS.cut 0
      exact ⟨rfl, hS⟩
    replace H := cond_t H hb
    refine wpS_put rfl rfl rfl (yv_fieldAddr fo_32_1 rfl) ?_
    refine wpS_put rfl rfl rfl (yv_load_box sc_3 rfl (RW.here _) hS hs7 trivial sg1_1) ?_
    refine wpS_put rfl rfl rfl (yv_eql rfl rfl) ?_
    refine wpS_quick 2 rfl ?_
    refine wpS_nil ?_
    refine QH_seq_k hK167 ?_
    refine wpC_cond rfl (fun hb => ?_) (fun hb => ?_)
    · replace H := cond_t H hb
      refine wpC_seq_k (fun K hK182 => ?_)
      refine wpC_region ?_
      refine wpS_quick 1 rfl ?_
      refine wpS_nil ?_
      refine QH_seq_k hK182 ?_
      refine wpC_ret ?_
      refine QH_then_ret ?_
      refine QH_ret rfl (RV.tmp rfl RV.nil) rfl ?_
      obtain rfl := Option.some.inj H
      replace hS := hS.cut 0
      exact ⟨rfl, hS⟩
    replace H := cond_f H hb
    refine wpC_skip ?_
    refine QH_seq_k hK166 ?_
    refine wpC_seq_k (fun K hK183 => ?_)
    refine wpC_region ?_
    refine wpS_put rfl rfl rfl (yv_load_boxA ag_32 rfl (RW.here _) hS hs7 trivial sg0_22) ?_
    obtain ⟨r184, hm185, H⟩ := bind_some H
    refine wpS_call rfl rfl rfl rfl (by kernel_rfl) rfl (c_ref20_Own x0 A0_ c0_ A1_ c1_ A2_ c2_ A3_ c3_ A4_ c4_ _ (SlI.of_rd s0_.k (hS.rd0 s0_.rd) (hS.blk0 s0_.blk)) (SlI.of_rd s1_.k (hS.rd0 s1_.rd) (hS.blk0 s1_.blk)) (SlI.of_rd s2_.k (hS.rd0 s2_.rd) (hS.blk0 s2_.blk)) (SlI.of_rd s3_.k (hS.rd0 s3_.rd) (hS.blk0 s3_.blk)) (SlI.of_rd s4_.k (hS.rd0 s4_.rd) (hS.blk0 s4_.blk)) hm185) ?_
    rintro e w ⟨A186, c187, A190, c191, A194, c195, A198, c199, A202, c203, rfl, k188, k192, k196, k200, k204, hN⟩; refine ⟨_, rfl, ?_⟩; have hB := hN.pure; have hS := hS.join hN; clear hN
    refine wpS_alloc rfl rfl zc_32 hS (fun b206 w hS hB => ?_)
    refine wpS_store rfl rfl rfl CellsOf.agg hS ps0 st0_22 (by kernel_rfl) rfl (fun w hS hB => ?_)
    refine wpS_nil ?_
    refine QH_seq_k hK183 ?_
    refine wpC_seq_k (fun K hK208 => ?_)
    refine wpC_region ?_
    refine wpS_slice0 el_30 rfl rfl hS (fun b209 w hS hB => ?_)
    refine wpS_put rfl rfl rfl (yv_fieldAddr fo_32_10 rfl) ?_
    refine wpS_put rfl rfl rfl (yv_load_box sc_30 rfl (RW.here _) hS hs13 trivial sg21_1) ?_
    obtain ⟨l211, hf212, H⟩ := bind_some H
    refine wpX_append (ys := x1.caps) he_enI oc_enI em_30 (by decide) rfl rfl rfl rfl hS (fun _ => ps0) (hS.rd0 s9_.rd) hf212 (fun A213 c214 w k215 hS => ?_)
    refine wpS_put rfl rfl rfl (yv_fieldAddr fo_32_10 rfl) ?_
    refine wpS_store rfl rfl rfl CellsOf.slice hS ps1 st21_1 (by kernel_rfl) rfl (fun w hS hB => ?_)
    refine wpS_nil ?_
    refine QH_seq_k hK208 ?_
    refine wpC_seq_k (fun K hK216 => ?_)
    refine wpC_draw 15 [] (fun _ _ => True) ⟨by kernel_rfl, by kernel_rfl⟩ hS (fun w hS hB => ?_)
    refine wpR_batch [true, true, true] (by decide +kernel) (by repeat (first | exact PF.body | exact PF.round | apply PF.then | apply PF.inBlock | apply PF.jump)) ?_
    refine LtK.put rfl rfl rfl (yv_move rfl) ?_
    refine LtK.put rfl rfl rfl (yv_eql rfl rfl) ?_
    refine LtK.put rfl rfl rfl (yv_move rfl) ?_
    refine LtK.nil ?_
    refine wpR_case 97 rfl (fun hb => ?_) (fun hb => ?_)
    · replace H := cond_t H hb
      refine wpR_batch [false, false, false, true, true, false, true, true] (by decide +kernel) (by repeat (first | exact PF.body | exact PF.round | apply PF.then | apply PF.inBlock | apply PF.jump)) ?_
      refine LtK.skip rfl rfl rfl ?_
      refine LtK.skip rfl rfl rfl ?_
      refine LtK.skip rfl rfl rfl ?_
      refine LtK.skip rfl rfl rfl ?_
      refine LtK.nil ?_
      refine wpR_call [false, false, false, false, false, true] 5 ⟨by decide, by kernel_rfl, by kernel_rfl⟩ rfl rfl ?_
      dsimp only [pickL]
      refine wpS_skip rfl rfl rfl ?_
      refine wpS_nil ?_
      refine QH_step (Below.refl _ _) ?_
      refine wpR_call [false, false, false, false, false, false, false, false, true] 8 ⟨by decide, by kernel_rfl, by kernel_rfl⟩ rfl rfl ?_
      dsimp only [pickL]
      refine wpS_skip rfl rfl rfl ?_
      refine wpS_nil ?_
      refine QH_step (Below.refl _ _) ?_
      refine wpR_batch [false, false, false, false, false, false, false, false, false, true, true, true] (by decide +kernel) (by repeat (first | exact PF.body | exact PF.round | apply PF.then | apply PF.inBlock | apply PF.jump)) ?_
      refine LtK.skip rfl rfl rfl ?_
      refine LtK.put rfl rfl rfl (yv_pick_t rfl rfl rfl) ?_
      refine LtK.put rfl rfl rfl (yv_move rfl) ?_
      refine LtK.nil ?_
      refine wpR_call [false, false, false, false, false, false, false, false, false, false, false, false, true] 12 ⟨by decide, by kernel_rfl, by kernel_rfl⟩ rfl rfl ?_
      dsimp only [pickL]
      obtain ⟨r217, hm218, H⟩ := bind_some H
      refine wpS_call rfl rfl rfl rfl (by kernel_rfl) rfl (c_law21_wakes _ hm218) ?_
      rintro e w ⟨rfl, hN⟩; refine ⟨_, rfl, ?_⟩; have hB := hN.pure; have hS := hS.join hN; clear hN
      refine wpS_nil ?_
      refine QH_step hB ?_
      refine wpR_batch [false, false, false, false, false, false, false, false, false, false, false, false, false, true, true] (by decide +kernel) (by repeat (first | exact PF.body | exact PF.round | apply PF.then | apply PF.inBlock | apply PF.jump)) ?_
      refine LtK.put rfl rfl rfl (yv_pick_t rfl rfl rfl) ?_
      refine LtK.put rfl rfl rfl (yv_assign rfl) ?_
      refine LtK.nil ?_
      refine wpR_end (by kernel_rfl) ?_
      refine QH_seq_k hK216 ?_
      refine wpC_ret ?_
      refine QH_ret rfl (RV.tmp rfl RV.nil) rfl ?_
      obtain rfl := Option.some.inj H
      replace hS := hS.cut 0
      exact ⟨rfl, hS⟩
    replace H := cond_f H hb
    refine wpR_batch [false, false, false, true, true, false, true, true] (by decide +kernel) (by repeat (first | exact PF.body | exact PF.round | apply PF.then | apply PF.inBlock | apply PF.jump)) ?_
    refine LtK.put rfl rfl rfl (yv_load_boxA ag_32 rfl (RW.below _) hS hs14 trivial sg0_22) ?_
    refine LtK.put rfl rfl rfl (yv_move rfl) ?_
    refine LtK.put rfl rfl rfl (yv_load_boxA ag_32 rfl (RW.below _) hS hs1 trivial sg0_22) ?_
    refine LtK.put rfl rfl rfl (yv_move rfl) ?_
    refine LtK.nil ?_
    refine wpR_call [false, false, false, false, false, true] 5 ⟨by decide, by kernel_rfl, by kernel_rfl⟩ rfl rfl ?_
    dsimp only [pickL]
    obtain ⟨r219, hm220, H⟩ := bind_some H
    refine wpS_call rfl rfl rfl rfl (by kernel_rfl) rfl (c_advert_Ask x0 x2 A0_ c0_ A1_ c1_ A2_ c2_ A3_ c3_ A4_ c4_ _ (SlI.of_rd s0_.k (hS.rd0 s0_.rd) (hS.blk0 s0_.blk)) (SlI.of_rd s1_.k (hS.rd0 s1_.rd) (hS.blk0 s1_.blk)) (SlI.of_rd s2_.k (hS.rd0 s2_.rd) (hS.blk0 s2_.blk)) (SlI.of_rd s3_.k (hS.rd0 s3_.rd) (hS.blk0 s3_.blk)) (SlI.of_rd s4_.k (hS.rd0 s4_.rd) (hS.blk0 s4_.blk)) hm220) ?_
    rintro e w ⟨rfl, hN⟩; refine ⟨_, rfl, ?_⟩; have hB := hN.pure; have hS := hS.join hN; clear hN
    refine wpS_nil ?_
    refine QH_step hB ?_
    refine wpR_call [false, false, false, false, false, false, false, false, true] 8 ⟨by decide, by kernel_rfl, by kernel_rfl⟩ rfl rfl ?_
    dsimp only [pickL]
    obtain ⟨r221, hm222, H⟩ := bind_some H
    refine wpS_call rfl rfl rfl rfl (by kernel_rfl) rfl (c_advert_Ask (⟨r184.id, r184.n, r184.role, r184.binary, r184.tuple, r184.commit, r184.applied, r184.votes, r184.next, r184.mtch, l211⟩ : Co) x2 A186 c187 A190 c191 A194 c195 A198 c199 A213 c214 _ (SlI.of_rd k188 (hS.row_rd hs2) (hS.row_blk hs2)) (SlI.of_rd k192 (hS.row_rd hs3) (hS.row_blk hs3)) (SlI.of_rd k196 (hS.row_rd hs4) (hS.row_blk hs4)) (SlI.of_rd k200 (hS.row_rd hs5) (hS.row_blk hs5)) (SlI.of_rd k215 (hS.row_rd hs0) (hS.row_blk hs0)) hm222) ?_
    rintro e w ⟨rfl, hN⟩; refine ⟨_, rfl, ?_⟩; have hB := hN.pure; have hS := hS.join hN; clear hN
    refine wpS_nil ?_
    refine QH_step hB ?_
    refine wpR_batch [false, false, false, false, false, false, false, false, false, true, true, true] (by decide +kernel) (by repeat (first | exact PF.body | exact PF.round | apply PF.then | apply PF.inBlock | apply PF.jump)) ?_
    refine LtK.put rfl rfl rfl (yv_eql rfl rfl) ?_
    refine LtK.put rfl rfl rfl (yv_pick_f rfl rfl rfl) ?_
    refine LtK.put rfl rfl rfl (yv_move rfl) ?_
    refine LtK.nil ?_
    refine wpR_case 106 rfl (fun hb => ?_) (fun hb => ?_)
    rotate_left
    · replace H := cond_f H hb
      refine wpR_call [false, false, false, false, false, false, false, false, false, false, false, false, true] 12 ⟨by decide, by kernel_rfl, by kernel_rfl⟩ rfl rfl ?_
      dsimp only [pickL]
      refine wpS_skip rfl rfl rfl ?_
      refine wpS_nil ?_
      refine QH_step (Below.refl _ _) ?_
      refine wpR_batch [false, false, false, false, false, false, false, false, false, false, false, false, false, true, true] (by decide +kernel) (by repeat (first | exact PF.body | exact PF.round | apply PF.then | apply PF.inBlock | apply PF.jump)) ?_
      refine LtK.put rfl rfl rfl (yv_pick_f rfl rfl rfl) ?_
      refine LtK.put rfl rfl rfl (yv_assign rfl) ?_
      refine LtK.nil ?_
      refine wpR_end (by kernel_rfl) ?_
      refine QH_seq_k hK216 ?_
      refine wpC_ret ?_
      refine QH_ret rfl (RV.tmp rfl RV.nil) rfl ?_
      obtain rfl := Option.some.inj H
      replace hS := hS.cut 0
      exact ⟨rfl, hS⟩
    replace H := cond_t H hb
    refine wpR_call [false, false, false, false, false, false, false, false, false, false, false, false, true] 12 ⟨by decide, by kernel_rfl, by kernel_rfl⟩ rfl rfl ?_
    dsimp only [pickL]
    obtain ⟨r223, hm224, H⟩ := bind_some H
    refine wpS_call rfl rfl rfl rfl (by kernel_rfl) rfl (c_law21_wakes _ hm224) ?_
    rintro e w ⟨rfl, hN⟩; refine ⟨_, rfl, ?_⟩; have hB := hN.pure; have hS := hS.join hN; clear hN
    refine wpS_nil ?_
    refine QH_step hB ?_
    refine wpR_batch [false, false, false, false, false, false, false, false, false, false, false, false, false, true, true] (by decide +kernel) (by repeat (first | exact PF.body | exact PF.round | apply PF.then | apply PF.inBlock | apply PF.jump)) ?_
    refine LtK.put rfl rfl rfl (yv_pick_t rfl rfl rfl) ?_
    refine LtK.put rfl rfl rfl (yv_assign rfl) ?_
    refine LtK.nil ?_
    refine wpR_end (by kernel_rfl) ?_
    refine QH_seq_k hK216 ?_
    refine wpC_ret ?_
    refine QH_ret rfl (RV.tmp rfl RV.nil) rfl ?_
    obtain rfl := Option.some.inj H
    replace hS := hS.cut 0
    exact ⟨rfl, hS⟩
  replace H := cond_t H hb
  refine wpS_put rfl rfl rfl (yv_fieldAddr fo_32_3 rfl) ?_
  refine wpS_put rfl rfl rfl (yv_load_box sc_3 rfl (RW.here _) hS hs7 trivial sg3_1) ?_
  refine wpS_put rfl rfl rfl (yv_eql rfl rfl) ?_
  refine wpS_quick 2 rfl ?_
  refine wpS_nil ?_
  refine QH_seq_k hK64 ?_
  refine wpC_seq_k (fun K hK65 => ?_)
  refine wpC_seq_k (fun K hK66 => ?_)
  refine wpC_region ?_
  refine wpS_put rfl rfl rfl (yv_load_boxA ag_32 rfl (RW.here _) hS hs7 trivial sg0_22) ?_
  obtain ⟨r67, hm68, H⟩ := bind_some H
  refine wpS_call rfl rfl rfl rfl (by kernel_rfl) rfl (c_advert_All x0 A0_ c0_ A1_ c1_ A2_ c2_ A3_ c3_ A4_ c4_ _ (SlI.of_rd s0_.k (hS.rd0 s0_.rd) (hS.blk0 s0_.blk)) (SlI.of_rd s1_.k (hS.rd0 s1_.rd) (hS.blk0 s1_.blk)) (SlI.of_rd s2_.k (hS.rd0 s2_.rd) (hS.blk0 s2_.blk)) (SlI.of_rd s3_.k (hS.rd0 s3_.rd) (hS.blk0 s3_.blk)) (SlI.of_rd s4_.k (hS.rd0 s4_.rd) (hS.blk0 s4_.blk)) hm68) ?_
  rintro e w ⟨rfl, hN⟩; refine ⟨_, rfl, ?_⟩; have hB := hN.pure; have hS := hS.join hN; clear hN
  refine wpS_quick 1 rfl ?_
  refine wpS_put rfl rfl rfl (yv_neqB (by kernel_rfl) rfl rfl) ?_
  refine wpS_quick 1 rfl ?_
  refine wpS_case 58 rfl (fun hb => ?_) (fun hb => ?_)
  · replace H := cond_t H hb
    refine wpS_quick 29 rfl ?_
    refine wpS_nil ?_
    refine QH_seq_k hK66 ?_
    refine wpC_cond_t rfl rfl ?_
    refine wpC_seq_k (fun K hK69 => ?_)
    refine wpC_region ?_
    refine wpS_quick 1 rfl ?_
    refine wpS_nil ?_
    refine QH_seq_k hK69 ?_
    refine wpC_ret ?_
    refine QH_then_ret ?_
    refine QH_ret rfl (RV.tmp rfl RV.nil) rfl ?_
    obtain rfl := Option.some.inj H
    replace hS := hS.cut 0
    exact ⟨rfl, hS⟩
  replace H := cond_f H hb
  refine wpS_put rfl rfl rfl (yv_load_boxA ag_32 rfl (RW.here _) hS hs7 trivial sg0_22) ?_
  obtain ⟨r70, hm71, H⟩ := bind_some H
  refine wpS_call rfl rfl rfl rfl (by kernel_rfl) rfl (c_advert_Ask x0 2 A0_ c0_ A1_ c1_ A2_ c2_ A3_ c3_ A4_ c4_ _ (SlI.of_rd s0_.k (hS.rd0 s0_.rd) (hS.blk0 s0_.blk)) (SlI.of_rd s1_.k (hS.rd0 s1_.rd) (hS.blk0 s1_.blk)) (SlI.of_rd s2_.k (hS.rd0 s2_.rd) (hS.blk0 s2_.blk)) (SlI.of_rd s3_.k (hS.rd0 s3_.rd) (hS.blk0 s3_.blk)) (SlI.of_rd s4_.k (hS.rd0 s4_.rd) (hS.blk0 s4_.blk)) hm71) ?_
  rintro e w ⟨rfl, hN⟩; refine ⟨_, rfl, ?_⟩; have hB := hN.pure; have hS := hS.join hN; clear hN
  refine wpS_put rfl rfl rfl (yv_eql rfl rfl) ?_
  refine wpS_quick 1 rfl ?_
  refine wpS_put rfl rfl rfl (yv_neqB (by kernel_rfl) rfl rfl) ?_
  refine wpS_quick 2 rfl ?_
  refine wpS_case 65 rfl (fun hb => ?_) (fun hb => ?_)
  · replace H := cond_t H hb
    refine wpS_quick 22 rfl ?_
    refine wpS_nil ?_
    refine QH_seq_k hK66 ?_
    refine wpC_cond_t rfl rfl ?_
    refine wpC_seq_k (fun K hK72 => ?_)
    refine wpC_region ?_
    refine wpS_quick 1 rfl ?_
    refine wpS_nil ?_
    refine QH_seq_k hK72 ?_
    refine wpC_ret ?_
    refine QH_then_ret ?_
    refine QH_ret rfl (RV.tmp rfl RV.nil) rfl ?_
    obtain rfl := Option.some.inj H
    replace hS := hS.cut 0
    exact ⟨rfl, hS⟩
  replace H := cond_f H hb
  refine wpS_put rfl rfl rfl (yv_load_boxA ag_32 rfl (RW.here _) hS hs0 trivial sg0_22) ?_
  obtain ⟨r73, hm74, H⟩ := bind_some H
  refine wpS_call rfl rfl rfl rfl (by kernel_rfl) rfl (c_advert_All r40 A42 c43 A46 c47 A50 c51 A54 c55 A58 c59 _ (SlI.of_rd k44 (hS.row_rd hs1) (hS.row_blk hs1)) (SlI.of_rd k48 (hS.row_rd hs2) (hS.row_blk hs2)) (SlI.of_rd k52 (hS.row_rd hs3) (hS.row_blk hs3)) (SlI.of_rd k56 (hS.row_rd hs4) (hS.row_blk hs4)) (SlI.of_rd k60 (hS.row_rd hs5) (hS.row_blk hs5)) hm74) ?_
  rintro e w ⟨rfl, hN⟩; refine ⟨_, rfl, ?_⟩; have hB := hN.pure; have hS := hS.join hN; clear hN
  refine wpS_quick 1 rfl ?_
  refine wpS_put rfl rfl rfl (yv_neqB (by kernel_rfl) rfl rfl) ?_
  refine wpS_quick 2 rfl ?_
  refine wpS_case 71 rfl (fun hb => ?_) (fun hb => ?_)
  · replace H := cond_t H hb
    refine wpS_quick 16 rfl ?_
    refine wpS_nil ?_
    refine QH_seq_k hK66 ?_
    refine wpC_cond_t rfl rfl ?_
    refine wpC_seq_k (fun K hK75 => ?_)
    refine wpC_region ?_
    refine wpS_quick 1 rfl ?_
    refine wpS_nil ?_
    refine QH_seq_k hK75 ?_
    refine wpC_ret ?_
    refine QH_then_ret ?_
    refine QH_ret rfl (RV.tmp rfl RV.nil) rfl ?_
    obtain rfl := Option.some.inj H
    replace hS := hS.cut 0
    exact ⟨rfl, hS⟩
  replace H := cond_f H hb
  refine wpS_put rfl rfl rfl (yv_load_boxA ag_32 rfl (RW.here _) hS hs7 trivial sg0_22) ?_
  obtain ⟨r76, hm77, H⟩ := bind_some H
  refine wpS_call rfl rfl rfl rfl (by kernel_rfl) rfl (c_advert_Least x0 A0_ c0_ A1_ c1_ A2_ c2_ A3_ c3_ A4_ c4_ _ (SlI.of_rd s0_.k (hS.rd0 s0_.rd) (hS.blk0 s0_.blk)) (SlI.of_rd s1_.k (hS.rd0 s1_.rd) (hS.blk0 s1_.blk)) (SlI.of_rd s2_.k (hS.rd0 s2_.rd) (hS.blk0 s2_.blk)) (SlI.of_rd s3_.k (hS.rd0 s3_.rd) (hS.blk0 s3_.blk)) (SlI.of_rd s4_.k (hS.rd0 s4_.rd) (hS.blk0 s4_.blk)) hm77) ?_
  rintro e w ⟨rfl, hN⟩; refine ⟨_, rfl, ?_⟩; have hB := hN.pure; have hS := hS.join hN; clear hN
  refine wpS_put rfl rfl rfl (yv_eql rfl rfl) ?_
  refine wpS_quick 1 rfl ?_
  refine wpS_put rfl rfl rfl (yv_neqB (by kernel_rfl) rfl rfl) ?_
  refine wpS_quick 2 rfl ?_
  refine wpS_case 78 rfl (fun hb => ?_) (fun hb => ?_)
  · replace H := cond_t H hb
    refine wpS_quick 9 rfl ?_
    refine wpS_nil ?_
    refine QH_seq_k hK66 ?_
    refine wpC_cond_t rfl rfl ?_
    refine wpC_seq_k (fun K hK78 => ?_)
    refine wpC_region ?_
    refine wpS_quick 1 rfl ?_
    refine wpS_nil ?_
    refine QH_seq_k hK78 ?_
    refine wpC_ret ?_
    refine QH_then_ret ?_
    refine QH_ret rfl (RV.tmp rfl RV.nil) rfl ?_
    obtain rfl := Option.some.inj H
    replace hS := hS.cut 0
    exact ⟨rfl, hS⟩
  replace H := cond_f H hb
  refine wpS_put rfl rfl rfl (yv_load_boxA ag_32 rfl (RW.here _) hS hs0 trivial sg0_22) ?_
  obtain ⟨r79, hm80, H⟩ := bind_some H
  refine wpS_call rfl rfl rfl rfl (by kernel_rfl) rfl (c_advert_Least r40 A42 c43 A46 c47 A50 c51 A54 c55 A58 c59 _ (SlI.of_rd k44 (hS.row_rd hs1) (hS.row_blk hs1)) (SlI.of_rd k48 (hS.row_rd hs2) (hS.row_blk hs2)) (SlI.of_rd k52 (hS.row_rd hs3) (hS.row_blk hs3)) (SlI.of_rd k56 (hS.row_rd hs4) (hS.row_blk hs4)) (SlI.of_rd k60 (hS.row_rd hs5) (hS.row_blk hs5)) hm80) ?_
  rintro e w ⟨rfl, hN⟩; refine ⟨_, rfl, ?_⟩; have hB := hN.pure; have hS := hS.join hN; clear hN
  refine wpS_put rfl rfl rfl (yv_eql rfl rfl) ?_
  refine wpS_quick 1 rfl ?_
  refine wpS_case 82 rfl (fun hb => ?_) (fun hb => ?_)
  rotate_left
  · replace H := cond_f H hb
    refine wpS_quick 5 rfl ?_
    refine wpS_nil ?_
    refine QH_seq_k hK66 ?_
    refine wpC_cond_f rfl rfl ?_
    refine wpC_skip ?_
    refine QH_seq_k hK65 ?_
    refine wpC_seq_k (fun K hK124 => ?_)
    refine wpC_region ?_
    refine wpS_put rfl rfl rfl (yv_load_boxA ag_32 rfl (RW.here _) hS hs7 trivial sg0_22) ?_
    obtain ⟨r125, hm126, H⟩ := bind_some H
    refine wpS_call rfl rfl rfl rfl (by kernel_rfl) rfl (c_ref20_Own x0 A0_ c0_ A1_ c1_ A2_ c2_ A3_ c3_ A4_ c4_ _ (SlI.of_rd s0_.k (hS.rd0 s0_.rd) (hS.blk0 s0_.blk)) (SlI.of_rd s1_.k (hS.rd0 s1_.rd) (hS.blk0 s1_.blk)) (SlI.of_rd s2_.k (hS.rd0 s2_.rd) (hS.blk0 s2_.blk)) (SlI.of_rd s3_.k (hS.rd0 s3_.rd) (hS.blk0 s3_.blk)) (SlI.of_rd s4_.k (hS.rd0 s4_.rd) (hS.blk0 s4_.blk)) hm126) ?_
    rintro e w ⟨A127, c128, A131, c132, A135, c136, A139, c140, A143, c144, rfl, k129, k133, k137, k141, k145, hN⟩; refine ⟨_, rfl, ?_⟩; have hB := hN.pure; have hS := hS.join hN; clear hN
    refine wpS_alloc rfl rfl zc_32 hS (fun b147 w hS hB => ?_)
    refine wpS_store rfl rfl rfl CellsOf.agg hS ps0 st0_22 (by kernel_rfl) rfl (fun w hS hB => ?_)
    refine wpS_nil ?_
    refine QH_seq_k hK124 ?_
    refine wpC_seq_k (fun K hK149 => ?_)
    refine wpC_region ?_
    refine wpS_slice0 el_30 rfl rfl hS (fun b150 w hS hB => ?_)
    refine wpS_put rfl rfl rfl (yv_fieldAddr fo_32_10 rfl) ?_
    refine wpS_put rfl rfl rfl (yv_load_box sc_30 rfl (RW.here _) hS hs13 trivial sg21_1) ?_
    obtain ⟨l152, hf153, H⟩ := bind_some H
    refine wpX_append (ys := x1.caps) he_enI oc_enI em_30 (by decide) rfl rfl rfl rfl hS (fun _ => ps0) (hS.rd0 s9_.rd) hf153 (fun A154 c155 w k156 hS => ?_)
    refine wpS_put rfl rfl rfl (yv_fieldAddr fo_32_10 rfl) ?_
    refine wpS_store rfl rfl rfl CellsOf.slice hS ps1 st21_1 (by kernel_rfl) rfl (fun w hS hB => ?_)
    refine wpS_nil ?_
    refine QH_seq_k hK149 ?_
    refine wpC_seq_k (fun K hK157 => ?_)
    refine wpC_draw 15 [] (fun _ _ => True) ⟨by kernel_rfl, by kernel_rfl⟩ hS (fun w hS hB => ?_)
    refine wpR_batch [true, true, true] (by decide +kernel) (by repeat (first | exact PF.body | exact PF.round | apply PF.then | apply PF.inBlock | apply PF.jump)) ?_
    refine LtK.put rfl rfl rfl (yv_move rfl) ?_
    refine LtK.put rfl rfl rfl (yv_eql rfl rfl) ?_
    refine LtK.put rfl rfl rfl (yv_move rfl) ?_
    refine LtK.nil ?_
    refine wpR_case 97 rfl (fun hb => ?_) (fun hb => ?_)
    · replace H := cond_t H hb
      refine wpR_batch [false, false, false, true, true, false, true, true] (by decide +kernel) (by repeat (first | exact PF.body | exact PF.round | apply PF.then | apply PF.inBlock | apply PF.jump)) ?_
      refine LtK.skip rfl rfl rfl ?_
      refine LtK.skip rfl rfl rfl ?_
      refine LtK.skip rfl rfl rfl ?_
      refine LtK.skip rfl rfl rfl ?_
      refine LtK.nil ?_
      refine wpR_call [false, false, false, false, false, true] 5 ⟨by decide, by kernel_rfl, by kernel_rfl⟩ rfl rfl ?_
      dsimp only [pickL]
      refine wpS_skip rfl rfl rfl ?_
      refine wpS_nil ?_
      refine QH_step (Below.refl _ _) ?_
      refine wpR_call [false, false, false, false, false, false, false, false, true] 8 ⟨by decide, by kernel_rfl, by kernel_rfl⟩ rfl rfl ?_
      dsimp only [pickL]
      refine wpS_skip rfl rfl rfl ?_
      refine wpS_nil ?_
      refine QH_step (Below.refl _ _) ?_
      refine wpR_batch [false, false, false, false, false, false, false, false, false, true, true, true] (by decide +kernel) (by repeat (first | exact PF.body | exact PF.round | apply PF.then | apply PF.inBlock | apply PF.jump)) ?_
      refine LtK.skip rfl rfl rfl ?_
      refine LtK.put rfl rfl rfl (yv_pick_t rfl rfl rfl) ?_
      refine LtK.put rfl rfl rfl (yv_move rfl) ?_
      refine LtK.nil ?_
      refine wpR_call [false, false, false, false, false, false, false, false, false, false, false, false, true] 12 ⟨by decide, by kernel_rfl, by kernel_rfl⟩ rfl rfl ?_
      dsimp only [pickL]
      obtain ⟨r158, hm159, H⟩ := bind_some H
      refine wpS_call rfl rfl rfl rfl (by kernel_rfl) rfl (c_law21_wakes _ hm159) ?_
      rintro e w ⟨rfl, hN⟩; refine ⟨_, rfl, ?_⟩; have hB := hN.pure; have hS := hS.join hN; clear hN
      refine wpS_nil ?_
      refine QH_step hB ?_
      refine wpR_batch [false, false, false, false, false, false, false, false, false, false, false, false, false, true, true] (by decide +kernel) (by repeat (first | exact PF.body | exact PF.round | apply PF.then | apply PF.inBlock | apply PF.jump)) ?_
      refine LtK.put rfl rfl rfl (yv_pick_t rfl rfl rfl) ?_
      refine LtK.put rfl rfl rfl (yv_assign rfl) ?_
      refine LtK.nil ?_
      refine wpR_end (by kernel_rfl) ?_
      refine QH_seq_k hK157 ?_
      refine wpC_ret ?_
      refine QH_ret rfl (RV.tmp rfl RV.nil) rfl ?_
      obtain rfl := Option.some.inj H
      replace hS := hS.cut 0
      exact ⟨rfl, hS⟩
    replace H := cond_f H hb
    refine wpR_batch [false, false, false, true, true, false, true, true] (by decide +kernel) (by repeat (first | exact PF.body | exact PF.round | apply PF.then | apply PF.inBlock | apply PF.jump)) ?_
    refine LtK.put rfl rfl rfl (yv_load_boxA ag_32 rfl (RW.below _) hS hs14 trivial sg0_22) ?_
    refine LtK.put rfl rfl rfl (yv_move rfl) ?_
    refine LtK.put rfl rfl rfl (yv_load_boxA ag_32 rfl (RW.below _) hS hs1 trivial sg0_22) ?_
    refine LtK.put rfl rfl rfl (yv_move rfl) ?_
    refine LtK.nil ?_
    refine wpR_call [false, false, false, false, false, true] 5 ⟨by decide, by kernel_rfl, by kernel_rfl⟩ rfl rfl ?_
    dsimp only [pickL]
    obtain ⟨r160, hm161, H⟩ := bind_some H
    refine wpS_call rfl rfl rfl rfl (by kernel_rfl) rfl (c_advert_Ask x0 x2 A0_ c0_ A1_ c1_ A2_ c2_ A3_ c3_ A4_ c4_ _ (SlI.of_rd s0_.k (hS.rd0 s0_.rd) (hS.blk0 s0_.blk)) (SlI.of_rd s1_.k (hS.rd0 s1_.rd) (hS.blk0 s1_.blk)) (SlI.of_rd s2_.k (hS.rd0 s2_.rd) (hS.blk0 s2_.blk)) (SlI.of_rd s3_.k (hS.rd0 s3_.rd) (hS.blk0 s3_.blk)) (SlI.of_rd s4_.k (hS.rd0 s4_.rd) (hS.blk0 s4_.blk)) hm161) ?_
    rintro e w ⟨rfl, hN⟩; refine ⟨_, rfl, ?_⟩; have hB := hN.pure; have hS := hS.join hN; clear hN
    refine wpS_nil ?_
    refine QH_step hB ?_
    refine wpR_call [false, false, false, false, false, false, false, false, true] 8 ⟨by decide, by kernel_rfl, by kernel_rfl⟩ rfl rfl ?_
    dsimp only [pickL]
    obtain ⟨r162, hm163, H⟩ := bind_some H
    refine wpS_call rfl rfl rfl rfl (by kernel_rfl) rfl (c_advert_Ask (⟨r125.id, r125.n, r125.role, r125.binary, r125.tuple, r125.commit, r125.applied, r125.votes, r125.next, r125.mtch, l152⟩ : Co) x2 A127 c128 A131 c132 A135 c136 A139 c140 A154 c155 _ (SlI.of_rd k129 (hS.row_rd hs2) (hS.row_blk hs2)) (SlI.of_rd k133 (hS.row_rd hs3) (hS.row_blk hs3)) (SlI.of_rd k137 (hS.row_rd hs4) (hS.row_blk hs4)) (SlI.of_rd k141 (hS.row_rd hs5) (hS.row_blk hs5)) (SlI.of_rd k156 (hS.row_rd hs0) (hS.row_blk hs0)) hm163) ?_
    rintro e w ⟨rfl, hN⟩; refine ⟨_, rfl, ?_⟩; have hB := hN.pure; have hS := hS.join hN; clear hN
    refine wpS_nil ?_
    refine QH_step hB ?_
    refine wpR_batch [false, false, false, false, false, false, false, false, false, true, true, true] (by decide +kernel) (by repeat (first | exact PF.body | exact PF.round | apply PF.then | apply PF.inBlock | apply PF.jump)) ?_
    refine LtK.put rfl rfl rfl (yv_eql rfl rfl) ?_
    refine LtK.put rfl rfl rfl (yv_pick_f rfl rfl rfl) ?_
    refine LtK.put rfl rfl rfl (yv_move rfl) ?_
    refine LtK.nil ?_
    refine wpR_case 106 rfl (fun hb => ?_) (fun hb => ?_)
    rotate_left
    · replace H := cond_f H hb
      refine wpR_call [false, false, false, false, false, false, false, false, false, false, false, false, true] 12 ⟨by decide, by kernel_rfl, by kernel_rfl⟩ rfl rfl ?_
      dsimp only [pickL]
      refine wpS_skip rfl rfl rfl ?_
      refine wpS_nil ?_
      refine QH_step (Below.refl _ _) ?_
      refine wpR_batch [false, false, false, false, false, false, false, false, false, false, false, false, false, true, true] (by decide +kernel) (by repeat (first | exact PF.body | exact PF.round | apply PF.then | apply PF.inBlock | apply PF.jump)) ?_
      refine LtK.put rfl rfl rfl (yv_pick_f rfl rfl rfl) ?_
      refine LtK.put rfl rfl rfl (yv_assign rfl) ?_
      refine LtK.nil ?_
      refine wpR_end (by kernel_rfl) ?_
      refine QH_seq_k hK157 ?_
      refine wpC_ret ?_
      refine QH_ret rfl (RV.tmp rfl RV.nil) rfl ?_
      obtain rfl := Option.some.inj H
      replace hS := hS.cut 0
      exact ⟨rfl, hS⟩
    replace H := cond_t H hb
    refine wpR_call [false, false, false, false, false, false, false, false, false, false, false, false, true] 12 ⟨by decide, by kernel_rfl, by kernel_rfl⟩ rfl rfl ?_
    dsimp only [pickL]
    obtain ⟨r164, hm165, H⟩ := bind_some H
    refine wpS_call rfl rfl rfl rfl (by kernel_rfl) rfl (c_law21_wakes _ hm165) ?_
    rintro e w ⟨rfl, hN⟩; refine ⟨_, rfl, ?_⟩; have hB := hN.pure; have hS := hS.join hN; clear hN
    refine wpS_nil ?_
    refine QH_step hB ?_
    refine wpR_batch [false, false, false, false, false, false, false, false, false, false, false, false, false, true, true] (by decide +kernel) (by repeat (first | exact PF.body | exact PF.round | apply PF.then | apply PF.inBlock | apply PF.jump)) ?_
    refine LtK.put rfl rfl rfl (yv_pick_t rfl rfl rfl) ?_
    refine LtK.put rfl rfl rfl (yv_assign rfl) ?_
    refine LtK.nil ?_
    refine wpR_end (by kernel_rfl) ?_
    refine QH_seq_k hK157 ?_
    refine wpC_ret ?_
    refine QH_ret rfl (RV.tmp rfl RV.nil) rfl ?_
    obtain rfl := Option.some.inj H
    replace hS := hS.cut 0
    exact ⟨rfl, hS⟩
  replace H := cond_t H hb
  refine wpS_put rfl rfl rfl (yv_fieldAddr fo_32_1 rfl) ?_
  refine wpS_put rfl rfl rfl (yv_load_box sc_3 rfl (RW.here _) hS hs7 trivial sg1_1) ?_
  refine wpS_put rfl rfl rfl (yv_eql rfl rfl) ?_
  refine wpS_quick 2 rfl ?_
  refine wpS_nil ?_
  refine QH_seq_k hK66 ?_
  refine wpC_cond rfl (fun hb => ?_) (fun hb => ?_)
  · replace H := cond_t H hb
    refine wpC_seq_k (fun K hK81 => ?_)
    refine wpC_region ?_
    refine wpS_quick 1 rfl ?_
    refine wpS_nil ?_
    refine QH_seq_k hK81 ?_
    refine wpC_ret ?_
    refine QH_then_ret ?_
    refine QH_ret rfl (RV.tmp rfl RV.nil) rfl ?_
    obtain rfl := Option.some.inj H
    replace hS := hS.cut 0
    exact ⟨rfl, hS⟩
  replace H := cond_f H hb
  refine wpC_skip ?_
  refine QH_seq_k hK65 ?_
  refine wpC_seq_k (fun K hK82 => ?_)
  refine wpC_region ?_
  refine wpS_put rfl rfl rfl (yv_load_boxA ag_32 rfl (RW.here _) hS hs7 trivial sg0_22) ?_
  obtain ⟨r83, hm84, H⟩ := bind_some H
  refine wpS_call rfl rfl rfl rfl (by kernel_rfl) rfl (c_ref20_Own x0 A0_ c0_ A1_ c1_ A2_ c2_ A3_ c3_ A4_ c4_ _ (SlI.of_rd s0_.k (hS.rd0 s0_.rd) (hS.blk0 s0_.blk)) (SlI.of_rd s1_.k (hS.rd0 s1_.rd) (hS.blk0 s1_.blk)) (SlI.of_rd s2_.k (hS.rd0 s2_.rd) (hS.blk0 s2_.blk)) (SlI.of_rd s3_.k (hS.rd0 s3_.rd) (hS.blk0 s3_.blk)) (SlI.of_rd s4_.k (hS.rd0 s4_.rd) (hS.blk0 s4_.blk)) hm84) ?_
  rintro e w ⟨A85, c86, A89, c90, A93, c94, A97, c98, A101, c102, rfl, k87, k91, k95, k99, k103, hN⟩; refine ⟨_, rfl, ?_⟩; have hB := hN.pure; have hS := hS.join hN; clear hN
  refine wpS_alloc rfl rfl zc_32 hS (fun b105 w hS hB => ?_)
  refine wpS_store rfl rfl rfl CellsOf.agg hS ps0 st0_22 (by kernel_rfl) rfl (fun w hS hB => ?_)
  refine wpS_nil ?_
  refine QH_seq_k hK82 ?_
  refine wpC_seq_k (fun K hK107 => ?_)
  refine wpC_region ?_
  refine wpS_slice0 el_30 rfl rfl hS (fun b108 w hS hB => ?_)
  refine wpS_put rfl rfl rfl (yv_fieldAddr fo_32_10 rfl) ?_
  refine wpS_put rfl rfl rfl (yv_load_box sc_30 rfl (RW.here _) hS hs13 trivial sg21_1) ?_
  obtain ⟨l110, hf111, H⟩ := bind_some H
  refine wpX_append (ys := x1.caps) he_enI oc_enI em_30 (by decide) rfl rfl rfl rfl hS (fun _ => ps0) (hS.rd0 s9_.rd) hf111 (fun A112 c113 w k114 hS => ?_)
  refine wpS_put rfl rfl rfl (yv_fieldAddr fo_32_10 rfl) ?_
  refine wpS_store rfl rfl rfl CellsOf.slice hS ps1 st21_1 (by kernel_rfl) rfl (fun w hS hB => ?_)
  refine wpS_nil ?_
  refine QH_seq_k hK107 ?_
  refine wpC_seq_k (fun K hK115 => ?_)
  refine wpC_draw 15 [] (fun _ _ => True) ⟨by kernel_rfl, by kernel_rfl⟩ hS (fun w hS hB => ?_)
  refine wpR_batch [true, true, true] (by decide +kernel) (by repeat (first | exact PF.body | exact PF.round | apply PF.then | apply PF.inBlock | apply PF.jump)) ?_
  refine LtK.put rfl rfl rfl (yv_move rfl) ?_
  refine LtK.put rfl rfl rfl (yv_eql rfl rfl) ?_
  refine LtK.put rfl rfl rfl (yv_move rfl) ?_
  refine LtK.nil ?_
  refine wpR_case 97 rfl (fun hb => ?_) (fun hb => ?_)
  · replace H := cond_t H hb
    refine wpR_batch [false, false, false, true, true, false, true, true] (by decide +kernel) (by repeat (first | exact PF.body | exact PF.round | apply PF.then | apply PF.inBlock | apply PF.jump)) ?_
    refine LtK.skip rfl rfl rfl ?_
    refine LtK.skip rfl rfl rfl ?_
    refine LtK.skip rfl rfl rfl ?_
    refine LtK.skip rfl rfl rfl ?_
    refine LtK.nil ?_
    refine wpR_call [false, false, false, false, false, true] 5 ⟨by decide, by kernel_rfl, by kernel_rfl⟩ rfl rfl ?_
    dsimp only [pickL]
    refine wpS_skip rfl rfl rfl ?_
    refine wpS_nil ?_
    refine QH_step (Below.refl _ _) ?_
    refine wpR_call [false, false, false, false, false, false, false, false, true] 8 ⟨by decide, by kernel_rfl, by kernel_rfl⟩ rfl rfl ?_
    dsimp only [pickL]
    refine wpS_skip rfl rfl rfl ?_
    refine wpS_nil ?_
    refine QH_step (Below.refl _ _) ?_
    refine wpR_batch [false, false, false, false, false, false, false, false, false, true, true, true] (by decide +kernel) (by repeat (first | exact PF.body | exact PF.round | apply PF.then | apply PF.inBlock | apply PF.jump)) ?_
    refine LtK.skip rfl rfl rfl ?_
    refine LtK.put rfl rfl rfl (yv_pick_t rfl rfl rfl) ?_
    refine LtK.put rfl rfl rfl (yv_move rfl) ?_
    refine LtK.nil ?_
    refine wpR_call [false, false, false, false, false, false, false, false, false, false, false, false, true] 12 ⟨by decide, by kernel_rfl, by kernel_rfl⟩ rfl rfl ?_
    dsimp only [pickL]
    obtain ⟨r116, hm117, H⟩ := bind_some H
    refine wpS_call rfl rfl rfl rfl (by kernel_rfl) rfl (c_law21_wakes _ hm117) ?_
    rintro e w ⟨rfl, hN⟩; refine ⟨_, rfl, ?_⟩; have hB := hN.pure; have hS := hS.join hN; clear hN
    refine wpS_nil ?_
    refine QH_step hB ?_
    refine wpR_batch [false, false, false, false, false, false, false, false, false, false, false, false, false, true, true] (by decide +kernel) (by repeat (first | exact PF.body | exact PF.round | apply PF.then | apply PF.inBlock | apply PF.jump)) ?_
    refine LtK.put rfl rfl rfl (yv_pick_t rfl rfl rfl) ?_
    refine LtK.put rfl rfl rfl (yv_assign rfl) ?_
    refine LtK.nil ?_
    refine wpR_end (by kernel_rfl) ?_
    refine QH_seq_k hK115 ?_
    refine wpC_ret ?_
    refine QH_ret rfl (RV.tmp rfl RV.nil) rfl ?_
    obtain rfl := Option.some.inj H
    replace hS := hS.cut 0
    exact ⟨rfl, hS⟩
  replace H := cond_f H hb
  refine wpR_batch [false, false, false, true, true, false, true, true] (by decide +kernel) (by repeat (first | exact PF.body | exact PF.round | apply PF.then | apply PF.inBlock | apply PF.jump)) ?_
  refine LtK.put rfl rfl rfl (yv_load_boxA ag_32 rfl (RW.below _) hS hs14 trivial sg0_22) ?_
  refine LtK.put rfl rfl rfl (yv_move rfl) ?_
  refine LtK.put rfl rfl rfl (yv_load_boxA ag_32 rfl (RW.below _) hS hs1 trivial sg0_22) ?_
  refine LtK.put rfl rfl rfl (yv_move rfl) ?_
  refine LtK.nil ?_
  refine wpR_call [false, false, false, false, false, true] 5 ⟨by decide, by kernel_rfl, by kernel_rfl⟩ rfl rfl ?_
  dsimp only [pickL]
  obtain ⟨r118, hm119, H⟩ := bind_some H
  refine wpS_call rfl rfl rfl rfl (by kernel_rfl) rfl (c_advert_Ask x0 x2 A0_ c0_ A1_ c1_ A2_ c2_ A3_ c3_ A4_ c4_ _ (SlI.of_rd s0_.k (hS.rd0 s0_.rd) (hS.blk0 s0_.blk)) (SlI.of_rd s1_.k (hS.rd0 s1_.rd) (hS.blk0 s1_.blk)) (SlI.of_rd s2_.k (hS.rd0 s2_.rd) (hS.blk0 s2_.blk)) (SlI.of_rd s3_.k (hS.rd0 s3_.rd) (hS.blk0 s3_.blk)) (SlI.of_rd s4_.k (hS.rd0 s4_.rd) (hS.blk0 s4_.blk)) hm119) ?_
  rintro e w ⟨rfl, hN⟩; refine ⟨_, rfl, ?_⟩; have hB := hN.pure; have hS := hS.join hN; clear hN
  refine wpS_nil ?_
  refine QH_step hB ?_
  refine wpR_call [false, false, false, false, false, false, false, false, true] 8 ⟨by decide, by kernel_rfl, by kernel_rfl⟩ rfl rfl ?_
  dsimp only [pickL]
  obtain ⟨r120, hm121, H⟩ := bind_some H
  refine wpS_call rfl rfl rfl rfl (by kernel_rfl) rfl (c_advert_Ask (⟨r83.id, r83.n, r83.role, r83.binary, r83.tuple, r83.commit, r83.applied, r83.votes, r83.next, r83.mtch, l110⟩ : Co) x2 A85 c86 A89 c90 A93 c94 A97 c98 A112 c113 _ (SlI.of_rd k87 (hS.row_rd hs2) (hS.row_blk hs2)) (SlI.of_rd k91 (hS.row_rd hs3) (hS.row_blk hs3)) (SlI.of_rd k95 (hS.row_rd hs4) (hS.row_blk hs4)) (SlI.of_rd k99 (hS.row_rd hs5) (hS.row_blk hs5)) (SlI.of_rd k114 (hS.row_rd hs0) (hS.row_blk hs0)) hm121) ?_
  rintro e w ⟨rfl, hN⟩; refine ⟨_, rfl, ?_⟩; have hB := hN.pure; have hS := hS.join hN; clear hN
  refine wpS_nil ?_
  refine QH_step hB ?_
  refine wpR_batch [false, false, false, false, false, false, false, false, false, true, true, true] (by decide +kernel) (by repeat (first | exact PF.body | exact PF.round | apply PF.then | apply PF.inBlock | apply PF.jump)) ?_
  refine LtK.put rfl rfl rfl (yv_eql rfl rfl) ?_
  refine LtK.put rfl rfl rfl (yv_pick_f rfl rfl rfl) ?_
  refine LtK.put rfl rfl rfl (yv_move rfl) ?_
  refine LtK.nil ?_
  refine wpR_case 106 rfl (fun hb => ?_) (fun hb => ?_)
  rotate_left
  · replace H := cond_f H hb
    refine wpR_call [false, false, false, false, false, false, false, false, false, false, false, false, true] 12 ⟨by decide, by kernel_rfl, by kernel_rfl⟩ rfl rfl ?_
    dsimp only [pickL]
    refine wpS_skip rfl rfl rfl ?_
    refine wpS_nil ?_
    refine QH_step (Below.refl _ _) ?_
    refine wpR_batch [false, false, false, false, false, false, false, false, false, false, false, false, false, true, true] (by decide +kernel) (by repeat (first | exact PF.body | exact PF.round | apply PF.then | apply PF.inBlock | apply PF.jump)) ?_
    refine LtK.put rfl rfl rfl (yv_pick_f rfl rfl rfl) ?_
    refine LtK.put rfl rfl rfl (yv_assign rfl) ?_
    refine LtK.nil ?_
    refine wpR_end (by kernel_rfl) ?_
    refine QH_seq_k hK115 ?_
    refine wpC_ret ?_
    refine QH_ret rfl (RV.tmp rfl RV.nil) rfl ?_
    obtain rfl := Option.some.inj H
    replace hS := hS.cut 0
    exact ⟨rfl, hS⟩
  replace H := cond_t H hb
  refine wpR_call [false, false, false, false, false, false, false, false, false, false, false, false, true] 12 ⟨by decide, by kernel_rfl, by kernel_rfl⟩ rfl rfl ?_
  dsimp only [pickL]
  obtain ⟨r122, hm123, H⟩ := bind_some H
  refine wpS_call rfl rfl rfl rfl (by kernel_rfl) rfl (c_law21_wakes _ hm123) ?_
  rintro e w ⟨rfl, hN⟩; refine ⟨_, rfl, ?_⟩; have hB := hN.pure; have hS := hS.join hN; clear hN
  refine wpS_nil ?_
  refine QH_step hB ?_
  refine wpR_batch [false, false, false, false, false, false, false, false, false, false, false, false, false, true, true] (by decide +kernel) (by repeat (first | exact PF.body | exact PF.round | apply PF.then | apply PF.inBlock | apply PF.jump)) ?_
  refine LtK.put rfl rfl rfl (yv_pick_t rfl rfl rfl) ?_
  refine LtK.put rfl rfl rfl (yv_assign rfl) ?_
  refine LtK.nil ?_
  refine wpR_end (by kernel_rfl) ?_
  refine QH_seq_k hK115 ?_
  refine wpC_ret ?_
  refine QH_ret rfl (RV.tmp rfl RV.nil) rfl ?_
  obtain rfl := Option.some.inj H
  replace hS := hS.cut 0
  exact ⟨rfl, hS⟩
end Go.Proofs.Ytohkkncfofomdaa
