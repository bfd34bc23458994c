/- Texts of one claim put together: what its walks share. -/
import Derived.Test.YtenagnncpaabdaaGreatMg1
import Derived.Test.YtenagnncpaabdaaGreatMg2
import Derived.Test.YtenagnncpaabdaaGreatMg4
/- What functions compute, in plain terms, and that they do; printed. -/
namespace Go.Proofs.YtenagnncpaabdaaGreat
open Go Go.RowKit
set_option maxRecDepth 100000
set_option maxHeartbeats 4000000
theorem c_commit_May (x0 : Co) (A0_ : Option Addr) (c0_ : Nat) (A1_ : Option Addr) (c1_ : Nat) (A2_ : Option Addr) (c2_ : Nat) (A3_ : Option Addr) (c3_ : Nat) (A4_ : Option Addr) (c4_ : Nat) (w0 : World) (s0_ : SlI w0 enE A0_ c0_ x0.tuple.log) (s1_ : SlI w0 enO A1_ c1_ x0.votes) (s2_ : SlI w0 enI A2_ c2_ x0.next) (s3_ : SlI w0 enI A3_ c3_ x0.mtch) (s4_ : SlI w0 enI A4_ c4_ x0.caps) {r : Int} (H : m_commit_May x0 = some r) : Calls Tryz.prog 30 #[.agg #[.int .i64 x0.id, .int .i64 x0.n, .int .u8 x0.role, .int .i64 x0.binary, .int .i64 x0.tuple.snap.index, .int .i64 x0.tuple.snap.term, .int .i64 x0.tuple.snap.sum, .int .i64 x0.tuple.snap.level, .bool x0.tuple.snap.final, .slice A0_ x0.tuple.log.length c0_, .int .i64 x0.tuple.term, .int .i64 x0.tuple.vote, .int .i64 x0.commit, .int .i64 x0.applied.index, .int .i64 x0.applied.term, .int .i64 x0.applied.sum, .int .i64 x0.applied.level, .bool x0.applied.final, .slice A1_ x0.votes.length c1_, .slice A2_ x0.next.length c2_, .slice A3_ x0.mtch.length c3_, .slice A4_ x0.caps.length c4_]] w0 fun e w' => e = .returned (.int .i64 r) ∧ St0 All w0 w' [] := by
  unfold m_commit_May at H
  refine gw_enter1 Tryz.func30 rfl Tryz.ntmps30 rfl ?_
  have hS := St0.start All w0
  refine wpC_seq_k (fun K hK1 => ?_)
  refine wpC_region ?_
  refine wpS_box rfl rfl rfl CellsOf.agg hS (fun b2 w hS hB => ?_)
  refine wpS_quick 1 rfl ?_
  refine wpS_nil ?_
  refine QH_seq_k hK1 ?_
  refine wpC_scope 0 (X := Nat × Int × Int) (fun x => (1, .pointer (some ⟨b2, 0, none⟩)) :: (2, .int .i64 x.2.1) :: (3, .int .i64 x.2.2) :: []) (fun x w => St0 All w0 w (.box b2 [.int .i64 x0.id, .int .i64 x0.n, .int .u8 x0.role, .int .i64 x0.binary, .int .i64 x0.tuple.snap.index, .int .i64 x0.tuple.snap.term, .int .i64 x0.tuple.snap.sum, .int .i64 x0.tuple.snap.level, .bool x0.tuple.snap.final, .slice A0_ x0.tuple.log.length c0_, .int .i64 x0.tuple.term, .int .i64 x0.tuple.vote, .int .i64 x0.commit, .int .i64 x0.applied.index, .int .i64 x0.applied.term, .int .i64 x0.applied.sum, .int .i64 x0.applied.level, .bool x0.applied.final, .slice A1_ x0.votes.length c1_, .slice A2_ x0.next.length c2_, .slice A3_ x0.mtch.length c3_, .slice A4_ x0.caps.length c4_] 30 :: []) ∧ m_commit_May_l1 x0 x.1 x.2.1 x.2.2 = some r) (fun x => x.1) rfl ?_ (fun _ => ?_)
  · rintro ⟨n, v4, v5⟩ w ⟨hS, H⟩
    dsimp only at hS H ⊢
    obtain _ | n := n
    · have H0 : none = some r := H
      cases H0
    rw [m_commit_May_l1] at H
    refine wpC_seq_k (fun K hK6 => ?_)
    refine wpC_skip ?_
    refine QH_seq_k hK6 ?_
    refine wpC_seq_k (fun K hK7 => ?_)
    refine wpC_seq_k (fun K hK8 => ?_)
    refine wpC_region ?_
    refine wpS_quick 1 rfl ?_
    refine wpS_put rfl rfl rfl (yv_fieldAddr fo_30_5 rfl) ?_
    refine wpS_put rfl rfl rfl (yv_load_box sc_3 rfl (RW.here _) hS hs0 trivial sg12_1) ?_
    refine wpS_put rfl rfl rfl (yv_leq rfl rfl) ?_
    refine wpS_nil ?_
    refine QH_seq_k hK8 ?_
    refine wpC_cond rfl (fun hb => ?_) (fun hb => ?_)
    · replace H := cond_t H hb
      refine wpC_seq_k (fun K hK9 => ?_)
      refine wpC_region ?_
      refine wpS_put rfl rfl rfl (yv_fieldAddr fo_30_5 rfl) ?_
      refine wpS_put rfl rfl rfl (yv_load_box sc_3 rfl (RW.here _) hS hs0 trivial sg12_1) ?_
      refine wpS_quick 1 rfl ?_
      refine wpS_nil ?_
      refine QH_seq_k hK9 ?_
      refine wpC_ret ?_
      refine QH_then_ret ?_
      refine QH_jmp_ret ?_
      refine QH_ret rfl (RV.tmp rfl RV.nil) rfl ?_
      obtain rfl := Option.some.inj H
      replace hS := hS.cut 0
      exact ⟨rfl, hS⟩
    replace H := cond_f H hb
    refine wpC_skip ?_
    refine QH_seq_k hK7 ?_
    refine wpC_seq_k (fun K hK10 => ?_)
    refine wpC_seq_k (fun K hK11 => ?_)
    refine wpC_region ?_
    refine wpS_put rfl rfl rfl (yv_fieldAddr fo_30_4 rfl) ?_
    refine wpS_put rfl rfl rfl (yv_load_boxA ag_26 rfl (RW.here _) hS hs0 trivial sg4_8) ?_
    refine wpS_quick 1 rfl ?_
    obtain ⟨r12, hm13, H⟩ := bind_some H
    refine wpS_call rfl rfl rfl rfl (by kernel_rfl) rfl (c_tuple_TermAt x0.tuple v5 A0_ c0_ _ (SlI.of_rd s0_.k (hS.rd0 s0_.rd) (hS.blk0 s0_.blk)) hm13) ?_
    rintro e w ⟨rfl, hN⟩; refine ⟨_, rfl, ?_⟩; have hB := hN.pure; have hS := hS.join hN; clear hN
    refine wpS_quick 1 rfl ?_
    refine wpS_put rfl rfl rfl (yv_extract rfl rfl) ?_
    refine wpS_put rfl rfl rfl (yv_extract rfl rfl) ?_
    refine wpS_quick 2 rfl ?_
    refine wpS_nil ?_
    refine QH_seq_k hK11 ?_
    refine wpC_seq_k (fun K hK14 => ?_)
    refine wpC_draw 17 [] (fun _ _ => True) ⟨by kernel_rfl, by kernel_rfl⟩ hS (fun w hS hB => ?_)
    refine wpR_batch [true, true] (by decide +kernel) (by repeat (first | exact PF.body | exact PF.round | apply PF.then | apply PF.inBlock | apply PF.jump)) ?_
    refine LtK.put rfl rfl rfl (yv_move rfl) ?_
    refine LtK.put rfl rfl rfl (yv_move rfl) ?_
    refine LtK.nil ?_
    refine wpR_case 33 rfl (fun hb => ?_) (fun hb => ?_)
    rotate_left
    · replace H := cond_f H hb
      refine wpR_batch [false, false, true, true, true, true, true, true, true, true, true, false, false, true, true] (by decide +kernel) (by repeat (first | exact PF.body | exact PF.round | apply PF.then | apply PF.inBlock | apply PF.jump)) ?_
      refine LtK.skip rfl rfl rfl ?_
      refine LtK.skip rfl rfl rfl ?_
      refine LtK.skip rfl rfl rfl ?_
      refine LtK.skip rfl rfl rfl ?_
      refine LtK.skip rfl rfl rfl ?_
      refine LtK.put rfl rfl rfl (yv_pick_f rfl rfl rfl) ?_
      refine LtK.put rfl rfl rfl (yv_move rfl) ?_
      refine LtK.skip rfl rfl rfl ?_
      refine LtK.skip rfl rfl rfl ?_
      refine LtK.skip rfl rfl rfl ?_
      refine LtK.skip rfl rfl rfl ?_
      refine LtK.nil ?_
      refine wpR_call [false, false, false, false, false, false, false, false, false, false, false, true] 11 ⟨by decide, by kernel_rfl, by kernel_rfl⟩ rfl rfl ?_
      dsimp only [pickL]
      refine wpS_skip rfl rfl rfl ?_
      refine wpS_nil ?_
      refine QH_step (Below.refl _ _) ?_
      refine wpR_batch [false, false, false, false, false, false, false, false, false, false, false, false, true, false, false, true, true] (by decide +kernel) (by repeat (first | exact PF.body | exact PF.round | apply PF.then | apply PF.inBlock | apply PF.jump)) ?_
      refine LtK.skip rfl rfl rfl ?_
      refine LtK.skip rfl rfl rfl ?_
      refine LtK.put rfl rfl rfl (yv_pick_f rfl rfl rfl) ?_
      refine LtK.nil ?_
      refine wpR_end (by kernel_rfl) ?_
      refine QH_seq_k hK14 ?_
      refine wpC_cond_f rfl rfl ?_
      refine wpC_skip ?_
      refine QH_seq_k hK10 ?_
      refine wpC_seq_k (fun K hK20 => ?_)
      refine wpC_region ?_
      refine wpS_quick 1 rfl ?_
      refine wpS_put rfl rfl rfl (yx_sub rfl rfl) ?_
      refine wpS_quick 1 rfl ?_
      refine wpS_nil ?_
      refine QH_seq_k hK20 ?_
      refine wpC_goto ?_
      exact QH_jump (n, v4, (IntKind.wrap .i64 (v5 - 1))) (by repeat (first | exact Sub.nil | refine Sub.cons rfl ?_)) ⟨hS, H⟩ (Nat.lt_succ_self _)
    replace H := cond_t H hb
    refine wpR_batch [false, false, true, true, true, true, true, true, true] (by decide +kernel) (by repeat (first | exact PF.body | exact PF.round | apply PF.then | apply PF.inBlock | apply PF.jump)) ?_
    refine LtK.put rfl rfl rfl (yv_move rfl) ?_
    refine LtK.put rfl rfl rfl (yv_fieldAddr fo_30_4 rfl) ?_
    refine LtK.put rfl rfl rfl (yv_fieldAddr fo_26_2 rfl) ?_
    refine LtK.put rfl rfl rfl (yv_load_box sc_3 rfl (RW.below _) hS hs0 trivial sg10_1) ?_
    refine LtK.put rfl rfl rfl (yv_eql rfl rfl) ?_
    refine LtK.put rfl rfl rfl (yv_pick_t rfl rfl rfl) ?_
    refine LtK.put rfl rfl rfl (yv_move rfl) ?_
    refine LtK.nil ?_
    refine wpR_case 40 rfl (fun hb => ?_) (fun hb => ?_)
    rotate_left
    · replace H := cond_f H hb
      refine wpR_batch [false, false, false, false, false, false, false, false, false, true, true, false, false, true, true] (by decide +kernel) (by repeat (first | exact PF.body | exact PF.round | apply PF.then | apply PF.inBlock | apply PF.jump)) ?_
      refine LtK.skip rfl rfl rfl ?_
      refine LtK.skip rfl rfl rfl ?_
      refine LtK.skip rfl rfl rfl ?_
      refine LtK.skip rfl rfl rfl ?_
      refine LtK.nil ?_
      refine wpR_call [false, false, false, false, false, false, false, false, false, false, false, true] 11 ⟨by decide, by kernel_rfl, by kernel_rfl⟩ rfl rfl ?_
      dsimp only [pickL]
      refine wpS_skip rfl rfl rfl ?_
      refine wpS_nil ?_
      refine QH_step (Below.refl _ _) ?_
      refine wpR_batch [false, false, false, false, false, false, false, false, false, false, false, false, true, false, false, true, true] (by decide +kernel) (by repeat (first | exact PF.body | exact PF.round | apply PF.then | apply PF.inBlock | apply PF.jump)) ?_
      refine LtK.skip rfl rfl rfl ?_
      refine LtK.skip rfl rfl rfl ?_
      refine LtK.put rfl rfl rfl (yv_pick_f rfl rfl rfl) ?_
      refine LtK.nil ?_
      refine wpR_end (by kernel_rfl) ?_
      refine QH_seq_k hK14 ?_
      refine wpC_cond_f rfl rfl ?_
      refine wpC_skip ?_
      refine QH_seq_k hK10 ?_
      refine wpC_seq_k (fun K hK19 => ?_)
      refine wpC_region ?_
      refine wpS_quick 1 rfl ?_
      refine wpS_put rfl rfl rfl (yx_sub rfl rfl) ?_
      refine wpS_quick 1 rfl ?_
      refine wpS_nil ?_
      refine QH_seq_k hK19 ?_
      refine wpC_goto ?_
      exact QH_jump (n, v4, (IntKind.wrap .i64 (v5 - 1))) (by repeat (first | exact Sub.nil | refine Sub.cons rfl ?_)) ⟨hS, H⟩ (Nat.lt_succ_self _)
    replace H := cond_t H hb
    refine wpR_batch [false, false, false, false, false, false, false, false, false, true, true, false, false, true, true] (by decide +kernel) (by repeat (first | exact PF.body | exact PF.round | apply PF.then | apply PF.inBlock | apply PF.jump)) ?_
    refine LtK.put rfl rfl rfl (yv_load_boxA ag_30 rfl (RW.below _) hS hs0 trivial sg0_22) ?_
    refine LtK.put rfl rfl rfl (yv_move rfl) ?_
    refine LtK.put rfl rfl rfl (yv_fieldAddr fo_30_1 rfl) ?_
    refine LtK.put rfl rfl rfl (yv_load_box sc_3 rfl (RW.below _) hS hs0 trivial sg1_1) ?_
    refine LtK.nil ?_
    refine wpR_call [false, false, false, false, false, false, false, false, false, false, false, true] 11 ⟨by decide, by kernel_rfl, by kernel_rfl⟩ rfl rfl ?_
    dsimp only [pickL]
    obtain ⟨r15, hm16, H⟩ := bind_some H
    refine wpS_call rfl rfl rfl rfl (by kernel_rfl) rfl (c_commit_Had x0 v5 A0_ c0_ A1_ c1_ A2_ c2_ A3_ c3_ A4_ c4_ _ (SlI.of_rd s0_.k (hS.rd0 s0_.rd) (hS.blk0 s0_.blk)) (SlI.of_rd s1_.k (hS.rd0 s1_.rd) (hS.blk0 s1_.blk)) (SlI.of_rd s2_.k (hS.rd0 s2_.rd) (hS.blk0 s2_.blk)) (SlI.of_rd s3_.k (hS.rd0 s3_.rd) (hS.blk0 s3_.blk)) (SlI.of_rd s4_.k (hS.rd0 s4_.rd) (hS.blk0 s4_.blk)) hm16) ?_
    rintro e w ⟨rfl, hN⟩; refine ⟨_, rfl, ?_⟩; have hB := hN.pure; have hS := hS.join hN; clear hN
    refine wpS_nil ?_
    refine QH_step hB ?_
    refine wpR_batch [false, false, false, false, false, false, false, false, false, false, false, false, true, false, false, true, true] (by decide +kernel) (by repeat (first | exact PF.body | exact PF.round | apply PF.then | apply PF.inBlock | apply PF.jump)) ?_
    refine LtK.put rfl rfl rfl (yx_mul rfl rfl) ?_
    refine LtK.put rfl rfl rfl (yv_gtr rfl rfl) ?_
    refine LtK.put rfl rfl rfl (yv_pick_t rfl rfl rfl) ?_
    refine LtK.nil ?_
    refine wpR_end (by kernel_rfl) ?_
    refine QH_seq_k hK14 ?_
    refine wpC_cond rfl (fun hb => ?_) (fun hb => ?_)
    rotate_left
    · replace H := cond_f H hb
      refine wpC_skip ?_
      refine QH_seq_k hK10 ?_
      refine wpC_seq_k (fun K hK18 => ?_)
      refine wpC_region ?_
      refine wpS_quick 1 rfl ?_
      refine wpS_put rfl rfl rfl (yx_sub rfl rfl) ?_
      refine wpS_quick 1 rfl ?_
      refine wpS_nil ?_
      refine QH_seq_k hK18 ?_
      refine wpC_goto ?_
      exact QH_jump (n, v4, (IntKind.wrap .i64 (v5 - 1))) (by repeat (first | exact Sub.nil | refine Sub.cons rfl ?_)) ⟨hS, H⟩ (Nat.lt_succ_self _)
    replace H := cond_t H hb
    refine wpC_seq_k (fun K hK17 => ?_)
    refine wpC_region ?_
    refine wpS_quick 2 rfl ?_
    refine wpS_nil ?_
    refine QH_seq_k hK17 ?_
    refine wpC_ret ?_
    refine QH_then_ret ?_
    refine QH_jmp_ret ?_
    refine QH_ret rfl (RV.tmp rfl RV.nil) rfl ?_
    obtain rfl := Option.some.inj H
    replace hS := hS.cut 0
    exact ⟨rfl, hS⟩
  refine wpC_seq_k (fun K hK21 => ?_)
  refine wpC_region ?_
  refine wpS_put rfl rfl rfl (yv_fieldAddr fo_30_4 rfl) ?_
  refine wpS_put rfl rfl rfl (yv_load_boxA ag_26 rfl (RW.here _) hS hs0 trivial sg4_8) ?_
  obtain ⟨r22, hm23, H⟩ := bind_some H
  refine wpS_call rfl rfl rfl rfl (by kernel_rfl) rfl (c_tuple_Last x0.tuple A0_ c0_ _ (SlI.of_rd s0_.k (hS.rd0 s0_.rd) (hS.blk0 s0_.blk)) hm23) ?_
  rintro e w ⟨rfl, hN⟩; refine ⟨_, rfl, ?_⟩; have hB := hN.pure; have hS := hS.join hN; clear hN
  refine wpS_quick 1 rfl ?_
  refine wpS_nil ?_
  refine QH_seq_k hK21 ?_
  refine wpC_seq_k (fun K hK24 => ?_)
  refine wpC_seq_k (fun K hK25 => ?_)
  refine wpC_region ?_
  refine wpS_put rfl rfl rfl (yv_fieldAddr fo_30_2 rfl) ?_
  refine wpS_put rfl rfl rfl (yv_load_box sc_5 rfl (RW.here _) hS hs0 trivial sg2_1) ?_
  refine wpS_put rfl rfl rfl (yv_neq rfl rfl) ?_
  refine wpS_quick 1 rfl ?_
  refine wpS_case 12 rfl (fun hb => ?_) (fun hb => ?_)
  · replace H := cond_t H hb
    refine wpS_quick 4 rfl ?_
    refine wpS_nil ?_
    refine QH_seq_k hK25 ?_
    refine wpC_cond_t rfl rfl ?_
    refine wpC_seq_k (fun K hK26 => ?_)
    refine wpC_region ?_
    refine wpS_put rfl rfl rfl (yv_fieldAddr fo_30_5 rfl) ?_
    refine wpS_put rfl rfl rfl (yv_load_box sc_3 rfl (RW.here _) hS hs0 trivial sg12_1) ?_
    refine wpS_quick 1 rfl ?_
    refine wpS_nil ?_
    refine QH_seq_k hK26 ?_
    refine wpC_ret ?_
    refine QH_then_ret ?_
    refine QH_jmp_ret ?_
    refine QH_ret rfl (RV.tmp rfl RV.nil) rfl ?_
    obtain rfl := Option.some.inj H
    replace hS := hS.cut 0
    exact ⟨rfl, hS⟩
  replace H := cond_f H hb
  refine wpS_put rfl rfl rfl (yv_load_boxA ag_30 rfl (RW.here _) hS hs0 trivial sg0_22) ?_
  obtain ⟨r27, hm28, H⟩ := bind_some H
  refine wpS_call rfl rfl rfl rfl (by kernel_rfl) rfl (c_msg_Right x0 A0_ c0_ A1_ c1_ A2_ c2_ A3_ c3_ A4_ c4_ _ (SlI.of_rd s0_.k (hS.rd0 s0_.rd) (hS.blk0 s0_.blk)) (SlI.of_rd s1_.k (hS.rd0 s1_.rd) (hS.blk0 s1_.blk)) (SlI.of_rd s2_.k (hS.rd0 s2_.rd) (hS.blk0 s2_.blk)) (SlI.of_rd s3_.k (hS.rd0 s3_.rd) (hS.blk0 s3_.blk)) (SlI.of_rd s4_.k (hS.rd0 s4_.rd) (hS.blk0 s4_.blk)) hm28) ?_
  rintro e w ⟨rfl, hN⟩; refine ⟨_, rfl, ?_⟩; have hB := hN.pure; have hS := hS.join hN; clear hN
  refine wpS_put rfl rfl rfl (yv_not rfl) ?_
  refine wpS_quick 1 rfl ?_
  refine wpS_nil ?_
  refine QH_seq_k hK25 ?_
  refine wpC_cond rfl (fun hb => ?_) (fun hb => ?_)
  · replace H := cond_t H hb
    refine wpC_seq_k (fun K hK29 => ?_)
    refine wpC_region ?_
    refine wpS_put rfl rfl rfl (yv_fieldAddr fo_30_5 rfl) ?_
    refine wpS_put rfl rfl rfl (yv_load_box sc_3 rfl (RW.here _) hS hs0 trivial sg12_1) ?_
    refine wpS_quick 1 rfl ?_
    refine wpS_nil ?_
    refine QH_seq_k hK29 ?_
    refine wpC_ret ?_
    refine QH_then_ret ?_
    refine QH_jmp_ret ?_
    refine QH_ret rfl (RV.tmp rfl RV.nil) rfl ?_
    obtain rfl := Option.some.inj H
    replace hS := hS.cut 0
    exact ⟨rfl, hS⟩
  replace H := cond_f H hb
  refine wpC_skip ?_
  refine QH_seq_k hK24 ?_
  refine wpC_seq_k (fun K hK30 => ?_)
  refine wpC_label ?_
  refine QH_seq_k hK30 ?_
  refine wpC_seq_k (fun K hK31 => ?_)
  refine wpC_seq_k (fun K hK32 => ?_)
  refine wpC_region ?_
  refine wpS_quick 1 rfl ?_
  refine wpS_put rfl rfl rfl (yv_fieldAddr fo_30_5 rfl) ?_
  refine wpS_put rfl rfl rfl (yv_load_box sc_3 rfl (RW.here _) hS hs0 trivial sg12_1) ?_
  refine wpS_put rfl rfl rfl (yv_leq rfl rfl) ?_
  refine wpS_nil ?_
  refine QH_seq_k hK32 ?_
  refine wpC_cond rfl (fun hb => ?_) (fun hb => ?_)
  · replace H := cond_t H hb
    refine wpC_seq_k (fun K hK33 => ?_)
    refine wpC_region ?_
    refine wpS_put rfl rfl rfl (yv_fieldAddr fo_30_5 rfl) ?_
    refine wpS_put rfl rfl rfl (yv_load_box sc_3 rfl (RW.here _) hS hs0 trivial sg12_1) ?_
    refine wpS_quick 1 rfl ?_
    refine wpS_nil ?_
    refine QH_seq_k hK33 ?_
    refine wpC_ret ?_
    refine QH_then_ret ?_
    refine QH_jmp_ret ?_
    refine QH_ret rfl (RV.tmp rfl RV.nil) rfl ?_
    obtain rfl := Option.some.inj H
    replace hS := hS.cut 0
    exact ⟨rfl, hS⟩
  replace H := cond_f H hb
  refine wpC_skip ?_
  refine QH_seq_k hK31 ?_
  refine wpC_seq_k (fun K hK34 => ?_)
  refine wpC_seq_k (fun K hK35 => ?_)
  refine wpC_region ?_
  refine wpS_put rfl rfl rfl (yv_fieldAddr fo_30_4 rfl) ?_
  refine wpS_put rfl rfl rfl (yv_load_boxA ag_26 rfl (RW.here _) hS hs0 trivial sg4_8) ?_
  refine wpS_quick 1 rfl ?_
  obtain ⟨r36, hm37, H⟩ := bind_some H
  refine wpS_call rfl rfl rfl rfl (by kernel_rfl) rfl (c_tuple_TermAt x0.tuple r22 A0_ c0_ _ (SlI.of_rd s0_.k (hS.rd0 s0_.rd) (hS.blk0 s0_.blk)) hm37) ?_
  rintro e w ⟨rfl, hN⟩; refine ⟨_, rfl, ?_⟩; have hB := hN.pure; have hS := hS.join hN; clear hN
  refine wpS_quick 1 rfl ?_
  refine wpS_put rfl rfl rfl (yv_extract rfl rfl) ?_
  refine wpS_put rfl rfl rfl (yv_extract rfl rfl) ?_
  refine wpS_quick 2 rfl ?_
  refine wpS_nil ?_
  refine QH_seq_k hK35 ?_
  refine wpC_seq_k (fun K hK38 => ?_)
  refine wpC_draw 17 [] (fun _ _ => True) ⟨by kernel_rfl, by kernel_rfl⟩ hS (fun w hS hB => ?_)
  refine wpR_batch [true, true] (by decide +kernel) (by repeat (first | exact PF.body | exact PF.round | apply PF.then | apply PF.inBlock | apply PF.jump)) ?_
  refine LtK.put rfl rfl rfl (yv_move rfl) ?_
  refine LtK.put rfl rfl rfl (yv_move rfl) ?_
  refine LtK.nil ?_
  refine wpR_case 33 rfl (fun hb => ?_) (fun hb => ?_)
  rotate_left
  · replace H := cond_f H hb
    refine wpR_batch [false, false, true, true, true, true, true, true, true, true, true, false, false, true, true] (by decide +kernel) (by repeat (first | exact PF.body | exact PF.round | apply PF.then | apply PF.inBlock | apply PF.jump)) ?_
    refine LtK.skip rfl rfl rfl ?_
    refine LtK.skip rfl rfl rfl ?_
    refine LtK.skip rfl rfl rfl ?_
    refine LtK.skip rfl rfl rfl ?_
    refine LtK.skip rfl rfl rfl ?_
    refine LtK.put rfl rfl rfl (yv_pick_f rfl rfl rfl) ?_
    refine LtK.put rfl rfl rfl (yv_move rfl) ?_
    refine LtK.skip rfl rfl rfl ?_
    refine LtK.skip rfl rfl rfl ?_
    refine LtK.skip rfl rfl rfl ?_
    refine LtK.skip rfl rfl rfl ?_
    refine LtK.nil ?_
    refine wpR_call [false, false, false, false, false, false, false, false, false, false, false, true] 11 ⟨by decide, by kernel_rfl, by kernel_rfl⟩ rfl rfl ?_
    dsimp only [pickL]
    refine wpS_skip rfl rfl rfl ?_
    refine wpS_nil ?_
    refine QH_step (Below.refl _ _) ?_
    refine wpR_batch [false, false, false, false, false, false, false, false, false, false, false, false, true, false, false, true, true] (by decide +kernel) (by repeat (first | exact PF.body | exact PF.round | apply PF.then | apply PF.inBlock | apply PF.jump)) ?_
    refine LtK.skip rfl rfl rfl ?_
    refine LtK.skip rfl rfl rfl ?_
    refine LtK.put rfl rfl rfl (yv_pick_f rfl rfl rfl) ?_
    refine LtK.nil ?_
    refine wpR_end (by kernel_rfl) ?_
    refine QH_seq_k hK38 ?_
    refine wpC_cond_f rfl rfl ?_
    refine wpC_skip ?_
    refine QH_seq_k hK34 ?_
    refine wpC_seq_k (fun K hK44 => ?_)
    refine wpC_region ?_
    refine wpS_quick 1 rfl ?_
    refine wpS_put rfl rfl rfl (yx_sub rfl rfl) ?_
    refine wpS_quick 1 rfl ?_
    refine wpS_nil ?_
    refine QH_seq_k hK44 ?_
    refine wpC_goto ?_
    exact QH_jump0 (fuelN, 0, (IntKind.wrap .i64 (r22 - 1))) (by repeat (first | exact Sub.nil | refine Sub.cons rfl ?_)) ⟨hS, H⟩
  replace H := cond_t H hb
  refine wpR_batch [false, false, true, true, true, true, true, true, true] (by decide +kernel) (by repeat (first | exact PF.body | exact PF.round | apply PF.then | apply PF.inBlock | apply PF.jump)) ?_
  refine LtK.put rfl rfl rfl (yv_move rfl) ?_
  refine LtK.put rfl rfl rfl (yv_fieldAddr fo_30_4 rfl) ?_
  refine LtK.put rfl rfl rfl (yv_fieldAddr fo_26_2 rfl) ?_
  refine LtK.put rfl rfl rfl (yv_load_box sc_3 rfl (RW.below _) hS hs0 trivial sg10_1) ?_
  refine LtK.put rfl rfl rfl (yv_eql rfl rfl) ?_
  refine LtK.put rfl rfl rfl (yv_pick_t rfl rfl rfl) ?_
  refine LtK.put rfl rfl rfl (yv_move rfl) ?_
  refine LtK.nil ?_
  refine wpR_case 40 rfl (fun hb => ?_) (fun hb => ?_)
  rotate_left
  · replace H := cond_f H hb
    refine wpR_batch [false, false, false, false, false, false, false, false, false, true, true, false, false, true, true] (by decide +kernel) (by repeat (first | exact PF.body | exact PF.round | apply PF.then | apply PF.inBlock | apply PF.jump)) ?_
    refine LtK.skip rfl rfl rfl ?_
    refine LtK.skip rfl rfl rfl ?_
    refine LtK.skip rfl rfl rfl ?_
    refine LtK.skip rfl rfl rfl ?_
    refine LtK.nil ?_
    refine wpR_call [false, false, false, false, false, false, false, false, false, false, false, true] 11 ⟨by decide, by kernel_rfl, by kernel_rfl⟩ rfl rfl ?_
    dsimp only [pickL]
    refine wpS_skip rfl rfl rfl ?_
    refine wpS_nil ?_
    refine QH_step (Below.refl _ _) ?_
    refine wpR_batch [false, false, false, false, false, false, false, false, false, false, false, false, true, false, false, true, true] (by decide +kernel) (by repeat (first | exact PF.body | exact PF.round | apply PF.then | apply PF.inBlock | apply PF.jump)) ?_
    refine LtK.skip rfl rfl rfl ?_
    refine LtK.skip rfl rfl rfl ?_
    refine LtK.put rfl rfl rfl (yv_pick_f rfl rfl rfl) ?_
    refine LtK.nil ?_
    refine wpR_end (by kernel_rfl) ?_
    refine QH_seq_k hK38 ?_
    refine wpC_cond_f rfl rfl ?_
    refine wpC_skip ?_
    refine QH_seq_k hK34 ?_
    refine wpC_seq_k (fun K hK43 => ?_)
    refine wpC_region ?_
    refine wpS_quick 1 rfl ?_
    refine wpS_put rfl rfl rfl (yx_sub rfl rfl) ?_
    refine wpS_quick 1 rfl ?_
    refine wpS_nil ?_
    refine QH_seq_k hK43 ?_
    refine wpC_goto ?_
    exact QH_jump0 (fuelN, 0, (IntKind.wrap .i64 (r22 - 1))) (by repeat (first | exact Sub.nil | refine Sub.cons rfl ?_)) ⟨hS, H⟩
  replace H := cond_t H hb
  refine wpR_batch [false, false, false, false, false, false, false, false, false, true, true, false, false, true, true] (by decide +kernel) (by repeat (first | exact PF.body | exact PF.round | apply PF.then | apply PF.inBlock | apply PF.jump)) ?_
  refine LtK.put rfl rfl rfl (yv_load_boxA ag_30 rfl (RW.below _) hS hs0 trivial sg0_22) ?_
  refine LtK.put rfl rfl rfl (yv_move rfl) ?_
  refine LtK.put rfl rfl rfl (yv_fieldAddr fo_30_1 rfl) ?_
  refine LtK.put rfl rfl rfl (yv_load_box sc_3 rfl (RW.below _) hS hs0 trivial sg1_1) ?_
  refine LtK.nil ?_
  refine wpR_call [false, false, false, false, false, false, false, false, false, false, false, true] 11 ⟨by decide, by kernel_rfl, by kernel_rfl⟩ rfl rfl ?_
  dsimp only [pickL]
  obtain ⟨r39, hm40, H⟩ := bind_some H
  refine wpS_call rfl rfl rfl rfl (by kernel_rfl) rfl (c_commit_Had x0 r22 A0_ c0_ A1_ c1_ A2_ c2_ A3_ c3_ A4_ c4_ _ (SlI.of_rd s0_.k (hS.rd0 s0_.rd) (hS.blk0 s0_.blk)) (SlI.of_rd s1_.k (hS.rd0 s1_.rd) (hS.blk0 s1_.blk)) (SlI.of_rd s2_.k (hS.rd0 s2_.rd) (hS.blk0 s2_.blk)) (SlI.of_rd s3_.k (hS.rd0 s3_.rd) (hS.blk0 s3_.blk)) (SlI.of_rd s4_.k (hS.rd0 s4_.rd) (hS.blk0 s4_.blk)) hm40) ?_
  rintro e w ⟨rfl, hN⟩; refine ⟨_, rfl, ?_⟩; have hB := hN.pure; have hS := hS.join hN; clear hN
  refine wpS_nil ?_
  refine QH_step hB ?_
  refine wpR_batch [false, false, false, false, false, false, false, false, false, false, false, false, true, false, false, true, true] (by decide +kernel) (by repeat (first | exact PF.body | exact PF.round | apply PF.then | apply PF.inBlock | apply PF.jump)) ?_
  refine LtK.put rfl rfl rfl (yx_mul rfl rfl) ?_
  refine LtK.put rfl rfl rfl (yv_gtr rfl rfl) ?_
  refine LtK.put rfl rfl rfl (yv_pick_t rfl rfl rfl) ?_
  refine LtK.nil ?_
  refine wpR_end (by kernel_rfl) ?_
  refine QH_seq_k hK38 ?_
  refine wpC_cond rfl (fun hb => ?_) (fun hb => ?_)
  rotate_left
  · replace H := cond_f H hb
    refine wpC_skip ?_
    refine QH_seq_k hK34 ?_
    refine wpC_seq_k (fun K hK42 => ?_)
    refine wpC_region ?_
    refine wpS_quick 1 rfl ?_
    refine wpS_put rfl rfl rfl (yx_sub rfl rfl) ?_
    refine wpS_quick 1 rfl ?_
    refine wpS_nil ?_
    refine QH_seq_k hK42 ?_
    refine wpC_goto ?_
    exact QH_jump0 (fuelN, 0, (IntKind.wrap .i64 (r22 - 1))) (by repeat (first | exact Sub.nil | refine Sub.cons rfl ?_)) ⟨hS, H⟩
  replace H := cond_t H hb
  refine wpC_seq_k (fun K hK41 => ?_)
  refine wpC_region ?_
  refine wpS_quick 2 rfl ?_
  refine wpS_nil ?_
  refine QH_seq_k hK41 ?_
  refine wpC_ret ?_
  refine QH_then_ret ?_
  refine QH_jmp_ret ?_
  refine QH_ret rfl (RV.tmp rfl RV.nil) rfl ?_
  obtain rfl := Option.some.inj H
  replace hS := hS.cut 0
  exact ⟨rfl, hS⟩
theorem c_commit_To (x0 : Co) (x1 : Int) (A0_ : Option Addr) (c0_ : Nat) (A1_ : Option Addr) (c1_ : Nat) (A2_ : Option Addr) (c2_ : Nat) (A3_ : Option Addr) (c3_ : Nat) (A4_ : Option Addr) (c4_ : Nat) (w0 : World) (s0_ : SlI w0 enE A0_ c0_ x0.tuple.log) (s1_ : SlI w0 enO A1_ c1_ x0.votes) (s2_ : SlI w0 enI A2_ c2_ x0.next) (s3_ : SlI w0 enI A3_ c3_ x0.mtch) (s4_ : SlI w0 enI A4_ c4_ x0.caps) {r : Co} (H : m_commit_To x0 x1 = some r) : Calls Tryz.prog 11 #[.agg #[.int .i64 x0.id, .int .i64 x0.n, .int .u8 x0.role, .int .i64 x0.binary, .int .i64 x0.tuple.snap.index, .int .i64 x0.tuple.snap.term, .int .i64 x0.tuple.snap.sum, .int .i64 x0.tuple.snap.level, .bool x0.tuple.snap.final, .slice A0_ x0.tuple.log.length c0_, .int .i64 x0.tuple.term, .int .i64 x0.tuple.vote, .int .i64 x0.commit, .int .i64 x0.applied.index, .int .i64 x0.applied.term, .int .i64 x0.applied.sum, .int .i64 x0.applied.level, .bool x0.applied.final, .slice A1_ x0.votes.length c1_, .slice A2_ x0.next.length c2_, .slice A3_ x0.mtch.length c3_, .slice A4_ x0.caps.length c4_], .int .i64 x1] w0 fun e w' => ∃ (A0 : Option Addr) (c0 : Nat) (A1 : Option Addr) (c1 : Nat) (A2 : Option Addr) (c2 : Nat) (A3 : Option Addr) (c3 : Nat) (A4 : Option Addr) (c4 : Nat), e = .returned (.agg #[.int .i64 r.id, .int .i64 r.n, .int .u8 r.role, .int .i64 r.binary, .int .i64 r.tuple.snap.index, .int .i64 r.tuple.snap.term, .int .i64 r.tuple.snap.sum, .int .i64 r.tuple.snap.level, .bool r.tuple.snap.final, .slice A0 r.tuple.log.length c0, .int .i64 r.tuple.term, .int .i64 r.tuple.vote, .int .i64 r.commit, .int .i64 r.applied.index, .int .i64 r.applied.term, .int .i64 r.applied.sum, .int .i64 r.applied.level, .bool r.applied.final, .slice A1 r.votes.length c1, .slice A2 r.next.length c2, .slice A3 r.mtch.length c3, .slice A4 r.caps.length c4]) ∧ (r.tuple.log.length ≤ c0 ∧ c0 ≤ maxLen) ∧ (r.votes.length ≤ c1 ∧ c1 ≤ maxLen) ∧ (r.next.length ≤ c2 ∧ c2 ≤ maxLen) ∧ (r.mtch.length ≤ c3 ∧ c3 ≤ maxLen) ∧ (r.caps.length ≤ c4 ∧ c4 ≤ maxLen) ∧ St0 All w0 w' [.row (.slice A0 r.tuple.log.length c0) 41 3 r.tuple.log.length (encs enE r.tuple.log), .row (.slice A1 r.votes.length c1) 4 1 r.votes.length (encs enO r.votes), .row (.slice A2 r.next.length c2) 3 1 r.next.length (encs enI r.next), .row (.slice A3 r.mtch.length c3) 3 1 r.mtch.length (encs enI r.mtch), .row (.slice A4 r.caps.length c4) 3 1 r.caps.length (encs enI r.caps)] := by
  unfold m_commit_To at H
  refine gw_enter2 Tryz.func11 rfl Tryz.ntmps11 rfl ?_
  have hS := St0.start All w0
  refine wpC_seq_k (fun K hK1 => ?_)
  refine wpC_region ?_
  refine wpS_box rfl rfl rfl CellsOf.agg hS (fun b2 w hS hB => ?_)
  refine wpS_alloc rfl rfl zc_30 hS (fun b4 w hS hB => ?_)
  refine wpS_nil ?_
  refine QH_seq_k hK1 ?_
  refine wpC_seq_k (fun K hK6 => ?_)
  refine wpC_region ?_
  refine wpS_put rfl rfl rfl (yv_load_boxA ag_30 rfl (RW.here _) hS hs1 trivial sg0_22) ?_
  obtain ⟨r7, hm8, H⟩ := bind_some H
  refine wpS_call rfl rfl rfl rfl (by kernel_rfl) rfl (c_msg_Own x0 A0_ c0_ A1_ c1_ A2_ c2_ A3_ c3_ A4_ c4_ _ (SlI.of_rd s0_.k (hS.rd0 s0_.rd) (hS.blk0 s0_.blk)) (SlI.of_rd s1_.k (hS.rd0 s1_.rd) (hS.blk0 s1_.blk)) (SlI.of_rd s2_.k (hS.rd0 s2_.rd) (hS.blk0 s2_.blk)) (SlI.of_rd s3_.k (hS.rd0 s3_.rd) (hS.blk0 s3_.blk)) (SlI.of_rd s4_.k (hS.rd0 s4_.rd) (hS.blk0 s4_.blk)) hm8) ?_
  rintro e w ⟨A9, c10, A13, c14, A17, c18, A21, c22, A25, c26, rfl, k11, k15, k19, k23, k27, hN⟩; refine ⟨_, rfl, ?_⟩; have hB := hN.pure; have hS := hS.join hN; clear hN
  refine wpS_store rfl rfl rfl CellsOf.agg hS ps6 st0_22 (by kernel_rfl) rfl (fun w hS hB => ?_)
  refine wpS_nil ?_
  refine QH_seq_k hK6 ?_
  refine wpC_seq_k (fun K hK29 => ?_)
  refine wpC_seq_k (fun K hK30 => ?_)
  refine wpC_region ?_
  refine wpS_quick 1 rfl ?_
  refine wpS_put rfl rfl rfl (yv_fieldAddr fo_30_5 rfl) ?_
  refine wpS_put rfl rfl rfl (yv_load_box sc_3 rfl (RW.here _) hS hs6 trivial sg12_1) ?_
  refine wpS_put rfl rfl rfl (yv_gtr rfl rfl) ?_
  refine wpS_quick 1 rfl ?_
  refine wpS_case 11 rfl (fun hb => ?_) (fun hb => ?_)
  rotate_left
  · replace H := cond_f H hb
    refine wpS_quick 3 rfl ?_
    refine wpS_nil ?_
    refine QH_seq_k hK30 ?_
    refine wpC_cond_f rfl rfl ?_
    refine wpC_skip ?_
    refine QH_seq_k hK29 ?_
    refine wpC_seq_k (fun K hK40 => ?_)
    refine wpC_region ?_
    refine wpS_put rfl rfl rfl (yv_load_boxA ag_30 rfl (RW.here _) hS hs6 trivial sg0_22) ?_
    refine wpS_store rfl rfl rfl CellsOf.agg hS ps5 st0_22 (by kernel_rfl) rfl (fun w hS hB => ?_)
    refine wpS_nil ?_
    refine QH_seq_k hK40 ?_
    refine wpC_ret ?_
    refine QH_ret rfl (RV.cell rfl (load_boxA ag_30 hS hs5 sg0_22) RV.nil) rfl ?_
    obtain rfl := Option.some.inj H
    have hS := hS.front 4 rfl
    have hS := hS.front 4 rfl
    have hS := hS.front 4 rfl
    have hS := hS.front 4 rfl
    have hS := hS.front 4 rfl
    replace hS := hS.cut 5
    exact ⟨A9, c10, A13, c14, A17, c18, A21, c22, A25, c26, rfl, k11, k15, k19, k23, k27, hS⟩
  replace H := cond_t H hb
  refine wpS_put rfl rfl rfl (yv_load_boxA ag_30 rfl (RW.here _) hS hs6 trivial sg0_22) ?_
  obtain ⟨r31, hm32, H⟩ := bind_some H
  refine wpS_call rfl rfl rfl rfl (by kernel_rfl) rfl (c_msg_Right r7 A9 c10 A13 c14 A17 c18 A21 c22 A25 c26 _ (SlI.of_rd k11 (hS.row_rd hs0) (hS.row_blk hs0)) (SlI.of_rd k15 (hS.row_rd hs1) (hS.row_blk hs1)) (SlI.of_rd k19 (hS.row_rd hs2) (hS.row_blk hs2)) (SlI.of_rd k23 (hS.row_rd hs3) (hS.row_blk hs3)) (SlI.of_rd k27 (hS.row_rd hs4) (hS.row_blk hs4)) hm32) ?_
  rintro e w ⟨rfl, hN⟩; refine ⟨_, rfl, ?_⟩; have hB := hN.pure; have hS := hS.join hN; clear hN
  refine wpS_quick 1 rfl ?_
  refine wpS_nil ?_
  refine QH_seq_k hK30 ?_
  refine wpC_cond rfl (fun hb => ?_) (fun hb => ?_)
  rotate_left
  · replace H := cond_f H hb
    refine wpC_skip ?_
    refine QH_seq_k hK29 ?_
    refine wpC_seq_k (fun K hK39 => ?_)
    refine wpC_region ?_
    refine wpS_put rfl rfl rfl (yv_load_boxA ag_30 rfl (RW.here _) hS hs6 trivial sg0_22) ?_
    refine wpS_store rfl rfl rfl CellsOf.agg hS ps5 st0_22 (by kernel_rfl) rfl (fun w hS hB => ?_)
    refine wpS_nil ?_
    refine QH_seq_k hK39 ?_
    refine wpC_ret ?_
    refine QH_ret rfl (RV.cell rfl (load_boxA ag_30 hS hs5 sg0_22) RV.nil) rfl ?_
    obtain rfl := Option.some.inj H
    have hS := hS.front 4 rfl
    have hS := hS.front 4 rfl
    have hS := hS.front 4 rfl
    have hS := hS.front 4 rfl
    have hS := hS.front 4 rfl
    replace hS := hS.cut 5
    exact ⟨A9, c10, A13, c14, A17, c18, A21, c22, A25, c26, rfl, k11, k15, k19, k23, k27, hS⟩
  replace H := cond_t H hb
  refine wpC_seq_k (fun K hK33 => ?_)
  refine wpC_region ?_
  refine wpS_quick 1 rfl ?_
  refine wpS_put rfl rfl rfl (yv_fieldAddr fo_30_4 rfl) ?_
  refine wpS_put rfl rfl rfl (yv_load_boxA ag_26 rfl (RW.here _) hS hs6 trivial sg4_8) ?_
  obtain ⟨r34, hm35, H⟩ := bind_some H
  refine wpS_call rfl rfl rfl rfl (by kernel_rfl) rfl (c_tuple_Last r7.tuple A9 c10 _ (SlI.of_rd k11 (hS.row_rd hs0) (hS.row_blk hs0)) hm35) ?_
  rintro e w ⟨rfl, hN⟩; refine ⟨_, rfl, ?_⟩; have hB := hN.pure; have hS := hS.join hN; clear hN
  refine wpS_put rfl rfl rfl (yv_min rfl rfl) ?_
  refine wpS_put rfl rfl rfl (yv_fieldAddr fo_30_5 rfl) ?_
  refine wpS_store rfl rfl rfl CellsOf.int hS ps6 st12_1 (by kernel_rfl) rfl (fun w hS hB => ?_)
  refine wpS_nil ?_
  refine QH_seq_k hK33 ?_
  refine wpC_region ?_
  refine wpS_put rfl rfl rfl (yv_fieldAddr fo_30_4 rfl) ?_
  refine wpS_put rfl rfl rfl (yv_load_boxA ag_26 rfl (RW.here _) hS hs6 trivial sg4_8) ?_
  refine wpS_put rfl rfl rfl (yv_fieldAddr fo_30_5 rfl) ?_
  refine wpS_put rfl rfl rfl (yv_load_box sc_3 rfl (RW.here _) hS hs6 trivial sg12_1) ?_
  obtain ⟨r36, hm37, H⟩ := bind_some H
  refine wpS_call rfl rfl rfl rfl (by kernel_rfl) rfl (c_tuple_State r7.tuple (min x1 r34) A9 c10 _ (SlI.of_rd k11 (hS.row_rd hs0) (hS.row_blk hs0)) hm37) ?_
  rintro e w ⟨rfl, hN⟩; refine ⟨_, rfl, ?_⟩; have hB := hN.pure; have hS := hS.join hN; clear hN
  refine wpS_quick 1 rfl ?_
  refine wpS_put rfl rfl rfl (yv_extract rfl rfl) ?_
  refine wpS_put rfl rfl rfl (yv_extract rfl rfl) ?_
  refine wpS_put rfl rfl rfl (yv_fieldAddr fo_30_6 rfl) ?_
  refine wpS_store rfl rfl rfl CellsOf.agg hS ps6 st13_5 (by kernel_rfl) rfl (fun w hS hB => ?_)
  refine wpS_nil ?_
  refine QH_seq_k hK29 ?_
  refine wpC_seq_k (fun K hK38 => ?_)
  refine wpC_region ?_
  refine wpS_put rfl rfl rfl (yv_load_boxA ag_30 rfl (RW.here _) hS hs6 trivial sg0_22) ?_
  refine wpS_store rfl rfl rfl CellsOf.agg hS ps5 st0_22 (by kernel_rfl) rfl (fun w hS hB => ?_)
  refine wpS_nil ?_
  refine QH_seq_k hK38 ?_
  refine wpC_ret ?_
  refine QH_ret rfl (RV.cell rfl (load_boxA ag_30 hS hs5 sg0_22) RV.nil) rfl ?_
  obtain rfl := Option.some.inj H
  have hS := hS.front 4 rfl
  have hS := hS.front 4 rfl
  have hS := hS.front 4 rfl
  have hS := hS.front 4 rfl
  have hS := hS.front 4 rfl
  replace hS := hS.cut 5
  exact ⟨A9, c10, A13, c14, A17, c18, A21, c22, A25, c26, rfl, k11, k15, k19, k23, k27, hS⟩
theorem c_commit_Advance (x0 : Co) (A0_ : Option Addr) (c0_ : Nat) (A1_ : Option Addr) (c1_ : Nat) (A2_ : Option Addr) (c2_ : Nat) (A3_ : Option Addr) (c3_ : Nat) (A4_ : Option Addr) (c4_ : Nat) (w0 : World) (s0_ : SlI w0 enE A0_ c0_ x0.tuple.log) (s1_ : SlI w0 enO A1_ c1_ x0.votes) (s2_ : SlI w0 enI A2_ c2_ x0.next) (s3_ : SlI w0 enI A3_ c3_ x0.mtch) (s4_ : SlI w0 enI A4_ c4_ x0.caps) {r : Co} (H : m_commit_Advance x0 = some r) : Calls Tryz.prog 10 #[.agg #[.int .i64 x0.id, .int .i64 x0.n, .int .u8 x0.role, .int .i64 x0.binary, .int .i64 x0.tuple.snap.index, .int .i64 x0.tuple.snap.term, .int .i64 x0.tuple.snap.sum, .int .i64 x0.tuple.snap.level, .bool x0.tuple.snap.final, .slice A0_ x0.tuple.log.length c0_, .int .i64 x0.tuple.term, .int .i64 x0.tuple.vote, .int .i64 x0.commit, .int .i64 x0.applied.index, .int .i64 x0.applied.term, .int .i64 x0.applied.sum, .int .i64 x0.applied.level, .bool x0.applied.final, .slice A1_ x0.votes.length c1_, .slice A2_ x0.next.length c2_, .slice A3_ x0.mtch.length c3_, .slice A4_ x0.caps.length c4_]] w0 fun e w' => ∃ (A0 : Option Addr) (c0 : Nat) (A1 : Option Addr) (c1 : Nat) (A2 : Option Addr) (c2 : Nat) (A3 : Option Addr) (c3 : Nat) (A4 : Option Addr) (c4 : Nat), e = .returned (.agg #[.int .i64 r.id, .int .i64 r.n, .int .u8 r.role, .int .i64 r.binary, .int .i64 r.tuple.snap.index, .int .i64 r.tuple.snap.term, .int .i64 r.tuple.snap.sum, .int .i64 r.tuple.snap.level, .bool r.tuple.snap.final, .slice A0 r.tuple.log.length c0, .int .i64 r.tuple.term, .int .i64 r.tuple.vote, .int .i64 r.commit, .int .i64 r.applied.index, .int .i64 r.applied.term, .int .i64 r.applied.sum, .int .i64 r.applied.level, .bool r.applied.final, .slice A1 r.votes.length c1, .slice A2 r.next.length c2, .slice A3 r.mtch.length c3, .slice A4 r.caps.length c4]) ∧ (r.tuple.log.length ≤ c0 ∧ c0 ≤ maxLen) ∧ (r.votes.length ≤ c1 ∧ c1 ≤ maxLen) ∧ (r.next.length ≤ c2 ∧ c2 ≤ maxLen) ∧ (r.mtch.length ≤ c3 ∧ c3 ≤ maxLen) ∧ (r.caps.length ≤ c4 ∧ c4 ≤ maxLen) ∧ St0 All w0 w' [.row (.slice A0 r.tuple.log.length c0) 41 3 r.tuple.log.length (encs enE r.tuple.log), .row (.slice A1 r.votes.length c1) 4 1 r.votes.length (encs enO r.votes), .row (.slice A2 r.next.length c2) 3 1 r.next.length (encs enI r.next), .row (.slice A3 r.mtch.length c3) 3 1 r.mtch.length (encs enI r.mtch), .row (.slice A4 r.caps.length c4) 3 1 r.caps.length (encs enI r.caps)] := by
  unfold m_commit_Advance at H
  refine gw_enter1 Tryz.func10 rfl Tryz.ntmps10 rfl ?_
  have hS := St0.start All w0
  refine wpC_seq_k (fun K hK1 => ?_)
  refine wpC_region ?_
  refine wpS_box rfl rfl rfl CellsOf.agg hS (fun b2 w hS hB => ?_)
  refine wpS_alloc rfl rfl zc_30 hS (fun b4 w hS hB => ?_)
  refine wpS_nil ?_
  refine QH_seq_k hK1 ?_
  refine wpC_seq_k (fun K hK6 => ?_)
  refine wpC_draw 5 [4] (fun i b => (i = 4 → b ≠ b4)) ⟨by kernel_rfl, by kernel_rfl⟩ hS (fun w hS hB => ?_)
  refine wpR_batch [true, true] (by decide +kernel) (by repeat (first | exact PF.body | exact PF.round | apply PF.then | apply PF.inBlock | apply PF.jump)) ?_
  refine LtK.put rfl rfl rfl (yv_load_boxA ag_30 rfl (RW.below _) hS hs1 trivial sg0_22) ?_
  refine LtK.put rfl rfl rfl (yv_load_boxA ag_30 rfl (RW.below _) hS hs1 trivial sg0_22) ?_
  refine LtK.nil ?_
  refine wpR_call [false, false, true] 2 ⟨by decide, by kernel_rfl, by kernel_rfl⟩ rfl rfl ?_
  dsimp only [pickL]
  obtain ⟨r7, hm8, H⟩ := bind_some H
  refine wpS_call rfl rfl rfl rfl (by kernel_rfl) rfl (c_commit_May x0 A0_ c0_ A1_ c1_ A2_ c2_ A3_ c3_ A4_ c4_ _ (SlI.of_rd s0_.k (hS.rd0 s0_.rd) (hS.blk0 s0_.blk)) (SlI.of_rd s1_.k (hS.rd0 s1_.rd) (hS.blk0 s1_.blk)) (SlI.of_rd s2_.k (hS.rd0 s2_.rd) (hS.blk0 s2_.blk)) (SlI.of_rd s3_.k (hS.rd0 s3_.rd) (hS.blk0 s3_.blk)) (SlI.of_rd s4_.k (hS.rd0 s4_.rd) (hS.blk0 s4_.blk)) hm8) ?_
  rintro e w ⟨rfl, hN⟩; refine ⟨_, rfl, ?_⟩; have hB := hN.pure; have hS := hS.join hN; clear hN
  refine wpS_nil ?_
  refine QH_step hB ?_
  refine wpR_call [false, false, false, true] 3 ⟨by decide, by kernel_rfl, by kernel_rfl⟩ rfl rfl ?_
  dsimp only [pickL]
  obtain ⟨r9, hm10, H⟩ := bind_some H
  refine wpS_call rfl rfl rfl rfl (by kernel_rfl) rfl (c_commit_To x0 r7 A0_ c0_ A1_ c1_ A2_ c2_ A3_ c3_ A4_ c4_ _ (SlI.of_rd s0_.k (hS.rd0 s0_.rd) (hS.blk0 s0_.blk)) (SlI.of_rd s1_.k (hS.rd0 s1_.rd) (hS.blk0 s1_.blk)) (SlI.of_rd s2_.k (hS.rd0 s2_.rd) (hS.blk0 s2_.blk)) (SlI.of_rd s3_.k (hS.rd0 s3_.rd) (hS.blk0 s3_.blk)) (SlI.of_rd s4_.k (hS.rd0 s4_.rd) (hS.blk0 s4_.blk)) hm10) ?_
  rintro e w ⟨A11, c12, A15, c16, A19, c20, A23, c24, A27, c28, rfl, k13, k17, k21, k25, k29, hN⟩; refine ⟨_, rfl, ?_⟩; have hB := hN.pure; have hS := hS.join hN; clear hN
  refine wpS_nil ?_
  refine QH_step hB ?_
  refine wpR_seal [false, false, false, false, true] 4 ⟨by decide, by kernel_rfl, by kernel_rfl⟩ rfl rfl ?_
  dsimp only [pickL]
  refine wpS_store rfl rfl rfl CellsOf.agg hS ps5 st0_22 (by kernel_rfl) rfl (fun w hS hB => ?_)
  refine wpS_nil ?_
  refine QH_stepG (hB.sub (fun _ _ h => by simpa using h)) ?_
  refine wpR_end (by kernel_rfl) ?_
  refine QH_seq_k hK6 ?_
  refine wpC_ret ?_
  refine QH_ret rfl (RV.cell rfl (load_boxA ag_30 hS hs5 sg0_22) RV.nil) rfl ?_
  obtain rfl := Option.some.inj H
  have hS := hS.front 4 rfl
  have hS := hS.front 4 rfl
  have hS := hS.front 4 rfl
  have hS := hS.front 4 rfl
  have hS := hS.front 4 rfl
  replace hS := hS.cut 5
  exact ⟨A11, c12, A15, c16, A19, c20, A23, c24, A27, c28, rfl, k13, k17, k21, k25, k29, hS⟩
theorem c_commit_Client (x0 : Co) (x1 : Int) (x2 : Int) (A0_ : Option Addr) (c0_ : Nat) (A1_ : Option Addr) (c1_ : Nat) (A2_ : Option Addr) (c2_ : Nat) (A3_ : Option Addr) (c3_ : Nat) (A4_ : Option Addr) (c4_ : Nat) (w0 : World) (s0_ : SlI w0 enE A0_ c0_ x0.tuple.log) (s1_ : SlI w0 enO A1_ c1_ x0.votes) (s2_ : SlI w0 enI A2_ c2_ x0.next) (s3_ : SlI w0 enI A3_ c3_ x0.mtch) (s4_ : SlI w0 enI A4_ c4_ x0.caps) {r : Co × Int} (H : m_commit_Client x0 x1 x2 = some r) : Calls Tryz.prog 12 #[.agg #[.int .i64 x0.id, .int .i64 x0.n, .int .u8 x0.role, .int .i64 x0.binary, .int .i64 x0.tuple.snap.index, .int .i64 x0.tuple.snap.term, .int .i64 x0.tuple.snap.sum, .int .i64 x0.tuple.snap.level, .bool x0.tuple.snap.final, .slice A0_ x0.tuple.log.length c0_, .int .i64 x0.tuple.term, .int .i64 x0.tuple.vote, .int .i64 x0.commit, .int .i64 x0.applied.index, .int .i64 x0.applied.term, .int .i64 x0.applied.sum, .int .i64 x0.applied.level, .bool x0.applied.final, .slice A1_ x0.votes.length c1_, .slice A2_ x0.next.length c2_, .slice A3_ x0.mtch.length c3_, .slice A4_ x0.caps.length c4_], .int .i64 x1, .int .i64 x2] w0 fun e w' => ∃ (A0 : Option Addr) (c0 : Nat) (A1 : Option Addr) (c1 : Nat) (A2 : Option Addr) (c2 : Nat) (A3 : Option Addr) (c3 : Nat) (A4 : Option Addr) (c4 : Nat), e = .returned (.tuple #[.agg #[.int .i64 r.1.id, .int .i64 r.1.n, .int .u8 r.1.role, .int .i64 r.1.binary, .int .i64 r.1.tuple.snap.index, .int .i64 r.1.tuple.snap.term, .int .i64 r.1.tuple.snap.sum, .int .i64 r.1.tuple.snap.level, .bool r.1.tuple.snap.final, .slice A0 r.1.tuple.log.length c0, .int .i64 r.1.tuple.term, .int .i64 r.1.tuple.vote, .int .i64 r.1.commit, .int .i64 r.1.applied.index, .int .i64 r.1.applied.term, .int .i64 r.1.applied.sum, .int .i64 r.1.applied.level, .bool r.1.applied.final, .slice A1 r.1.votes.length c1, .slice A2 r.1.next.length c2, .slice A3 r.1.mtch.length c3, .slice A4 r.1.caps.length c4], .int .i64 r.2]) ∧ (r.1.tuple.log.length ≤ c0 ∧ c0 ≤ maxLen) ∧ (r.1.votes.length ≤ c1 ∧ c1 ≤ maxLen) ∧ (r.1.next.length ≤ c2 ∧ c2 ≤ maxLen) ∧ (r.1.mtch.length ≤ c3 ∧ c3 ≤ maxLen) ∧ (r.1.caps.length ≤ c4 ∧ c4 ≤ maxLen) ∧ St0 All w0 w' [.row (.slice A0 r.1.tuple.log.length c0) 41 3 r.1.tuple.log.length (encs enE r.1.tuple.log), .row (.slice A1 r.1.votes.length c1) 4 1 r.1.votes.length (encs enO r.1.votes), .row (.slice A2 r.1.next.length c2) 3 1 r.1.next.length (encs enI r.1.next), .row (.slice A3 r.1.mtch.length c3) 3 1 r.1.mtch.length (encs enI r.1.mtch), .row (.slice A4 r.1.caps.length c4) 3 1 r.1.caps.length (encs enI r.1.caps)] := by
  unfold m_commit_Client at H
  refine gw_enter3 Tryz.func12 rfl Tryz.ntmps12 rfl ?_
  have hS := St0.start All w0
  refine wpC_seq_k (fun K hK1 => ?_)
  refine wpC_region ?_
  refine wpS_box rfl rfl rfl CellsOf.agg hS (fun b2 w hS hB => ?_)
  refine wpS_alloc rfl rfl zc_30 hS (fun b4 w hS hB => ?_)
  refine wpS_quick 1 rfl ?_
  refine wpS_nil ?_
  refine QH_seq_k hK1 ?_
  refine wpC_seq_k (fun K hK6 => ?_)
  refine wpC_region ?_
  refine wpS_put rfl rfl rfl (yv_load_boxA ag_30 rfl (RW.here _) hS hs1 trivial sg0_22) ?_
  obtain ⟨r7, hm8, H⟩ := bind_some H
  refine wpS_call rfl rfl rfl rfl (by kernel_rfl) rfl (c_msg_Own x0 A0_ c0_ A1_ c1_ A2_ c2_ A3_ c3_ A4_ c4_ _ (SlI.of_rd s0_.k (hS.rd0 s0_.rd) (hS.blk0 s0_.blk)) (SlI.of_rd s1_.k (hS.rd0 s1_.rd) (hS.blk0 s1_.blk)) (SlI.of_rd s2_.k (hS.rd0 s2_.rd) (hS.blk0 s2_.blk)) (SlI.of_rd s3_.k (hS.rd0 s3_.rd) (hS.blk0 s3_.blk)) (SlI.of_rd s4_.k (hS.rd0 s4_.rd) (hS.blk0 s4_.blk)) hm8) ?_
  rintro e w ⟨A9, c10, A13, c14, A17, c18, A21, c22, A25, c26, rfl, k11, k15, k19, k23, k27, hN⟩; refine ⟨_, rfl, ?_⟩; have hB := hN.pure; have hS := hS.join hN; clear hN
  refine wpS_store rfl rfl rfl CellsOf.agg hS ps6 st0_22 (by kernel_rfl) rfl (fun w hS hB => ?_)
  refine wpS_nil ?_
  refine QH_seq_k hK6 ?_
  refine wpC_seq_k (fun K hK29 => ?_)
  refine wpC_region ?_
  refine wpS_put rfl rfl rfl (yv_fieldAddr fo_30_4 rfl) ?_
  refine wpS_put rfl rfl rfl (yv_fieldAddr fo_26_2 rfl) ?_
  refine wpS_put rfl rfl rfl (yv_load_box sc_3 rfl (RW.here _) hS hs6 trivial sg10_1) ?_
  refine wpS_quick 2 rfl ?_
  refine wpS_put rfl rfl rfl (yv_build (cells := [.int .i64 r7.tuple.term, .int .i64 x1, .int .i64 x2]) rfl (by kernel_rfl)) ?_
  refine wpS_alloc rfl rfl zc_41 hS (fun b30 w hS hB => ?_)
  refine wpS_store rfl rfl rfl CellsOf.agg hS ps0 st0_3 (by kernel_rfl) rfl (fun w hS hB => ?_)
  refine wpS_nil ?_
  refine QH_seq_k hK29 ?_
  refine wpC_seq_k (fun K hK32 => ?_)
  refine wpC_seq_k (fun K hK33 => ?_)
  refine wpC_region ?_
  refine wpS_put rfl rfl rfl (yv_load_boxA ag_30 rfl (RW.here _) hS hs7 trivial sg0_22) ?_
  refine wpS_put rfl rfl rfl (yv_load_boxA ag_41 rfl (RW.here _) hS hs0 trivial sg0_3) ?_
  refine wpS_in rfl rfl rfl rfl (by kernel_rfl) rfl ?_
  show Calls _ _ #[_, _] _ _
  refine gw_enter2 Tryz.func35 rfl Tryz.ntmps35 rfl ?_
  refine wpC_seq_k (fun K hK34 => ?_)
  refine wpC_region ?_
  refine wpS_box rfl rfl rfl CellsOf.agg hS (fun b35 w hS hB => ?_)
  refine wpS_box rfl rfl rfl CellsOf.agg hS (fun b37 w hS hB => ?_)
  refine wpS_alloc rfl rfl zc_67 hS (fun b39 w hS hB => ?_)
  refine wpS_nil ?_
  refine QH_seq_k hK34 ?_
  refine wpC_seq_k (fun K hK41 => ?_)
  refine wpC_region ?_
  refine wpS_put rfl rfl rfl (yv_fieldAddr fo_41_1 rfl) ?_
  refine wpS_put rfl rfl rfl (yv_load_box sc_3 rfl (RW.here _) hS hs1 trivial sg1_1) ?_
  refine wpS_put rfl rfl rfl (yv_fieldAddr fo_30_6 rfl) ?_
  refine wpS_put rfl rfl rfl (yv_load_boxA ag_23 rfl (RW.here _) hS hs2 trivial sg13_5) ?_
  refine wpS_put rfl rfl rfl (yv_fieldAddr fo_30_10 rfl) ?_
  refine wpS_put rfl rfl rfl (yv_load_box sc_28 rfl (RW.here _) hS hs2 trivial sg21_1) ?_
  obtain ⟨r42, hm43, H⟩ := bind_some H
  refine wpS_call rfl rfl rfl rfl (by kernel_rfl) rfl (c_level_Check x1 r7.applied r7.caps A25 c26 _ (SlI.of_rd k27 (hS.row_rd hs8) (hS.row_blk hs8)) hm43) ?_
  rintro e w ⟨rfl, hN⟩; refine ⟨_, rfl, ?_⟩; have hB := hN.pure; have hS := hS.join hN; clear hN
  refine wpS_alloc rfl rfl zc_35 hS (fun b44 w hS hB => ?_)
  refine wpS_store rfl rfl rfl CellsOf.int hS ps0 st0_1 (by kernel_rfl) rfl (fun w hS hB => ?_)
  refine wpS_nil ?_
  refine QH_seq_k hK41 ?_
  refine wpC_seq_k (fun K hK46 => ?_)
  refine wpC_region ?_
  refine wpS_put rfl rfl rfl (yv_makeFunc rfl rfl) ?_
  refine wpS_put rfl rfl rfl (yv_build (cells := [.int .i64 2, .func (.func 68) #[] #[.pointer (some ⟨b37, 0, none⟩), .pointer (some ⟨b35, 0, none⟩)]]) rfl (by kernel_rfl)) ?_
  refine wpS_put rfl rfl rfl (yv_makeFunc rfl rfl) ?_
  refine wpS_put rfl rfl rfl (yv_build (cells := [.int .i64 220, .func (.func 70) #[] #[.pointer (some ⟨b35, 0, none⟩)]]) rfl (by kernel_rfl)) ?_
  refine wpS_put rfl rfl rfl (yv_load_box sc_35 rfl (RW.here _) hS hs0 trivial sg0_1) ?_
  refine wpS_put rfl rfl rfl (yv_makeFunc rfl rfl) ?_
  refine wpS_put rfl rfl rfl (yv_build (cells := [.int .i64 r42, .func (.func 71) #[] #[.pointer (some ⟨b44, 0, none⟩)]]) rfl (by kernel_rfl)) ?_
  refine wpS_put rfl rfl rfl (yv_build (cells := [.int .i64 2, .func (.func 68) #[] #[.pointer (some ⟨b37, 0, none⟩), .pointer (some ⟨b35, 0, none⟩)], .int .i64 220, .func (.func 70) #[] #[.pointer (some ⟨b35, 0, none⟩)], .int .i64 r42, .func (.func 71) #[] #[.pointer (some ⟨b44, 0, none⟩)]]) rfl (by kernel_rfl)) ?_
  refine wpS_store rfl rfl rfl CellsOf.agg hS ps1 st0_6 (by kernel_rfl) rfl (fun w hS hB => ?_)
  refine wpS_nil ?_
  refine QH_seq_k hK46 ?_
  refine wpC_ret ?_
  refine QH_ret rfl (RV.cell rfl (load_boxA ag_67 hS hs1 sg0_6) RV.nil) rfl ?_
  refine ⟨_, rfl, ?_⟩
  refine wpS_quick 1 rfl ?_
  refine wpS_nil ?_
  refine QH_seq_k hK33 ?_
  refine wpC_block ?_
  refine wpC_rounds 60 ?_
  refine wpC_seq_k (fun K hK47 => ?_)
  refine wpC_region ?_
  refine wpS_put rfl rfl rfl (yv_lss rfl rfl) ?_
  refine wpS_nil ?_
  refine QH_seq_k hK47 ?_
  refine wpC_seq_k (fun K hK48 => ?_)
  refine wpC_cond_t rfl rfl ?_
  refine wpC_skip ?_
  refine QH_seq_k hK48 ?_
  refine wpC_seq_k (fun K hK49 => ?_)
  refine wpC_block ?_
  refine wpC_seq_k (fun K hK50 => ?_)
  refine wpC_region ?_
  refine wpS_put rfl rfl rfl (yx_indexA (n := 3) (e := 66) (j := 0) (k := 2) (by kernel_rfl) ag_66 rfl rfl rfl (by decide) sg0_2) ?_
  refine wpS_alloc rfl rfl zc_66 hS (fun b51 w hS hB => ?_)
  refine wpS_store rfl rfl rfl CellsOf.agg hS ps0 st0_2 (by kernel_rfl) rfl (fun w hS hB => ?_)
  refine wpS_nil ?_
  refine QH_seq_k hK50 ?_
  refine wpC_seq_k (fun K hK53 => ?_)
  refine wpC_region ?_
  refine wpS_put rfl rfl rfl (yv_fieldAddr fo_66_1 rfl) ?_
  refine wpS_put rfl rfl rfl (yv_load_box sc_32 rfl (RW.here _) hS hs0 trivial sg1_1) ?_
  refine wpS_in rfl rfl rfl rfl (by kernel_rfl) rfl ?_
  show Calls _ _ #[_, _] _ _
  refine gw_enter2 Tryz.func68 rfl Tryz.ntmps68 rfl ?_
  refine wpC_seq_k (fun K hK54 => ?_)
  refine wpC_region ?_
  refine wpS_quick 1 rfl ?_
  refine wpS_nil ?_
  refine QH_seq_k hK54 ?_
  refine wpC_seq_k (fun K hK55 => ?_)
  refine wpC_region ?_
  refine wpS_put rfl rfl rfl (yv_load_boxA ag_41 rfl (RW.here _) hS hs3 trivial sg0_3) ?_
  obtain ⟨r56, hm57, H⟩ := bind_some H
  refine wpS_call rfl rfl rfl rfl (by kernel_rfl) rfl (c_entry_Right (⟨r7.tuple.term, x1, x2⟩ : En) _ hm57) ?_
  rintro e w ⟨rfl, hN⟩; refine ⟨_, rfl, ?_⟩; have hB := hN.pure; have hS := hS.join hN; clear hN
  refine wpS_put rfl rfl rfl (yv_not rfl) ?_
  refine wpS_quick 1 rfl ?_
  refine wpS_case 6 rfl (fun hb => ?_) (fun hb => ?_)
  · replace H := cond_t H hb
    refine wpS_quick 5 rfl ?_
    refine wpS_nil ?_
    refine QH_seq_k hK55 ?_
    refine wpC_ret ?_
    refine QH_ret rfl (RV.tmp rfl RV.nil) rfl ?_
    refine ⟨_, rfl, ?_⟩
    refine wpS_nil ?_
    refine QH_seq_k hK53 ?_
    refine wpC_cond_t rfl rfl ?_
    refine wpC_seq_k (fun K hK58 => ?_)
    refine wpC_draw 5 [3] (fun i b => (i = 3 → b ≠ b4)) ⟨by kernel_rfl, by kernel_rfl⟩ hS (fun w hS hB => ?_)
    refine wpR_batch [true] (by decide +kernel) (by repeat (first | exact PF.body | exact PF.round | apply PF.then | apply PF.inBlock | apply PF.jump)) ?_
    refine LtK.put rfl rfl rfl (yv_load_boxA ag_30 rfl (RW.below _) hS hs12 trivial sg0_22) ?_
    refine LtK.nil ?_
    refine wpR_batchG [false, true, true] [3] (fun b => b ≠ b4) (by decide +kernel) (by intro j hj b hb; simp only [List.mem_cons, List.not_mem_nil, or_false] at hj; (try rcases hj with rfl | rfl | rfl | rfl | rfl) <;> simp_all) (by repeat (first | exact PF.body | exact PF.round | apply PF.then | apply PF.inBlock | apply PF.jump)) ?_
    refine LtK.put rfl rfl rfl (yv_fieldAddr fo_66_0 rfl) ?_
    refine LtK.put rfl rfl rfl (yv_load_box sc_35 rfl (RW.keepB _ _) hS hs0 (hS.ne 0 11 rfl rfl rfl) sg0_1) ?_
    refine LtK.nil ?_
    refine wpR_seal [false, false, false, true] 3 ⟨by decide, by kernel_rfl, by kernel_rfl⟩ rfl rfl ?_
    dsimp only [pickL]
    refine wpS_store rfl rfl rfl CellsOf.agg hS ps11 st0_22 (by kernel_rfl) rfl (fun w hS hB => ?_)
    refine wpS_nil ?_
    refine QH_stepG (hB.sub (fun _ _ h => by simpa using h)) ?_
    refine wpR_batch [false, false, false, false, true] (by decide +kernel) (by repeat (first | exact PF.body | exact PF.round | apply PF.then | apply PF.inBlock | apply PF.jump)) ?_
    refine LtK.put rfl rfl rfl (yv_assign rfl) ?_
    refine LtK.nil ?_
    refine wpR_end (by kernel_rfl) ?_
    refine QH_seq_k hK58 ?_
    refine wpC_ret ?_
    refine QH_block_ret ?_
    refine QH_then_ret ?_
    refine QH_then_ret ?_
    refine QH_block_ret ?_
    refine QH_then_ret ?_
    refine QH_ret rfl (RV.cell rfl (load_boxA ag_30 hS hs11 sg0_22) (RV.tmp rfl RV.nil)) rfl ?_
    obtain rfl := Option.some.inj H
    have hS := hS.front 10 rfl
    have hS := hS.front 10 rfl
    have hS := hS.front 10 rfl
    have hS := hS.front 10 rfl
    have hS := hS.front 10 rfl
    replace hS := hS.cut 5
    exact ⟨A9, c10, A13, c14, A17, c18, A21, c22, A25, c26, rfl, k11, k15, k19, k23, k27, hS⟩
  replace H := cond_f H hb
  refine wpS_put rfl rfl rfl (yv_load_boxA ag_30 rfl (RW.here _) hS hs4 trivial sg0_22) ?_
  obtain ⟨r59, hm60, H⟩ := bind_some H
  refine wpS_call rfl rfl rfl rfl (by kernel_rfl) rfl (c_msg_Right r7 A9 c10 A13 c14 A17 c18 A21 c22 A25 c26 _ (SlI.of_rd k11 (hS.row_rd hs6) (hS.row_blk hs6)) (SlI.of_rd k15 (hS.row_rd hs7) (hS.row_blk hs7)) (SlI.of_rd k19 (hS.row_rd hs8) (hS.row_blk hs8)) (SlI.of_rd k23 (hS.row_rd hs9) (hS.row_blk hs9)) (SlI.of_rd k27 (hS.row_rd hs10) (hS.row_blk hs10)) hm60) ?_
  rintro e w ⟨rfl, hN⟩; refine ⟨_, rfl, ?_⟩; have hB := hN.pure; have hS := hS.join hN; clear hN
  refine wpS_put rfl rfl rfl (yv_not rfl) ?_
  refine wpS_quick 2 rfl ?_
  refine wpS_nil ?_
  refine QH_seq_k hK55 ?_
  refine wpC_ret ?_
  refine QH_ret rfl (RV.tmp rfl RV.nil) rfl ?_
  refine ⟨_, rfl, ?_⟩
  refine wpS_nil ?_
  refine QH_seq_k hK53 ?_
  refine wpC_cond rfl (fun hb => ?_) (fun hb => ?_)
  · replace H := cond_t H hb
    refine wpC_seq_k (fun K hK61 => ?_)
    refine wpC_draw 5 [3] (fun i b => (i = 3 → b ≠ b4)) ⟨by kernel_rfl, by kernel_rfl⟩ hS (fun w hS hB => ?_)
    refine wpR_batch [true] (by decide +kernel) (by repeat (first | exact PF.body | exact PF.round | apply PF.then | apply PF.inBlock | apply PF.jump)) ?_
    refine LtK.put rfl rfl rfl (yv_load_boxA ag_30 rfl (RW.below _) hS hs12 trivial sg0_22) ?_
    refine LtK.nil ?_
    refine wpR_batchG [false, true, true] [3] (fun b => b ≠ b4) (by decide +kernel) (by intro j hj b hb; simp only [List.mem_cons, List.not_mem_nil, or_false] at hj; (try rcases hj with rfl | rfl | rfl | rfl | rfl) <;> simp_all) (by repeat (first | exact PF.body | exact PF.round | apply PF.then | apply PF.inBlock | apply PF.jump)) ?_
    refine LtK.put rfl rfl rfl (yv_fieldAddr fo_66_0 rfl) ?_
    refine LtK.put rfl rfl rfl (yv_load_box sc_35 rfl (RW.keepB _ _) hS hs0 (hS.ne 0 11 rfl rfl rfl) sg0_1) ?_
    refine LtK.nil ?_
    refine wpR_seal [false, false, false, true] 3 ⟨by decide, by kernel_rfl, by kernel_rfl⟩ rfl rfl ?_
    dsimp only [pickL]
    refine wpS_store rfl rfl rfl CellsOf.agg hS ps11 st0_22 (by kernel_rfl) rfl (fun w hS hB => ?_)
    refine wpS_nil ?_
    refine QH_stepG (hB.sub (fun _ _ h => by simpa using h)) ?_
    refine wpR_batch [false, false, false, false, true] (by decide +kernel) (by repeat (first | exact PF.body | exact PF.round | apply PF.then | apply PF.inBlock | apply PF.jump)) ?_
    refine LtK.put rfl rfl rfl (yv_assign rfl) ?_
    refine LtK.nil ?_
    refine wpR_end (by kernel_rfl) ?_
    refine QH_seq_k hK61 ?_
    refine wpC_ret ?_
    refine QH_block_ret ?_
    refine QH_then_ret ?_
    refine QH_then_ret ?_
    refine QH_block_ret ?_
    refine QH_then_ret ?_
    refine QH_ret rfl (RV.cell rfl (load_boxA ag_30 hS hs11 sg0_22) (RV.tmp rfl RV.nil)) rfl ?_
    obtain rfl := Option.some.inj H
    have hS := hS.front 10 rfl
    have hS := hS.front 10 rfl
    have hS := hS.front 10 rfl
    have hS := hS.front 10 rfl
    have hS := hS.front 10 rfl
    replace hS := hS.cut 5
    exact ⟨A9, c10, A13, c14, A17, c18, A21, c22, A25, c26, rfl, k11, k15, k19, k23, k27, hS⟩
  replace H := cond_f H hb
  refine wpC_skip ?_
  refine QH_block_normal ?_
  refine QH_seq_k hK49 ?_
  refine wpC_region ?_
  refine wpS_put rfl rfl rfl (yx_add rfl rfl) ?_
  refine wpS_quick 1 rfl ?_
  refine wpS_nil ?_
  refine QH_more ?_
  refine wpC_seq_k (fun K hK62 => ?_)
  refine wpC_region ?_
  refine wpS_put rfl rfl rfl (yv_lss rfl rfl) ?_
  refine wpS_nil ?_
  refine QH_seq_k hK62 ?_
  refine wpC_seq_k (fun K hK63 => ?_)
  refine wpC_cond_t rfl rfl ?_
  refine wpC_skip ?_
  refine QH_seq_k hK63 ?_
  refine wpC_seq_k (fun K hK64 => ?_)
  refine wpC_block ?_
  refine wpC_seq_k (fun K hK65 => ?_)
  refine wpC_region ?_
  refine wpS_put rfl rfl rfl (yx_indexA (n := 3) (e := 66) (j := 1) (k := 2) (by kernel_rfl) ag_66 rfl rfl rfl (by decide) sg2_2) ?_
  refine wpS_alloc rfl rfl zc_66 hS (fun b66 w hS hB => ?_)
  refine wpS_store rfl rfl rfl CellsOf.agg hS ps0 st0_2 (by kernel_rfl) rfl (fun w hS hB => ?_)
  refine wpS_nil ?_
  refine QH_seq_k hK65 ?_
  refine wpC_seq_k (fun K hK68 => ?_)
  refine wpC_region ?_
  refine wpS_put rfl rfl rfl (yv_fieldAddr fo_66_1 rfl) ?_
  refine wpS_put rfl rfl rfl (yv_load_box sc_32 rfl (RW.here _) hS hs0 trivial sg1_1) ?_
  refine wpS_in rfl rfl rfl rfl (by kernel_rfl) rfl ?_
  show Calls _ _ #[_] _ _
  refine gw_enter1 Tryz.func70 rfl Tryz.ntmps70 rfl ?_
  refine wpC_seq_k (fun K hK69 => ?_)
  refine wpC_region ?_
  refine wpS_quick 1 rfl ?_
  refine wpS_nil ?_
  refine QH_seq_k hK69 ?_
  refine wpC_seq_k (fun K hK70 => ?_)
  refine wpC_region ?_
  refine wpS_put rfl rfl rfl (yv_fieldAddr fo_30_2 rfl) ?_
  refine wpS_put rfl rfl rfl (yv_load_box sc_5 rfl (RW.here _) hS hs5 trivial sg2_1) ?_
  refine wpS_put rfl rfl rfl (yv_neq rfl rfl) ?_
  refine wpS_quick 1 rfl ?_
  refine wpS_nil ?_
  refine QH_seq_k hK70 ?_
  refine wpC_ret ?_
  refine QH_ret rfl (RV.tmp rfl RV.nil) rfl ?_
  refine ⟨_, rfl, ?_⟩
  refine wpS_nil ?_
  refine QH_seq_k hK68 ?_
  refine wpC_cond rfl (fun hb => ?_) (fun hb => ?_)
  · replace H := cond_t H hb
    refine wpC_seq_k (fun K hK71 => ?_)
    refine wpC_draw 5 [3] (fun i b => (i = 3 → b ≠ b4)) ⟨by kernel_rfl, by kernel_rfl⟩ hS (fun w hS hB => ?_)
    refine wpR_batch [true] (by decide +kernel) (by repeat (first | exact PF.body | exact PF.round | apply PF.then | apply PF.inBlock | apply PF.jump)) ?_
    refine LtK.put rfl rfl rfl (yv_load_boxA ag_30 rfl (RW.below _) hS hs13 trivial sg0_22) ?_
    refine LtK.nil ?_
    refine wpR_batchG [false, true, true] [3] (fun b => b ≠ b4) (by decide +kernel) (by intro j hj b hb; simp only [List.mem_cons, List.not_mem_nil, or_false] at hj; (try rcases hj with rfl | rfl | rfl | rfl | rfl) <;> simp_all) (by repeat (first | exact PF.body | exact PF.round | apply PF.then | apply PF.inBlock | apply PF.jump)) ?_
    refine LtK.put rfl rfl rfl (yv_fieldAddr fo_66_0 rfl) ?_
    refine LtK.put rfl rfl rfl (yv_load_box sc_35 rfl (RW.keepB _ _) hS hs0 (hS.ne 0 12 rfl rfl rfl) sg0_1) ?_
    refine LtK.nil ?_
    refine wpR_seal [false, false, false, true] 3 ⟨by decide, by kernel_rfl, by kernel_rfl⟩ rfl rfl ?_
    dsimp only [pickL]
    refine wpS_store rfl rfl rfl CellsOf.agg hS ps12 st0_22 (by kernel_rfl) rfl (fun w hS hB => ?_)
    refine wpS_nil ?_
    refine QH_stepG (hB.sub (fun _ _ h => by simpa using h)) ?_
    refine wpR_batch [false, false, false, false, true] (by decide +kernel) (by repeat (first | exact PF.body | exact PF.round | apply PF.then | apply PF.inBlock | apply PF.jump)) ?_
    refine LtK.put rfl rfl rfl (yv_assign rfl) ?_
    refine LtK.nil ?_
    refine wpR_end (by kernel_rfl) ?_
    refine QH_seq_k hK71 ?_
    refine wpC_ret ?_
    refine QH_block_ret ?_
    refine QH_then_ret ?_
    refine QH_then_ret ?_
    refine QH_block_ret ?_
    refine QH_then_ret ?_
    refine QH_ret rfl (RV.cell rfl (load_boxA ag_30 hS hs12 sg0_22) (RV.tmp rfl RV.nil)) rfl ?_
    obtain rfl := Option.some.inj H
    have hS := hS.front 11 rfl
    have hS := hS.front 11 rfl
    have hS := hS.front 11 rfl
    have hS := hS.front 11 rfl
    have hS := hS.front 11 rfl
    replace hS := hS.cut 5
    exact ⟨A9, c10, A13, c14, A17, c18, A21, c22, A25, c26, rfl, k11, k15, k19, k23, k27, hS⟩
  replace H := cond_f H hb
  refine wpC_skip ?_
  refine QH_block_normal ?_
  refine QH_seq_k hK64 ?_
  refine wpC_region ?_
  refine wpS_put rfl rfl rfl (yx_add rfl rfl) ?_
  refine wpS_quick 1 rfl ?_
  refine wpS_nil ?_
  refine QH_more ?_
  refine wpC_seq_k (fun K hK72 => ?_)
  refine wpC_region ?_
  refine wpS_put rfl rfl rfl (yv_lss rfl rfl) ?_
  refine wpS_nil ?_
  refine QH_seq_k hK72 ?_
  refine wpC_seq_k (fun K hK73 => ?_)
  refine wpC_cond_t rfl rfl ?_
  refine wpC_skip ?_
  refine QH_seq_k hK73 ?_
  refine wpC_seq_k (fun K hK74 => ?_)
  refine wpC_block ?_
  refine wpC_seq_k (fun K hK75 => ?_)
  refine wpC_region ?_
  refine wpS_put rfl rfl rfl (yx_indexA (n := 3) (e := 66) (j := 2) (k := 2) (by kernel_rfl) ag_66 rfl rfl rfl (by decide) sg4_2) ?_
  refine wpS_alloc rfl rfl zc_66 hS (fun b76 w hS hB => ?_)
  refine wpS_store rfl rfl rfl CellsOf.agg hS ps0 st0_2 (by kernel_rfl) rfl (fun w hS hB => ?_)
  refine wpS_nil ?_
  refine QH_seq_k hK75 ?_
  refine wpC_seq_k (fun K hK78 => ?_)
  refine wpC_region ?_
  refine wpS_put rfl rfl rfl (yv_fieldAddr fo_66_1 rfl) ?_
  refine wpS_put rfl rfl rfl (yv_load_box sc_32 rfl (RW.here _) hS hs0 trivial sg1_1) ?_
  refine wpS_in rfl rfl rfl rfl (by kernel_rfl) rfl ?_
  show Calls _ _ #[_] _ _
  refine gw_enter1 Tryz.func71 rfl Tryz.ntmps71 rfl ?_
  refine wpC_seq_k (fun K hK79 => ?_)
  refine wpC_region ?_
  refine wpS_quick 1 rfl ?_
  refine wpS_nil ?_
  refine QH_seq_k hK79 ?_
  refine wpC_seq_k (fun K hK80 => ?_)
  refine wpC_region ?_
  refine wpS_put rfl rfl rfl (yv_load_box sc_35 rfl (RW.here _) hS hs3 trivial sg0_1) ?_
  refine wpS_put rfl rfl rfl (yv_neq rfl rfl) ?_
  refine wpS_quick 1 rfl ?_
  refine wpS_nil ?_
  refine QH_seq_k hK80 ?_
  refine wpC_ret ?_
  refine QH_ret rfl (RV.tmp rfl RV.nil) rfl ?_
  refine ⟨_, rfl, ?_⟩
  refine wpS_nil ?_
  refine QH_seq_k hK78 ?_
  refine wpC_cond rfl (fun hb => ?_) (fun hb => ?_)
  · replace H := cond_t H hb
    refine wpC_seq_k (fun K hK81 => ?_)
    refine wpC_draw 5 [3] (fun i b => (i = 3 → b ≠ b4)) ⟨by kernel_rfl, by kernel_rfl⟩ hS (fun w hS hB => ?_)
    refine wpR_batch [true] (by decide +kernel) (by repeat (first | exact PF.body | exact PF.round | apply PF.then | apply PF.inBlock | apply PF.jump)) ?_
    refine LtK.put rfl rfl rfl (yv_load_boxA ag_30 rfl (RW.below _) hS hs14 trivial sg0_22) ?_
    refine LtK.nil ?_
    refine wpR_batchG [false, true, true] [3] (fun b => b ≠ b4) (by decide +kernel) (by intro j hj b hb; simp only [List.mem_cons, List.not_mem_nil, or_false] at hj; (try rcases hj with rfl | rfl | rfl | rfl | rfl) <;> simp_all) (by repeat (first | exact PF.body | exact PF.round | apply PF.then | apply PF.inBlock | apply PF.jump)) ?_
    refine LtK.put rfl rfl rfl (yv_fieldAddr fo_66_0 rfl) ?_
    refine LtK.put rfl rfl rfl (yv_load_box sc_35 rfl (RW.keepB _ _) hS hs0 (hS.ne 0 13 rfl rfl rfl) sg0_1) ?_
    refine LtK.nil ?_
    refine wpR_seal [false, false, false, true] 3 ⟨by decide, by kernel_rfl, by kernel_rfl⟩ rfl rfl ?_
    dsimp only [pickL]
    refine wpS_store rfl rfl rfl CellsOf.agg hS ps13 st0_22 (by kernel_rfl) rfl (fun w hS hB => ?_)
    refine wpS_nil ?_
    refine QH_stepG (hB.sub (fun _ _ h => by simpa using h)) ?_
    refine wpR_batch [false, false, false, false, true] (by decide +kernel) (by repeat (first | exact PF.body | exact PF.round | apply PF.then | apply PF.inBlock | apply PF.jump)) ?_
    refine LtK.put rfl rfl rfl (yv_assign rfl) ?_
    refine LtK.nil ?_
    refine wpR_end (by kernel_rfl) ?_
    refine QH_seq_k hK81 ?_
    refine wpC_ret ?_
    refine QH_block_ret ?_
    refine QH_then_ret ?_
    refine QH_then_ret ?_
    refine QH_block_ret ?_
    refine QH_then_ret ?_
    refine QH_ret rfl (RV.cell rfl (load_boxA ag_30 hS hs13 sg0_22) (RV.tmp rfl RV.nil)) rfl ?_
    obtain rfl := Option.some.inj H
    have hS := hS.front 12 rfl
    have hS := hS.front 12 rfl
    have hS := hS.front 12 rfl
    have hS := hS.front 12 rfl
    have hS := hS.front 12 rfl
    replace hS := hS.cut 5
    exact ⟨A9, c10, A13, c14, A17, c18, A21, c22, A25, c26, rfl, k11, k15, k19, k23, k27, hS⟩
  replace H := cond_f H hb
  refine wpC_skip ?_
  refine QH_block_normal ?_
  refine QH_seq_k hK74 ?_
  refine wpC_region ?_
  refine wpS_put rfl rfl rfl (yx_add rfl rfl) ?_
  refine wpS_quick 1 rfl ?_
  refine wpS_nil ?_
  refine QH_more ?_
  refine wpC_seq_k (fun K hK82 => ?_)
  refine wpC_region ?_
  refine wpS_put rfl rfl rfl (yv_lss rfl rfl) ?_
  refine wpS_nil ?_
  refine QH_seq_k hK82 ?_
  refine wpC_seq_k (fun K hK83 => ?_)
  refine wpC_cond_f rfl rfl ?_
  refine wpC_exit ?_
  refine QH_then_exit ?_
  refine QH_then_exit ?_
  refine QH_block_hit ?_
  refine QH_seq_k hK32 ?_
  refine wpC_seq_k (fun K hK84 => ?_)
  refine wpC_region ?_
  refine wpS_put rfl rfl rfl (yv_fieldAddr fo_30_4 rfl) ?_
  refine wpS_put rfl rfl rfl (yv_load_boxA ag_26 rfl (RW.here _) hS hs14 trivial sg4_8) ?_
  refine wpS_put rfl rfl rfl (yv_load_boxA ag_41 rfl (RW.here _) hS hs7 trivial sg0_3) ?_
  refine wpS_sliceM (ps := [(0, .tmp 37)]) [.int .i64 r7.tuple.term, .int .i64 x1, .int .i64 x2] el_24 zc_41 rfl rfl rfl rfl rfl (by kernel_rfl) hS (fun b85 w hS hB => ?_)
  obtain ⟨r87, hm88, H⟩ := bind_some H
  refine wpS_call rfl rfl rfl rfl (by kernel_rfl) rfl (c_tuple_Append r7.tuple ([(⟨r7.tuple.term, x1, x2⟩ : En)] : List En) A9 c10 (some ⟨b85, 0, none⟩) 1 _ (SlI.of_rd k11 (hS.row_rd hs9) (hS.row_blk hs9)) (SlI.of_rd ⟨Nat.le_refl 1, by decide⟩ (hS.box_rd hs0) (hS.box_blk hs0)) hm88) ?_
  rintro e w ⟨A89, c90, rfl, k91, hN⟩; refine ⟨_, rfl, ?_⟩; have hB := hN.pure; have hS := hS.join hN; clear hN
  refine wpS_quick 1 rfl ?_
  refine wpS_put rfl rfl rfl (yv_extract rfl rfl) ?_
  refine wpS_put rfl rfl rfl (yv_extract rfl rfl) ?_
  refine wpS_alloc rfl rfl zc_26 hS (fun b93 w hS hB => ?_)
  refine wpS_store rfl rfl rfl CellsOf.agg hS ps0 st0_8 (by kernel_rfl) rfl (fun w hS hB => ?_)
  refine wpS_quick 1 rfl ?_
  refine wpS_nil ?_
  refine QH_seq_k hK84 ?_
  refine wpC_seq_k (fun K hK95 => ?_)
  refine wpC_seq_k (fun K hK96 => ?_)
  refine wpC_region ?_
  refine wpS_quick 1 rfl ?_
  refine wpS_put rfl rfl rfl (yv_neq rfl rfl) ?_
  refine wpS_nil ?_
  refine QH_seq_k hK96 ?_
  refine wpC_cond rfl (fun hb => ?_) (fun hb => ?_)
  · replace H := cond_t H hb
    refine wpC_seq_k (fun K hK97 => ?_)
    refine wpC_region ?_
    refine wpS_put rfl rfl rfl (yv_load_boxA ag_30 rfl (RW.here _) hS hs17 trivial sg0_22) ?_
    refine wpS_store rfl rfl rfl CellsOf.agg hS ps16 st0_22 (by kernel_rfl) rfl (fun w hS hB => ?_)
    refine wpS_quick 1 rfl ?_
    refine wpS_nil ?_
    refine QH_seq_k hK97 ?_
    refine wpC_ret ?_
    refine QH_then_ret ?_
    refine QH_ret rfl (RV.cell rfl (load_boxA ag_30 hS hs16 sg0_22) (RV.tmp rfl RV.nil)) rfl ?_
    obtain rfl := Option.some.inj H
    have hS := hS.front 15 rfl
    have hS := hS.front 15 rfl
    have hS := hS.front 15 rfl
    have hS := hS.front 15 rfl
    have hS := hS.front 15 rfl
    replace hS := hS.cut 5
    exact ⟨A9, c10, A13, c14, A17, c18, A21, c22, A25, c26, rfl, k11, k15, k19, k23, k27, hS⟩
  replace H := cond_f H hb
  refine wpC_skip ?_
  refine QH_seq_k hK95 ?_
  refine wpC_seq_k (fun K hK98 => ?_)
  refine wpC_draw 12 [9, 11] (fun i b => (i = 9 → b ≠ b2) ∧ (i = 11 → False)) ⟨by kernel_rfl, by kernel_rfl⟩ hS (fun w hS hB => ?_)
  refine wpR_batch [true, true, true, true, false, true, false, false, true] (by decide +kernel) (by repeat (first | exact PF.body | exact PF.round | apply PF.then | apply PF.inBlock | apply PF.jump)) ?_
  refine LtK.put rfl rfl rfl (yv_fieldAddr fo_30_9 rfl) ?_
  refine LtK.put rfl rfl rfl (yv_load_box sc_28 rfl (RW.below _) hS hs17 trivial sg20_1) ?_
  refine LtK.put rfl rfl rfl (yv_fieldAddr fo_30_0 rfl) ?_
  refine LtK.put rfl rfl rfl (yv_load_box sc_3 rfl (RW.below _) hS hs17 trivial sg0_1) ?_
  refine LtK.put rfl rfl rfl (yv_load_boxA ag_26 rfl (RW.below _) hS hs0 trivial sg0_8) ?_
  refine LtK.put rfl rfl rfl (yv_fieldAddr fo_30_4 rfl) ?_
  refine LtK.nil ?_
  refine wpR_batchG [false, false, false, false, true, false, true] [9] (fun b => b ≠ b2) (by decide +kernel) (by intro j hj b hb; simp only [List.mem_cons, List.not_mem_nil, or_false] at hj; (try rcases hj with rfl | rfl | rfl | rfl | rfl) <;> simp_all) (by repeat (first | exact PF.body | exact PF.round | apply PF.then | apply PF.inBlock | apply PF.jump)) ?_
  refine LtK.put rfl rfl rfl (yx_sub rfl rfl) ?_
  refine LtK.put rfl rfl rfl (yv_load_boxA ag_26 rfl (RW.keepB _ _) hS hs0 (hS.ne 0 17 rfl rfl rfl) sg0_8) ?_
  refine LtK.nil ?_
  refine wpR_call [false, false, false, false, false, false, false, true] 7 ⟨by decide, by kernel_rfl, by kernel_rfl⟩ rfl rfl ?_
  dsimp only [pickL]
  obtain ⟨r99, hm100, H⟩ := bind_some H
  refine wpS_call rfl rfl rfl rfl (by kernel_rfl) rfl (c_tuple_Last r87.1 A89 c90 _ (SlI.of_rd k91 (hS.rd hs1) (hS.rd_blk hs1)) hm100) ?_
  rintro e w ⟨rfl, hN⟩; refine ⟨_, rfl, ?_⟩; have hB := hN.pure; have hS := hS.join hN; clear hN
  refine wpS_nil ?_
  refine QH_step hB ?_
  refine wpR_seal [false, false, false, false, false, false, false, false, false, true] 9 ⟨by decide, by kernel_rfl, by kernel_rfl⟩ rfl rfl ?_
  dsimp only [pickL]
  refine wpS_store rfl rfl rfl CellsOf.agg hS ps17 st4_8 (by kernel_rfl) rfl (fun w hS hB => ?_)
  refine wpS_nil ?_
  refine QH_stepG (hB.sub (fun _ _ h => by simpa using h)) ?_
  refine wpR_batch [false, false, false, false, false, false, false, false, false, false, true] (by decide +kernel) (by repeat (first | exact PF.body | exact PF.round | apply PF.then | apply PF.inBlock | apply PF.jump)) ?_
  obtain ⟨e101, hi103, H⟩ := bind_some H
  obtain ⟨j102, hi103a, hi103b, hi103c⟩ := idx_some hi103
  refine LtK.put rfl rfl rfl (yx_idx el_28 rfl rfl hi103a hi103c (Rd.el (hS.row_rd hs14) he_enI hi103b)) ?_
  refine LtK.nil ?_
  refine wpR_seal [false, false, false, false, false, false, false, false, false, false, false, true] 11 ⟨by decide, by kernel_rfl, by kernel_rfl⟩ rfl rfl ?_
  dsimp only [pickL]
  refine wpX_storeR2 (a' := r99) (zs := (setI r7.mtch (IntKind.wrap .i64 (r7.id - 1)) r99)) he_enI rfl rfl rfl CellsOf.int hS ps14 (Rd.el (hS.row_rd hs14) he_enI hi103b) hi103a hi103b rfl st0_1 (by kernel_rfl) rfl (fun w hS hB => ?_)
  refine wpS_nil ?_
  refine QH_stepG (hB.sub (fun _ _ h => by simp at h)) ?_
  refine wpR_end (by kernel_rfl) ?_
  refine QH_seq_k hK98 ?_
  refine wpC_seq_k (fun K hK104 => ?_)
  refine wpC_region ?_
  refine wpS_put rfl rfl rfl (yv_load_boxA ag_30 rfl (RW.here _) hS hs17 trivial sg0_22) ?_
  obtain ⟨r105, hm106, H⟩ := bind_some H
  refine wpS_call rfl rfl rfl rfl (by kernel_rfl) (by rw [(setI_len rfl)]; rfl) (c_commit_Advance (⟨r7.id, r7.n, r7.role, r7.binary, r87.1, r7.commit, r7.applied, r7.votes, r7.next, (setI r7.mtch (IntKind.wrap .i64 (r7.id - 1)) r99), r7.caps⟩ : Co) A89 c90 A13 c14 A17 c18 A21 c22 A25 c26 _ (SlI.of_rd k91 (hS.rd hs1) (hS.rd_blk hs1)) (SlI.of_rd k15 (hS.row_rd hs12) (hS.row_blk hs12)) (SlI.of_rd k19 (hS.row_rd hs13) (hS.row_blk hs13)) (SlI.of_rd (k_set k23) (hS.row_rd hs14) (hS.row_blk hs14)) (SlI.of_rd k27 (hS.row_rd hs15) (hS.row_blk hs15)) hm106) ?_
  rintro e w ⟨A107, c108, A111, c112, A115, c116, A119, c120, A123, c124, rfl, k109, k113, k117, k121, k125, hN⟩; refine ⟨_, rfl, ?_⟩; have hB := hN.pure; have hS := hS.join hN; clear hN
  refine wpS_store rfl rfl rfl CellsOf.agg hS ps21 st0_22 (by kernel_rfl) rfl (fun w hS hB => ?_)
  refine wpS_quick 1 rfl ?_
  refine wpS_nil ?_
  refine QH_seq_k hK104 ?_
  refine wpC_ret ?_
  refine QH_ret rfl (RV.cell rfl (load_boxA ag_30 hS hs21 sg0_22) (RV.tmp rfl RV.nil)) rfl ?_
  obtain rfl := Option.some.inj H
  have hS := hS.front 4 rfl
  have hS := hS.front 4 rfl
  have hS := hS.front 4 rfl
  have hS := hS.front 4 rfl
  have hS := hS.front 4 rfl
  replace hS := hS.cut 5
  exact ⟨A107, c108, A111, c112, A115, c116, A119, c120, A123, c124, rfl, k109, k113, k117, k121, k125, hS⟩
theorem c_level_Stage (x0 : St) (w0 : World) {r : Int} (H : m_level_Stage x0 = some r) : Calls Tryz.prog 78 #[.agg #[.int .i64 x0.index, .int .i64 x0.term, .int .i64 x0.sum, .int .i64 x0.level, .bool x0.final]] w0 fun e w' => e = .returned (.int .i64 r) ∧ St0 All w0 w' [] := by
  unfold m_level_Stage at H
  refine gw_enter1 Tryz.func78 rfl Tryz.ntmps78 rfl ?_
  have hS := St0.start All w0
  refine wpC_seq_k (fun K hK1 => ?_)
  refine wpC_region ?_
  refine wpS_box rfl rfl rfl CellsOf.agg hS (fun b2 w hS hB => ?_)
  refine wpS_quick 1 rfl ?_
  refine wpS_nil ?_
  refine QH_seq_k hK1 ?_
  refine wpC_seq_k (fun K hK4 => ?_)
  refine wpC_block ?_
  refine wpC_seq_k (fun K hK5 => ?_)
  refine wpC_region ?_
  refine wpS_put rfl rfl rfl (yv_fieldAddr fo_23_3 rfl) ?_
  refine wpS_put rfl rfl rfl (yv_load_box sc_3 rfl (RW.here _) hS hs0 trivial sg3_1) ?_
  refine wpS_put rfl rfl rfl (yv_neq rfl rfl) ?_
  refine wpS_quick 1 rfl ?_
  refine wpS_nil ?_
  refine QH_seq_k hK5 ?_
  refine wpC_cond rfl (fun hb => ?_) (fun hb => ?_)
  · replace H := cond_t H hb
    refine wpC_seq_k (fun K hK6 => ?_)
    refine wpC_region ?_
    refine wpS_quick 1 rfl ?_
    refine wpS_nil ?_
    refine QH_seq_k hK6 ?_
    refine wpC_ret ?_
    refine QH_block_ret ?_
    refine QH_then_ret ?_
    refine QH_ret rfl (RV.tmp rfl RV.nil) rfl ?_
    obtain rfl := Option.some.inj H
    replace hS := hS.cut 0
    exact ⟨rfl, hS⟩
  replace H := cond_f H hb
  refine wpC_seq_k (fun K hK7 => ?_)
  refine wpC_region ?_
  refine wpS_put rfl rfl rfl (yv_fieldAddr fo_23_4 rfl) ?_
  refine wpS_put rfl rfl rfl (yv_load_box sc_4 rfl (RW.here _) hS hs0 trivial sg4_1) ?_
  refine wpS_quick 1 rfl ?_
  refine wpS_nil ?_
  refine QH_seq_k hK7 ?_
  refine wpC_cond rfl (fun hb => ?_) (fun hb => ?_)
  · replace H := cond_t H hb
    refine wpC_seq_k (fun K hK8 => ?_)
    refine wpC_region ?_
    refine wpS_quick 1 rfl ?_
    refine wpS_nil ?_
    refine QH_seq_k hK8 ?_
    refine wpC_ret ?_
    refine QH_block_ret ?_
    refine QH_then_ret ?_
    refine QH_ret rfl (RV.tmp rfl RV.nil) rfl ?_
    obtain rfl := Option.some.inj H
    replace hS := hS.cut 0
    exact ⟨rfl, hS⟩
  replace H := cond_f H hb
  refine wpC_skip ?_
  refine QH_block_normal ?_
  refine QH_seq_k hK4 ?_
  refine wpC_seq_k (fun K hK9 => ?_)
  refine wpC_region ?_
  refine wpS_quick 1 rfl ?_
  refine wpS_nil ?_
  refine QH_seq_k hK9 ?_
  refine wpC_ret ?_
  refine QH_ret rfl (RV.tmp rfl RV.nil) rfl ?_
  obtain rfl := Option.some.inj H
  replace hS := hS.cut 0
  exact ⟨rfl, hS⟩
theorem c_level_Format (x0 : St) (x1 : Int) (w0 : World) {r : Int} (H : m_level_Format x0 x1 = some r) : Calls Tryz.prog 48 #[.agg #[.int .i64 x0.index, .int .i64 x0.term, .int .i64 x0.sum, .int .i64 x0.level, .bool x0.final], .int .i64 x1] w0 fun e w' => e = .returned (.int .i64 r) ∧ St0 All w0 w' [] := by
  unfold m_level_Format at H
  refine gw_enter2 Tryz.func48 rfl Tryz.ntmps48 rfl ?_
  have hS := St0.start All w0
  refine wpC_seq_k (fun K hK1 => ?_)
  refine wpC_region ?_
  refine wpS_box rfl rfl rfl CellsOf.agg hS (fun b2 w hS hB => ?_)
  refine wpS_quick 1 rfl ?_
  refine wpS_nil ?_
  refine QH_seq_k hK1 ?_
  refine wpC_seq_k (fun K hK4 => ?_)
  refine wpC_region ?_
  refine wpS_quick 1 rfl ?_
  refine wpS_put rfl rfl rfl (yv_max rfl rfl) ?_
  refine wpS_put rfl rfl rfl (yv_load_boxA ag_23 rfl (RW.here _) hS hs0 trivial sg0_5) ?_
  obtain ⟨r5, hm6, H⟩ := bind_some H
  refine wpS_call rfl rfl rfl rfl (by kernel_rfl) rfl (c_level_Stage x0 _ hm6) ?_
  rintro e w ⟨rfl, hN⟩; refine ⟨_, rfl, ?_⟩; have hB := hN.pure; have hS := hS.join hN; clear hN
  refine wpS_put rfl rfl rfl (yx_add rfl rfl) ?_
  refine wpS_put rfl rfl rfl (yv_min rfl rfl) ?_
  refine wpS_put rfl rfl rfl (yv_min rfl rfl) ?_
  refine wpS_quick 1 rfl ?_
  refine wpS_nil ?_
  refine QH_seq_k hK4 ?_
  refine wpC_ret ?_
  refine QH_ret rfl (RV.tmp rfl RV.nil) rfl ?_
  obtain rfl := Option.some.inj H
  replace hS := hS.cut 0
  exact ⟨rfl, hS⟩
theorem c_commit_Format (x0 : Co) (A0_ : Option Addr) (c0_ : Nat) (A1_ : Option Addr) (c1_ : Nat) (A2_ : Option Addr) (c2_ : Nat) (A3_ : Option Addr) (c3_ : Nat) (A4_ : Option Addr) (c4_ : Nat) (w0 : World) (s0_ : SlI w0 enE A0_ c0_ x0.tuple.log) (s1_ : SlI w0 enO A1_ c1_ x0.votes) (s2_ : SlI w0 enI A2_ c2_ x0.next) (s3_ : SlI w0 enI A3_ c3_ x0.mtch) (s4_ : SlI w0 enI A4_ c4_ x0.caps) {r : Int} (H : m_commit_Format x0 = some r) : Calls Tryz.prog 24 #[.agg #[.int .i64 x0.id, .int .i64 x0.n, .int .u8 x0.role, .int .i64 x0.binary, .int .i64 x0.tuple.snap.index, .int .i64 x0.tuple.snap.term, .int .i64 x0.tuple.snap.sum, .int .i64 x0.tuple.snap.level, .bool x0.tuple.snap.final, .slice A0_ x0.tuple.log.length c0_, .int .i64 x0.tuple.term, .int .i64 x0.tuple.vote, .int .i64 x0.commit, .int .i64 x0.applied.index, .int .i64 x0.applied.term, .int .i64 x0.applied.sum, .int .i64 x0.applied.level, .bool x0.applied.final, .slice A1_ x0.votes.length c1_, .slice A2_ x0.next.length c2_, .slice A3_ x0.mtch.length c3_, .slice A4_ x0.caps.length c4_]] w0 fun e w' => e = .returned (.int .i64 r) ∧ St0 All w0 w' [] := by
  unfold m_commit_Format at H
  refine gw_enter1 Tryz.func24 rfl Tryz.ntmps24 rfl ?_
  have hS := St0.start All w0
  refine wpC_seq_k (fun K hK1 => ?_)
  refine wpC_region ?_
  refine wpS_box rfl rfl rfl CellsOf.agg hS (fun b2 w hS hB => ?_)
  refine wpS_quick 1 rfl ?_
  refine wpS_nil ?_
  refine QH_seq_k hK1 ?_
  refine wpC_seq_k (fun K hK4 => ?_)
  refine wpC_region ?_
  refine wpS_put rfl rfl rfl (yv_fieldAddr fo_30_6 rfl) ?_
  refine wpS_put rfl rfl rfl (yv_load_boxA ag_23 rfl (RW.here _) hS hs0 trivial sg13_5) ?_
  refine wpS_put rfl rfl rfl (yv_fieldAddr fo_30_3 rfl) ?_
  refine wpS_put rfl rfl rfl (yv_load_box sc_3 rfl (RW.here _) hS hs0 trivial sg3_1) ?_
  obtain ⟨r5, hm6, H⟩ := bind_some H
  refine wpS_call rfl rfl rfl rfl (by kernel_rfl) rfl (c_level_Format x0.applied x0.binary _ hm6) ?_
  rintro e w ⟨rfl, hN⟩; refine ⟨_, rfl, ?_⟩; have hB := hN.pure; have hS := hS.join hN; clear hN
  refine wpS_quick 1 rfl ?_
  refine wpS_nil ?_
  refine QH_seq_k hK4 ?_
  refine wpC_ret ?_
  refine QH_ret rfl (RV.tmp rfl RV.nil) rfl ?_
  obtain rfl := Option.some.inj H
  replace hS := hS.cut 0
  exact ⟨rfl, hS⟩
theorem c_law24_wakes (w0 : World) {r : Bool} (H : m_law24_wakes = some r) : Calls Tryz.prog 9 #[] w0 fun e w' => e = .returned (.bool r) ∧ St0 All w0 w' [] := by
  unfold m_law24_wakes at H
  refine gw_enter0 Tryz.func9 rfl Tryz.ntmps9 rfl ?_
  have hS := St0.start All w0
  refine wpC_seq_k (fun K hK1 => ?_)
  refine wpC_region ?_
  refine wpS_quick 1 rfl ?_
  refine wpS_nil ?_
  refine QH_seq_k hK1 ?_
  refine wpC_seq_k (fun K hK2 => ?_)
  refine wpC_region ?_
  obtain ⟨r3, hm4, H⟩ := bind_some H
  refine wpS_call rfl rfl rfl rfl (by kernel_rfl) rfl (c_law24_leads _ hm4) ?_
  rintro e w ⟨A5, c6, A9, c10, A13, c14, A17, c18, A21, c22, rfl, k7, k11, k15, k19, k23, hN⟩; refine ⟨_, rfl, ?_⟩; have hB := hN.pure; have hS := hS.join hN; clear hN
  refine wpS_alloc rfl rfl zc_30 hS (fun b25 w hS hB => ?_)
  refine wpS_store rfl rfl rfl CellsOf.agg hS ps0 st0_22 (by kernel_rfl) rfl (fun w hS hB => ?_)
  refine wpS_nil ?_
  refine QH_seq_k hK2 ?_
  refine wpC_seq_k (fun K hK27 => ?_)
  refine wpC_region ?_
  obtain ⟨r28, hm29, H⟩ := bind_some H
  refine wpS_call rfl rfl rfl rfl (by kernel_rfl) rfl (c_ref12_First _ hm29) ?_
  rintro e w ⟨A30, c31, rfl, k32, hN⟩; refine ⟨_, rfl, ?_⟩; have hB := hN.pure; have hS := hS.join hN; clear hN
  obtain ⟨r34, hm35, H⟩ := bind_some H
  refine wpS_call rfl rfl rfl rfl (by kernel_rfl) rfl (c_ref20_New 1 3 2 r28 A30 c31 _ (SlI.of_rd k32 (hS.rd hs0) (hS.rd_blk hs0)) hm35) ?_
  rintro e w ⟨A36, c37, A40, c41, A44, c45, A48, c49, A52, c53, rfl, k38, k42, k46, k50, k54, hN⟩; refine ⟨_, rfl, ?_⟩; have hB := hN.pure; have hS := hS.join hN; clear hN
  obtain ⟨r56, hm57, H⟩ := bind_some H
  refine wpS_call rfl rfl rfl rfl (by kernel_rfl) rfl (c_commit_Client r34 1 1 A36 c37 A40 c41 A44 c45 A48 c49 A52 c53 _ (SlI.of_rd k38 (hS.row_rd hs0) (hS.row_blk hs0)) (SlI.of_rd k42 (hS.row_rd hs1) (hS.row_blk hs1)) (SlI.of_rd k46 (hS.row_rd hs2) (hS.row_blk hs2)) (SlI.of_rd k50 (hS.row_rd hs3) (hS.row_blk hs3)) (SlI.of_rd k54 (hS.row_rd hs4) (hS.row_blk hs4)) hm57) ?_
  rintro e w ⟨A58, c59, A62, c63, A66, c67, A70, c71, A74, c75, rfl, k60, k64, k68, k72, k76, hN⟩; refine ⟨_, rfl, ?_⟩; have hB := hN.pure; have hS := hS.join hN; clear hN
  refine wpS_quick 1 rfl ?_
  refine wpS_put rfl rfl rfl (yv_extract rfl rfl) ?_
  refine wpS_put rfl rfl rfl (yv_extract rfl rfl) ?_
  refine wpS_alloc rfl rfl zc_30 hS (fun b78 w hS hB => ?_)
  refine wpS_store rfl rfl rfl CellsOf.agg hS ps0 st0_22 (by kernel_rfl) rfl (fun w hS hB => ?_)
  refine wpS_quick 1 rfl ?_
  refine wpS_nil ?_
  refine QH_seq_k hK27 ?_
  refine wpC_seq_k (fun K hK80 => ?_)
  refine wpC_region ?_
  obtain ⟨r81, hm82, H⟩ := bind_some H
  refine wpS_call rfl rfl rfl rfl (by kernel_rfl) rfl (c_ref12_First _ hm82) ?_
  rintro e w ⟨A83, c84, rfl, k85, hN⟩; refine ⟨_, rfl, ?_⟩; have hB := hN.pure; have hS := hS.join hN; clear hN
  obtain ⟨r87, hm88, H⟩ := bind_some H
  refine wpS_call rfl rfl rfl rfl (by kernel_rfl) rfl (c_ref12_Hard r81 1 0 A83 c84 _ (SlI.of_rd k85 (hS.rd hs0) (hS.rd_blk hs0)) hm88) ?_
  rintro e w ⟨A89, c90, rfl, k91, hN⟩; refine ⟨_, rfl, ?_⟩; have hB := hN.pure; have hS := hS.join hN; clear hN
  refine wpS_quick 1 rfl ?_
  refine wpS_put rfl rfl rfl (yv_extract rfl rfl) ?_
  refine wpS_put rfl rfl rfl (yv_extract rfl rfl) ?_
  refine wpS_alloc rfl rfl zc_26 hS (fun b93 w hS hB => ?_)
  refine wpS_store rfl rfl rfl CellsOf.agg hS ps0 st0_8 (by kernel_rfl) rfl (fun w hS hB => ?_)
  refine wpS_quick 1 rfl ?_
  refine wpS_nil ?_
  refine QH_seq_k hK80 ?_
  refine wpC_seq_k (fun K hK95 => ?_)
  refine wpC_region ?_
  refine wpS_put rfl rfl rfl (yv_load_boxA ag_26 rfl (RW.here _) hS hs0 trivial sg0_8) ?_
  obtain ⟨r96, hm97, H⟩ := bind_some H
  refine wpS_call rfl rfl rfl rfl (by kernel_rfl) rfl (c_ref20_New 1 3 2 r87.1 A89 c90 _ (SlI.of_rd k91 (hS.row_rd hs1) (hS.row_blk hs1)) hm97) ?_
  rintro e w ⟨A98, c99, A102, c103, A106, c107, A110, c111, A114, c115, rfl, k100, k104, k108, k112, k116, hN⟩; refine ⟨_, rfl, ?_⟩; have hB := hN.pure; have hS := hS.join hN; clear hN
  obtain ⟨r118, hm119, H⟩ := bind_some H
  refine wpS_call rfl rfl rfl rfl (by kernel_rfl) rfl (c_commit_Client r96 1 1 A98 c99 A102 c103 A106 c107 A110 c111 A114 c115 _ (SlI.of_rd k100 (hS.row_rd hs0) (hS.row_blk hs0)) (SlI.of_rd k104 (hS.row_rd hs1) (hS.row_blk hs1)) (SlI.of_rd k108 (hS.row_rd hs2) (hS.row_blk hs2)) (SlI.of_rd k112 (hS.row_rd hs3) (hS.row_blk hs3)) (SlI.of_rd k116 (hS.row_rd hs4) (hS.row_blk hs4)) hm119) ?_
  rintro e w ⟨A120, c121, A124, c125, A128, c129, A132, c133, A136, c137, rfl, k122, k126, k130, k134, k138, hN⟩; refine ⟨_, rfl, ?_⟩; have hB := hN.pure; have hS := hS.join hN; clear hN
  refine wpS_quick 1 rfl ?_
  refine wpS_put rfl rfl rfl (yv_extract rfl rfl) ?_
  refine wpS_put rfl rfl rfl (yv_extract rfl rfl) ?_
  refine wpS_alloc rfl rfl zc_30 hS (fun b140 w hS hB => ?_)
  refine wpS_store rfl rfl rfl CellsOf.agg hS ps0 st0_22 (by kernel_rfl) rfl (fun w hS hB => ?_)
  refine wpS_quick 1 rfl ?_
  refine wpS_nil ?_
  refine QH_seq_k hK95 ?_
  refine wpC_seq_k (fun K hK142 => ?_)
  refine wpC_region ?_
  refine wpS_put rfl rfl rfl (yv_load_boxA ag_30 rfl (RW.here _) hS hs26 trivial sg0_22) ?_
  obtain ⟨r143, hm144, H⟩ := bind_some H
  refine wpS_call rfl rfl rfl rfl (by kernel_rfl) rfl (c_commit_Client r3 2 0 A5 c6 A9 c10 A13 c14 A17 c18 A21 c22 _ (SlI.of_rd k7 (hS.row_rd hs27) (hS.row_blk hs27)) (SlI.of_rd k11 (hS.row_rd hs28) (hS.row_blk hs28)) (SlI.of_rd k15 (hS.row_rd hs29) (hS.row_blk hs29)) (SlI.of_rd k19 (hS.row_rd hs30) (hS.row_blk hs30)) (SlI.of_rd k23 (hS.row_rd hs31) (hS.row_blk hs31)) hm144) ?_
  rintro e w ⟨A145, c146, A149, c150, A153, c154, A157, c158, A161, c162, rfl, k147, k151, k155, k159, k163, hN⟩; refine ⟨_, rfl, ?_⟩; have hB := hN.pure; have hS := hS.join hN; clear hN
  refine wpS_quick 1 rfl ?_
  refine wpS_put rfl rfl rfl (yv_extract rfl rfl) ?_
  refine wpS_put rfl rfl rfl (yv_extract rfl rfl) ?_
  refine wpS_alloc rfl rfl zc_30 hS (fun b165 w hS hB => ?_)
  refine wpS_store rfl rfl rfl CellsOf.agg hS ps0 st0_22 (by kernel_rfl) rfl (fun w hS hB => ?_)
  refine wpS_quick 1 rfl ?_
  refine wpS_nil ?_
  refine QH_seq_k hK142 ?_
  refine wpC_seq_k (fun K hK167 => ?_)
  refine wpC_region ?_
  refine wpS_put rfl rfl rfl (yv_fieldAddr fo_30_10 rfl) ?_
  refine wpS_put rfl rfl rfl (yv_load_box sc_28 rfl (RW.here _) hS hs32 trivial sg21_1) ?_
  obtain ⟨e168, hi170, H⟩ := bind_some H
  obtain ⟨j169, hi170a, hi170b, hi170c⟩ := idx_some hi170
  refine wpS_put rfl rfl rfl (yx_idx el_28 rfl rfl hi170a hi170c (Rd.el (hS.row_rd hs37) he_enI hi170b)) ?_
  refine wpX_storeR (a' := 2) (zs := (setI r3.caps 2 2)) he_enI rfl rfl rfl CellsOf.int hS ps37 (Rd.el (hS.row_rd hs37) he_enI hi170b) hi170a hi170b rfl st0_1 (by kernel_rfl) rfl (fun w hS => ?_)
  refine wpS_nil ?_
  refine QH_seq_k hK167 ?_
  refine wpC_seq_k (fun K hK171 => ?_)
  refine wpC_region ?_
  refine wpS_put rfl rfl rfl (yv_load_boxA ag_30 rfl (RW.here _) hS hs32 trivial sg0_22) ?_
  obtain ⟨r172, hm173, H⟩ := bind_some H
  refine wpS_call rfl rfl rfl rfl (by kernel_rfl) (by rw [(setI_len rfl)]; rfl) (c_commit_Client (⟨r3.id, r3.n, r3.role, r3.binary, r3.tuple, r3.commit, r3.applied, r3.votes, r3.next, r3.mtch, (setI r3.caps 2 2)⟩ : Co) 2 0 A5 c6 A9 c10 A13 c14 A17 c18 A21 c22 _ (SlI.of_rd k7 (hS.row_rd hs33) (hS.row_blk hs33)) (SlI.of_rd k11 (hS.row_rd hs34) (hS.row_blk hs34)) (SlI.of_rd k15 (hS.row_rd hs35) (hS.row_blk hs35)) (SlI.of_rd k19 (hS.row_rd hs36) (hS.row_blk hs36)) (SlI.of_rd (k_set k23) (hS.row_rd hs37) (hS.row_blk hs37)) hm173) ?_
  rintro e w ⟨A174, c175, A178, c179, A182, c183, A186, c187, A190, c191, rfl, k176, k180, k184, k188, k192, hN⟩; refine ⟨_, rfl, ?_⟩; have hB := hN.pure; have hS := hS.join hN; clear hN
  refine wpS_quick 1 rfl ?_
  refine wpS_put rfl rfl rfl (yv_extract rfl rfl) ?_
  refine wpS_put rfl rfl rfl (yv_extract rfl rfl) ?_
  refine wpS_alloc rfl rfl zc_30 hS (fun b194 w hS hB => ?_)
  refine wpS_store rfl rfl rfl CellsOf.agg hS ps0 st0_22 (by kernel_rfl) rfl (fun w hS hB => ?_)
  refine wpS_quick 1 rfl ?_
  refine wpS_nil ?_
  refine QH_seq_k hK171 ?_
  refine wpC_seq_k (fun K hK196 => ?_)
  refine wpC_seq_k (fun K hK197 => ?_)
  refine wpC_region ?_
  refine wpS_put rfl rfl rfl (yv_fieldAddr fo_30_9 rfl) ?_
  refine wpS_put rfl rfl rfl (yv_load_box sc_28 rfl (RW.here _) hS hs0 trivial sg20_1) ?_
  refine wpS_put rfl rfl rfl (yv_len el_28 rfl) ?_
  refine wpS_put rfl rfl rfl (yv_neq rfl rfl) ?_
  refine wpS_nil ?_
  refine QH_seq_k hK197 ?_
  refine wpC_cond rfl (fun hb => ?_) (fun hb => ?_)
  · replace H := cond_t H hb
    refine wpC_seq_k (fun K hK198 => ?_)
    refine wpC_region ?_
    refine wpS_quick 1 rfl ?_
    refine wpS_nil ?_
    refine QH_seq_k hK198 ?_
    refine wpC_ret ?_
    refine QH_then_ret ?_
    refine QH_ret rfl (RV.tmp rfl RV.nil) rfl ?_
    obtain rfl := Option.some.inj H
    replace hS := hS.cut 0
    exact ⟨rfl, hS⟩
  replace H := cond_f H hb
  refine wpC_skip ?_
  refine QH_seq_k hK196 ?_
  refine wpC_seq_k (fun K hK199 => ?_)
  refine wpC_region ?_
  refine wpS_put rfl rfl rfl (yv_fieldAddr fo_30_5 rfl) ?_
  refine wpS_put rfl rfl rfl (yv_load_box sc_3 rfl (RW.here _) hS hs0 trivial sg12_1) ?_
  refine wpS_quick 1 rfl ?_
  refine wpS_nil ?_
  refine QH_seq_k hK199 ?_
  refine wpC_seq_k (fun K hK200 => ?_)
  refine wpC_region ?_
  refine wpS_put rfl rfl rfl (yv_fieldAddr fo_30_9 rfl) ?_
  refine wpS_put rfl rfl rfl (yv_load_box sc_28 rfl (RW.here _) hS hs0 trivial sg20_1) ?_
  obtain ⟨e201, hi203, H⟩ := bind_some H
  obtain ⟨j202, hi203a, hi203b, hi203c⟩ := idx_some hi203
  refine wpS_put rfl rfl rfl (yx_idx el_28 rfl rfl hi203a hi203c (Rd.el (hS.row_rd hs4) he_enI hi203b)) ?_
  refine wpX_storeR (a' := 2) (zs := (setI r172.1.mtch 1 2)) he_enI rfl rfl rfl CellsOf.int hS ps4 (Rd.el (hS.row_rd hs4) he_enI hi203b) hi203a hi203b rfl st0_1 (by kernel_rfl) rfl (fun w hS => ?_)
  refine wpS_nil ?_
  refine QH_seq_k hK200 ?_
  refine wpC_seq_k (fun K hK204 => ?_)
  refine wpC_region ?_
  refine wpS_put rfl rfl rfl (yv_load_boxA ag_30 rfl (RW.here _) hS hs0 trivial sg0_22) ?_
  obtain ⟨r205, hm206, H⟩ := bind_some H
  refine wpS_call rfl rfl rfl rfl (by kernel_rfl) (by rw [(setI_len rfl)]; rfl) (c_commit_Advance (⟨r172.1.id, r172.1.n, r172.1.role, r172.1.binary, r172.1.tuple, r172.1.commit, r172.1.applied, r172.1.votes, r172.1.next, (setI r172.1.mtch 1 2), r172.1.caps⟩ : Co) A174 c175 A178 c179 A182 c183 A186 c187 A190 c191 _ (SlI.of_rd k176 (hS.row_rd hs1) (hS.row_blk hs1)) (SlI.of_rd k180 (hS.row_rd hs2) (hS.row_blk hs2)) (SlI.of_rd k184 (hS.row_rd hs3) (hS.row_blk hs3)) (SlI.of_rd (k_set k188) (hS.row_rd hs4) (hS.row_blk hs4)) (SlI.of_rd k192 (hS.row_rd hs5) (hS.row_blk hs5)) hm206) ?_
  rintro e w ⟨A207, c208, A211, c212, A215, c216, A219, c220, A223, c224, rfl, k209, k213, k217, k221, k225, hN⟩; refine ⟨_, rfl, ?_⟩; have hB := hN.pure; have hS := hS.join hN; clear hN
  refine wpS_alloc rfl rfl zc_30 hS (fun b227 w hS hB => ?_)
  refine wpS_store rfl rfl rfl CellsOf.agg hS ps0 st0_22 (by kernel_rfl) rfl (fun w hS hB => ?_)
  refine wpS_nil ?_
  refine QH_seq_k hK204 ?_
  refine wpC_seq_k (fun K hK229 => ?_)
  refine wpC_region ?_
  refine wpS_put rfl rfl rfl (yv_load_boxA ag_30 rfl (RW.here _) hS hs44 trivial sg0_22) ?_
  obtain ⟨r230, hm231, H⟩ := bind_some H
  refine wpS_call rfl rfl rfl rfl (by kernel_rfl) (by rw [(setI_len rfl)]; rfl) (c_commit_Client (⟨r3.id, r3.n, r3.role, r3.binary, r3.tuple, r3.commit, r3.applied, r3.votes, r3.next, r3.mtch, (setI r3.caps 2 2)⟩ : Co) 4 0 A5 c6 A9 c10 A13 c14 A17 c18 A21 c22 _ (SlI.of_rd k7 (hS.row_rd hs45) (hS.row_blk hs45)) (SlI.of_rd k11 (hS.row_rd hs46) (hS.row_blk hs46)) (SlI.of_rd k15 (hS.row_rd hs47) (hS.row_blk hs47)) (SlI.of_rd k19 (hS.row_rd hs48) (hS.row_blk hs48)) (SlI.of_rd (k_set k23) (hS.row_rd hs49) (hS.row_blk hs49)) hm231) ?_
  rintro e w ⟨A232, c233, A236, c237, A240, c241, A244, c245, A248, c249, rfl, k234, k238, k242, k246, k250, hN⟩; refine ⟨_, rfl, ?_⟩; have hB := hN.pure; have hS := hS.join hN; clear hN
  refine wpS_quick 1 rfl ?_
  refine wpS_put rfl rfl rfl (yv_extract rfl rfl) ?_
  refine wpS_put rfl rfl rfl (yv_extract rfl rfl) ?_
  refine wpS_alloc rfl rfl zc_30 hS (fun b252 w hS hB => ?_)
  refine wpS_store rfl rfl rfl CellsOf.agg hS ps0 st0_22 (by kernel_rfl) rfl (fun w hS hB => ?_)
  refine wpS_quick 1 rfl ?_
  refine wpS_nil ?_
  refine QH_seq_k hK229 ?_
  refine wpC_seq_k (fun K hK254 => ?_)
  refine wpC_region ?_
  refine wpS_quick 1 rfl ?_
  refine wpS_put rfl rfl rfl (yv_eql rfl rfl) ?_
  refine wpS_quick 1 rfl ?_
  refine wpS_case 65 rfl (fun hb => ?_) (fun hb => ?_)
  rotate_left
  · replace H := cond_f H hb
    refine wpS_quick 64 rfl ?_
    refine wpS_nil ?_
    refine QH_seq_k hK254 ?_
    refine wpC_ret ?_
    refine QH_ret rfl (RV.tmp rfl RV.nil) rfl ?_
    obtain rfl := Option.some.inj H
    replace hS := hS.cut 0
    exact ⟨rfl, hS⟩
  replace H := cond_t H hb
  refine wpS_quick 1 rfl ?_
  refine wpS_put rfl rfl rfl (yv_eql rfl rfl) ?_
  refine wpS_quick 2 rfl ?_
  refine wpS_case 69 rfl (fun hb => ?_) (fun hb => ?_)
  rotate_left
  · replace H := cond_f H hb
    refine wpS_quick 60 rfl ?_
    refine wpS_nil ?_
    refine QH_seq_k hK254 ?_
    refine wpC_ret ?_
    refine QH_ret rfl (RV.tmp rfl RV.nil) rfl ?_
    obtain rfl := Option.some.inj H
    replace hS := hS.cut 0
    exact ⟨rfl, hS⟩
  replace H := cond_t H hb
  refine wpS_quick 1 rfl ?_
  refine wpS_put rfl rfl rfl (yv_eql rfl rfl) ?_
  refine wpS_quick 2 rfl ?_
  refine wpS_case 73 rfl (fun hb => ?_) (fun hb => ?_)
  rotate_left
  · replace H := cond_f H hb
    refine wpS_quick 56 rfl ?_
    refine wpS_nil ?_
    refine QH_seq_k hK254 ?_
    refine wpC_ret ?_
    refine QH_ret rfl (RV.tmp rfl RV.nil) rfl ?_
    obtain rfl := Option.some.inj H
    replace hS := hS.cut 0
    exact ⟨rfl, hS⟩
  replace H := cond_t H hb
  refine wpS_quick 1 rfl ?_
  refine wpS_put rfl rfl rfl (yv_eql rfl rfl) ?_
  refine wpS_quick 2 rfl ?_
  refine wpS_case 77 rfl (fun hb => ?_) (fun hb => ?_)
  rotate_left
  · replace H := cond_f H hb
    refine wpS_quick 52 rfl ?_
    refine wpS_nil ?_
    refine QH_seq_k hK254 ?_
    refine wpC_ret ?_
    refine QH_ret rfl (RV.tmp rfl RV.nil) rfl ?_
    obtain rfl := Option.some.inj H
    replace hS := hS.cut 0
    exact ⟨rfl, hS⟩
  replace H := cond_t H hb
  refine wpS_quick 1 rfl ?_
  refine wpS_put rfl rfl rfl (yv_eql rfl rfl) ?_
  refine wpS_quick 2 rfl ?_
  refine wpS_case 81 rfl (fun hb => ?_) (fun hb => ?_)
  rotate_left
  · replace H := cond_f H hb
    refine wpS_quick 48 rfl ?_
    refine wpS_nil ?_
    refine QH_seq_k hK254 ?_
    refine wpC_ret ?_
    refine QH_ret rfl (RV.tmp rfl RV.nil) rfl ?_
    obtain rfl := Option.some.inj H
    replace hS := hS.cut 0
    exact ⟨rfl, hS⟩
  replace H := cond_t H hb
  refine wpS_put rfl rfl rfl (yv_fieldAddr fo_30_4 rfl) ?_
  refine wpS_put rfl rfl rfl (yv_fieldAddr fo_26_1 rfl) ?_
  refine wpS_put rfl rfl rfl (yv_load_box sc_24 rfl (RW.here _) hS hs12 trivial sg9_1) ?_
  refine wpS_put rfl rfl rfl (yv_len el_24 rfl) ?_
  refine wpS_put rfl rfl rfl (yv_eql rfl rfl) ?_
  refine wpS_quick 2 rfl ?_
  refine wpS_case 88 rfl (fun hb => ?_) (fun hb => ?_)
  rotate_left
  · replace H := cond_f H hb
    refine wpS_quick 41 rfl ?_
    refine wpS_nil ?_
    refine QH_seq_k hK254 ?_
    refine wpC_ret ?_
    refine QH_ret rfl (RV.tmp rfl RV.nil) rfl ?_
    obtain rfl := Option.some.inj H
    replace hS := hS.cut 0
    exact ⟨rfl, hS⟩
  replace H := cond_t H hb
  refine wpS_put rfl rfl rfl (yv_fieldAddr fo_30_5 rfl) ?_
  refine wpS_put rfl rfl rfl (yv_load_box sc_3 rfl (RW.here _) hS hs6 trivial sg12_1) ?_
  refine wpS_put rfl rfl rfl (yv_eql rfl rfl) ?_
  refine wpS_quick 2 rfl ?_
  refine wpS_case 93 rfl (fun hb => ?_) (fun hb => ?_)
  rotate_left
  · replace H := cond_f H hb
    refine wpS_quick 36 rfl ?_
    refine wpS_nil ?_
    refine QH_seq_k hK254 ?_
    refine wpC_ret ?_
    refine QH_ret rfl (RV.tmp rfl RV.nil) rfl ?_
    obtain rfl := Option.some.inj H
    replace hS := hS.cut 0
    exact ⟨rfl, hS⟩
  replace H := cond_t H hb
  refine wpS_put rfl rfl rfl (yv_fieldAddr fo_30_6 rfl) ?_
  refine wpS_put rfl rfl rfl (yv_fieldAddr fo_23_3 rfl) ?_
  refine wpS_put rfl rfl rfl (yv_load_box sc_3 rfl (RW.here _) hS hs6 trivial sg16_1) ?_
  refine wpS_put rfl rfl rfl (yv_eql rfl rfl) ?_
  refine wpS_quick 2 rfl ?_
  refine wpS_case 99 rfl (fun hb => ?_) (fun hb => ?_)
  rotate_left
  · replace H := cond_f H hb
    refine wpS_quick 30 rfl ?_
    refine wpS_nil ?_
    refine QH_seq_k hK254 ?_
    refine wpC_ret ?_
    refine QH_ret rfl (RV.tmp rfl RV.nil) rfl ?_
    obtain rfl := Option.some.inj H
    replace hS := hS.cut 0
    exact ⟨rfl, hS⟩
  replace H := cond_t H hb
  refine wpS_put rfl rfl rfl (yv_load_boxA ag_30 rfl (RW.here _) hS hs6 trivial sg0_22) ?_
  obtain ⟨r255, hm256, H⟩ := bind_some H
  refine wpS_call rfl rfl rfl rfl (by kernel_rfl) rfl (c_commit_Format r205 A207 c208 A211 c212 A215 c216 A219 c220 A223 c224 _ (SlI.of_rd k209 (hS.row_rd hs7) (hS.row_blk hs7)) (SlI.of_rd k213 (hS.row_rd hs8) (hS.row_blk hs8)) (SlI.of_rd k217 (hS.row_rd hs9) (hS.row_blk hs9)) (SlI.of_rd k221 (hS.row_rd hs10) (hS.row_blk hs10)) (SlI.of_rd k225 (hS.row_rd hs11) (hS.row_blk hs11)) hm256) ?_
  rintro e w ⟨rfl, hN⟩; refine ⟨_, rfl, ?_⟩; have hB := hN.pure; have hS := hS.join hN; clear hN
  refine wpS_put rfl rfl rfl (yv_eql rfl rfl) ?_
  refine wpS_quick 2 rfl ?_
  refine wpS_case 104 rfl (fun hb => ?_) (fun hb => ?_)
  rotate_left
  · replace H := cond_f H hb
    refine wpS_quick 25 rfl ?_
    refine wpS_nil ?_
    refine QH_seq_k hK254 ?_
    refine wpC_ret ?_
    refine QH_ret rfl (RV.tmp rfl RV.nil) rfl ?_
    obtain rfl := Option.some.inj H
    replace hS := hS.cut 0
    exact ⟨rfl, hS⟩
  replace H := cond_t H hb
  refine wpS_put rfl rfl rfl (yv_load_boxA ag_30 rfl (RW.here _) hS hs50 trivial sg0_22) ?_
  obtain ⟨r257, hm258, H⟩ := bind_some H
  refine wpS_call rfl rfl rfl rfl (by kernel_rfl) (by rw [(setI_len rfl)]; rfl) (c_commit_Format (⟨r3.id, r3.n, r3.role, r3.binary, r3.tuple, r3.commit, r3.applied, r3.votes, r3.next, r3.mtch, (setI r3.caps 2 2)⟩ : Co) A5 c6 A9 c10 A13 c14 A17 c18 A21 c22 _ (SlI.of_rd k7 (hS.row_rd hs51) (hS.row_blk hs51)) (SlI.of_rd k11 (hS.row_rd hs52) (hS.row_blk hs52)) (SlI.of_rd k15 (hS.row_rd hs53) (hS.row_blk hs53)) (SlI.of_rd k19 (hS.row_rd hs54) (hS.row_blk hs54)) (SlI.of_rd (k_set k23) (hS.row_rd hs55) (hS.row_blk hs55)) hm258) ?_
  rintro e w ⟨rfl, hN⟩; refine ⟨_, rfl, ?_⟩; have hB := hN.pure; have hS := hS.join hN; clear hN
  refine wpS_put rfl rfl rfl (yv_eql rfl rfl) ?_
  refine wpS_quick 2 rfl ?_
  refine wpS_case 109 rfl (fun hb => ?_) (fun hb => ?_)
  rotate_left
  · replace H := cond_f H hb
    refine wpS_quick 20 rfl ?_
    refine wpS_nil ?_
    refine QH_seq_k hK254 ?_
    refine wpC_ret ?_
    refine QH_ret rfl (RV.tmp rfl RV.nil) rfl ?_
    obtain rfl := Option.some.inj H
    replace hS := hS.cut 0
    exact ⟨rfl, hS⟩
  replace H := cond_t H hb
  refine wpS_quick 1 rfl ?_
  refine wpS_put rfl rfl rfl (yv_eql rfl rfl) ?_
  refine wpS_quick 2 rfl ?_
  refine wpS_case 113 rfl (fun hb => ?_) (fun hb => ?_)
  rotate_left
  · replace H := cond_f H hb
    refine wpS_quick 16 rfl ?_
    refine wpS_nil ?_
    refine QH_seq_k hK254 ?_
    refine wpC_ret ?_
    refine QH_ret rfl (RV.tmp rfl RV.nil) rfl ?_
    obtain rfl := Option.some.inj H
    replace hS := hS.cut 0
    exact ⟨rfl, hS⟩
  replace H := cond_t H hb
  refine wpS_put rfl rfl rfl (yv_load_boxA ag_30 rfl (RW.here _) hS hs12 trivial sg0_22) ?_
  obtain ⟨r259, hm260, H⟩ := bind_some H
  refine wpS_call rfl rfl rfl rfl (by kernel_rfl) (by rw [(setI_len rfl)]; rfl) (c_commit_Had (⟨r172.1.id, r172.1.n, r172.1.role, r172.1.binary, r172.1.tuple, r172.1.commit, r172.1.applied, r172.1.votes, r172.1.next, (setI r172.1.mtch 1 2), r172.1.caps⟩ : Co) 2 A174 c175 A178 c179 A182 c183 A186 c187 A190 c191 _ (SlI.of_rd k176 (hS.row_rd hs13) (hS.row_blk hs13)) (SlI.of_rd k180 (hS.row_rd hs14) (hS.row_blk hs14)) (SlI.of_rd k184 (hS.row_rd hs15) (hS.row_blk hs15)) (SlI.of_rd (k_set k188) (hS.row_rd hs16) (hS.row_blk hs16)) (SlI.of_rd k192 (hS.row_rd hs17) (hS.row_blk hs17)) hm260) ?_
  rintro e w ⟨rfl, hN⟩; refine ⟨_, rfl, ?_⟩; have hB := hN.pure; have hS := hS.join hN; clear hN
  refine wpS_put rfl rfl rfl (yv_eql rfl rfl) ?_
  refine wpS_quick 2 rfl ?_
  refine wpS_case 118 rfl (fun hb => ?_) (fun hb => ?_)
  rotate_left
  · replace H := cond_f H hb
    refine wpS_quick 11 rfl ?_
    refine wpS_nil ?_
    refine QH_seq_k hK254 ?_
    refine wpC_ret ?_
    refine QH_ret rfl (RV.tmp rfl RV.nil) rfl ?_
    obtain rfl := Option.some.inj H
    replace hS := hS.cut 0
    exact ⟨rfl, hS⟩
  replace H := cond_t H hb
  refine wpS_put rfl rfl rfl (yv_load_boxA ag_30 rfl (RW.here _) hS hs12 trivial sg0_22) ?_
  obtain ⟨r261, hm262, H⟩ := bind_some H
  refine wpS_call rfl rfl rfl rfl (by kernel_rfl) (by rw [(setI_len rfl)]; rfl) (c_commit_May (⟨r172.1.id, r172.1.n, r172.1.role, r172.1.binary, r172.1.tuple, r172.1.commit, r172.1.applied, r172.1.votes, r172.1.next, (setI r172.1.mtch 1 2), r172.1.caps⟩ : Co) A174 c175 A178 c179 A182 c183 A186 c187 A190 c191 _ (SlI.of_rd k176 (hS.row_rd hs13) (hS.row_blk hs13)) (SlI.of_rd k180 (hS.row_rd hs14) (hS.row_blk hs14)) (SlI.of_rd k184 (hS.row_rd hs15) (hS.row_blk hs15)) (SlI.of_rd (k_set k188) (hS.row_rd hs16) (hS.row_blk hs16)) (SlI.of_rd k192 (hS.row_rd hs17) (hS.row_blk hs17)) hm262) ?_
  rintro e w ⟨rfl, hN⟩; refine ⟨_, rfl, ?_⟩; have hB := hN.pure; have hS := hS.join hN; clear hN
  refine wpS_put rfl rfl rfl (yv_eql rfl rfl) ?_
  refine wpS_quick 2 rfl ?_
  refine wpS_case 123 rfl (fun hb => ?_) (fun hb => ?_)
  rotate_left
  · replace H := cond_f H hb
    refine wpS_quick 6 rfl ?_
    refine wpS_nil ?_
    refine QH_seq_k hK254 ?_
    refine wpC_ret ?_
    refine QH_ret rfl (RV.tmp rfl RV.nil) rfl ?_
    obtain rfl := Option.some.inj H
    replace hS := hS.cut 0
    exact ⟨rfl, hS⟩
  replace H := cond_t H hb
  refine wpS_put rfl rfl rfl (yv_load_boxA ag_30 rfl (RW.here _) hS hs50 trivial sg0_22) ?_
  obtain ⟨r263, hm264, H⟩ := bind_some H
  refine wpS_call rfl rfl rfl rfl (by kernel_rfl) (by rw [(setI_len rfl)]; rfl) (c_commit_To (⟨r3.id, r3.n, r3.role, r3.binary, r3.tuple, r3.commit, r3.applied, r3.votes, r3.next, r3.mtch, (setI r3.caps 2 2)⟩ : Co) 9 A5 c6 A9 c10 A13 c14 A17 c18 A21 c22 _ (SlI.of_rd k7 (hS.row_rd hs51) (hS.row_blk hs51)) (SlI.of_rd k11 (hS.row_rd hs52) (hS.row_blk hs52)) (SlI.of_rd k15 (hS.row_rd hs53) (hS.row_blk hs53)) (SlI.of_rd k19 (hS.row_rd hs54) (hS.row_blk hs54)) (SlI.of_rd (k_set k23) (hS.row_rd hs55) (hS.row_blk hs55)) hm264) ?_
  rintro e w ⟨A265, c266, A269, c270, A273, c274, A277, c278, A281, c282, rfl, k267, k271, k275, k279, k283, hN⟩; refine ⟨_, rfl, ?_⟩; have hB := hN.pure; have hS := hS.join hN; clear hN
  refine wpS_put rfl rfl rfl (yv_field fo_30_5 (by kernel_rfl) rfl rfl) ?_
  refine wpS_put rfl rfl rfl (yv_eql rfl rfl) ?_
  refine wpS_quick 2 rfl ?_
  refine wpS_nil ?_
  refine QH_seq_k hK254 ?_
  refine wpC_ret ?_
  refine QH_ret rfl (RV.tmp rfl RV.nil) rfl ?_
  obtain rfl := Option.some.inj H
  replace hS := hS.cut 0
  exact ⟨rfl, hS⟩
theorem c_ref06_Same (x0 : List En) (x1 : List En) (A0_ : Option Addr) (c0_ : Nat) (A1_ : Option Addr) (c1_ : Nat) (w0 : World) (s0_ : SlI w0 enE A0_ c0_ x0) (s1_ : SlI w0 enE A1_ c1_ x1) {r : Bool} (H : m_ref06_Same x0 x1 = some r) : Calls Tryz.prog 17 #[.slice A0_ x0.length c0_, .slice A1_ x1.length c1_] w0 fun e w' => e = .returned (.bool r) ∧ St0 All w0 w' [] := by
  unfold m_ref06_Same at H
  refine gw_enter2 Tryz.func17 rfl Tryz.ntmps17 rfl ?_
  have hS := St0.start All w0
  refine wpC_seq_k (fun K hK1 => ?_)
  refine wpC_region ?_
  refine wpS_quick 1 rfl ?_
  refine wpS_nil ?_
  refine QH_seq_k hK1 ?_
  refine wpC_seq_k (fun K hK2 => ?_)
  refine wpC_seq_k (fun K hK3 => ?_)
  refine wpC_region ?_
  refine wpS_quick 1 rfl ?_
  refine wpS_put rfl rfl rfl (yv_len el_24 rfl) ?_
  refine wpS_quick 1 rfl ?_
  refine wpS_put rfl rfl rfl (yv_len el_24 rfl) ?_
  refine wpS_put rfl rfl rfl (yv_neq rfl rfl) ?_
  refine wpS_nil ?_
  refine QH_seq_k hK3 ?_
  refine wpC_cond rfl (fun hb => ?_) (fun hb => ?_)
  · replace H := cond_t H hb
    refine wpC_seq_k (fun K hK4 => ?_)
    refine wpC_region ?_
    refine wpS_quick 1 rfl ?_
    refine wpS_nil ?_
    refine QH_seq_k hK4 ?_
    refine wpC_ret ?_
    refine QH_then_ret ?_
    refine QH_ret rfl (RV.tmp rfl RV.nil) rfl ?_
    obtain rfl := Option.some.inj H
    replace hS := hS.cut 0
    exact ⟨rfl, hS⟩
  replace H := cond_f H hb
  refine wpC_skip ?_
  refine QH_seq_k hK2 ?_
  refine wpC_seq_k (fun K hK5 => ?_)
  refine wpC_seq_k (fun K hK6 => ?_)
  refine wpC_region ?_
  refine wpS_quick 1 rfl ?_
  refine wpS_nil ?_
  refine QH_seq_k hK6 ?_
  refine wpC_block ?_
  refine wpC_loop (X := Nat × Bool × Int) (fun x => (0, .slice A0_ x0.length c0_) :: (1, .slice A1_ x1.length c1_) :: (4, .bool x.2.1) :: (5, .int .i64 x.2.2) :: []) (fun x w => St0 All w0 w ([]) ∧ m_ref06_Same_l1 x0 x1 x.1 x.2.1 x.2.2 = some r) (fun x => x.1) (fuelN, false, 0) (by repeat (first | exact Sub.nil | refine Sub.cons rfl ?_)) ⟨hS, H⟩ ?_
  rintro ⟨n, v7, v8⟩ w ⟨hS, H⟩
  dsimp only at hS H ⊢
  obtain _ | n := n
  · have H0 : none = some r := H
    cases H0
  rw [m_ref06_Same_l1] at H
  refine wpC_seq_k (fun K hK9 => ?_)
  refine wpC_seq_k (fun K hK10 => ?_)
  refine wpC_region ?_
  refine wpS_quick 2 rfl ?_
  refine wpS_put rfl rfl rfl (yv_len el_24 rfl) ?_
  refine wpS_put rfl rfl rfl (yv_lss rfl rfl) ?_
  refine wpS_nil ?_
  refine QH_seq_k hK10 ?_
  refine wpC_cond rfl (fun hb => ?_) (fun hb => ?_)
  rotate_left
  · replace H := cond_f H hb
    refine wpC_exit ?_
    refine QH_then_exit ?_
    refine QH_then_exit ?_
    refine QH_block_hit ?_
    refine QH_seq_k hK5 ?_
    refine wpC_seq_k (fun K hK20 => ?_)
    refine wpC_region ?_
    refine wpS_quick 1 rfl ?_
    refine wpS_nil ?_
    refine QH_seq_k hK20 ?_
    refine wpC_ret ?_
    refine QH_ret rfl (RV.tmp rfl RV.nil) rfl ?_
    obtain rfl := Option.some.inj H
    replace hS := hS.cut 0
    exact ⟨rfl, hS⟩
  replace H := cond_t H hb
  refine wpC_skip ?_
  refine QH_seq_k hK9 ?_
  refine wpC_seq_k (fun K hK11 => ?_)
  refine wpC_block ?_
  refine wpC_seq_k (fun K hK12 => ?_)
  refine wpC_draw 9 [] (fun _ _ => True) ⟨by kernel_rfl, by kernel_rfl⟩ hS (fun w hS hB => ?_)
  refine wpR_batch [true, true, true, true, true, true, true, true, true] (by decide +kernel) (by repeat (first | exact PF.body | exact PF.round | apply PF.then | apply PF.inBlock | apply PF.jump)) ?_
  refine LtK.put rfl rfl rfl (yv_move rfl) ?_
  refine LtK.put rfl rfl rfl (yv_move rfl) ?_
  obtain ⟨e13, hi15, H⟩ := bind_some H
  obtain ⟨j14, hi15a, hi15b, hi15c⟩ := idx_some hi15
  refine LtK.put rfl rfl rfl (yx_idx el_24 rfl rfl hi15a hi15c (Rd.el (hS.rd0 s0_.rd) he_enE hi15b)) ?_
  refine LtK.put rfl rfl rfl (yx_ldA0 ag_41 rfl (RW.below _) (Rd.el (hS.rd0 s0_.rd) he_enE hi15b) sg0_3) ?_
  refine LtK.put rfl rfl rfl (yv_move rfl) ?_
  refine LtK.put rfl rfl rfl (yv_move rfl) ?_
  obtain ⟨e16, hi18, H⟩ := bind_some H
  obtain ⟨j17, hi18a, hi18b, hi18c⟩ := idx_some hi18
  refine LtK.put rfl rfl rfl (yx_idx el_24 rfl rfl hi18a hi18c (Rd.el (hS.rd0 s1_.rd) he_enE hi18b)) ?_
  refine LtK.put rfl rfl rfl (yx_ldA0 ag_41 rfl (RW.below _) (Rd.el (hS.rd0 s1_.rd) he_enE hi18b) sg0_3) ?_
  refine LtK.put rfl rfl rfl (yv_neqS (by kernel_rfl) rfl rfl (eqT_41 _ _ _ _ _ _)) ?_
  refine LtK.nil ?_
  refine wpR_end (by kernel_rfl) ?_
  refine QH_seq_k hK12 ?_
  refine wpC_cond rfl (fun hb => ?_) (fun hb => ?_)
  rotate_left
  · replace H := cond_f H hb
    refine wpC_skip ?_
    refine QH_block_normal ?_
    refine QH_seq_k hK11 ?_
    refine wpC_region ?_
    refine wpS_quick 1 rfl ?_
    refine wpS_put rfl rfl rfl (yx_add rfl rfl) ?_
    refine wpS_quick 1 rfl ?_
    refine wpS_nil ?_
    exact QH_again (n, v7, (IntKind.wrap .i64 (v8 + 1))) (by repeat (first | exact Sub.nil | refine Sub.cons rfl ?_)) ⟨hS, H⟩ (Nat.lt_succ_self _)
  replace H := cond_t H hb
  refine wpC_seq_k (fun K hK19 => ?_)
  refine wpC_region ?_
  refine wpS_quick 1 rfl ?_
  refine wpS_nil ?_
  refine QH_seq_k hK19 ?_
  refine wpC_ret ?_
  refine QH_block_ret ?_
  refine QH_then_ret ?_
  refine QH_then_ret ?_
  refine QH_block_ret ?_
  refine QH_then_ret ?_
  refine QH_ret rfl (RV.tmp rfl RV.nil) rfl ?_
  obtain rfl := Option.some.inj H
  replace hS := hS.cut 0
  exact ⟨rfl, hS⟩
theorem c_ref12_Same (x0 : Tu) (x1 : Tu) (A0_ : Option Addr) (c0_ : Nat) (A1_ : Option Addr) (c1_ : Nat) (w0 : World) (s0_ : SlI w0 enE A0_ c0_ x0.log) (s1_ : SlI w0 enE A1_ c1_ x1.log) {r : Bool} (H : m_ref12_Same x0 x1 = some r) : Calls Tryz.prog 13 #[.agg #[.int .i64 x0.snap.index, .int .i64 x0.snap.term, .int .i64 x0.snap.sum, .int .i64 x0.snap.level, .bool x0.snap.final, .slice A0_ x0.log.length c0_, .int .i64 x0.term, .int .i64 x0.vote], .agg #[.int .i64 x1.snap.index, .int .i64 x1.snap.term, .int .i64 x1.snap.sum, .int .i64 x1.snap.level, .bool x1.snap.final, .slice A1_ x1.log.length c1_, .int .i64 x1.term, .int .i64 x1.vote]] w0 fun e w' => e = .returned (.bool r) ∧ St0 All w0 w' [] := by
  unfold m_ref12_Same at H
  refine gw_enter2 Tryz.func13 rfl Tryz.ntmps13 rfl ?_
  have hS := St0.start All w0
  refine wpC_seq_k (fun K hK1 => ?_)
  refine wpC_region ?_
  refine wpS_box rfl rfl rfl CellsOf.agg hS (fun b2 w hS hB => ?_)
  refine wpS_box rfl rfl rfl CellsOf.agg hS (fun b4 w hS hB => ?_)
  refine wpS_quick 1 rfl ?_
  refine wpS_nil ?_
  refine QH_seq_k hK1 ?_
  refine wpC_seq_k (fun K hK6 => ?_)
  refine wpC_region ?_
  refine wpS_put rfl rfl rfl (yv_fieldAddr fo_26_0 rfl) ?_
  refine wpS_put rfl rfl rfl (yv_load_boxA ag_23 rfl (RW.here _) hS hs1 trivial sg0_5) ?_
  refine wpS_put rfl rfl rfl (yv_fieldAddr fo_26_0 rfl) ?_
  refine wpS_put rfl rfl rfl (yv_load_boxA ag_23 rfl (RW.here _) hS hs0 trivial sg0_5) ?_
  refine wpS_put rfl rfl rfl (yv_eqlS (by kernel_rfl) rfl rfl (eqT_23 _ _ _ _ _ _ _ _ _ _)) ?_
  refine wpS_quick 1 rfl ?_
  refine wpS_case 10 rfl (fun hb => ?_) (fun hb => ?_)
  rotate_left
  · replace H := cond_f H hb
    refine wpS_quick 21 rfl ?_
    refine wpS_nil ?_
    refine QH_seq_k hK6 ?_
    refine wpC_ret ?_
    refine QH_ret rfl (RV.tmp rfl RV.nil) rfl ?_
    obtain rfl := Option.some.inj H
    replace hS := hS.cut 0
    exact ⟨rfl, hS⟩
  replace H := cond_t H hb
  refine wpS_put rfl rfl rfl (yv_fieldAddr fo_26_2 rfl) ?_
  refine wpS_put rfl rfl rfl (yv_load_box sc_3 rfl (RW.here _) hS hs1 trivial sg6_1) ?_
  refine wpS_put rfl rfl rfl (yv_fieldAddr fo_26_2 rfl) ?_
  refine wpS_put rfl rfl rfl (yv_load_box sc_3 rfl (RW.here _) hS hs0 trivial sg6_1) ?_
  refine wpS_put rfl rfl rfl (yv_eql rfl rfl) ?_
  refine wpS_quick 2 rfl ?_
  refine wpS_case 17 rfl (fun hb => ?_) (fun hb => ?_)
  rotate_left
  · replace H := cond_f H hb
    refine wpS_quick 14 rfl ?_
    refine wpS_nil ?_
    refine QH_seq_k hK6 ?_
    refine wpC_ret ?_
    refine QH_ret rfl (RV.tmp rfl RV.nil) rfl ?_
    obtain rfl := Option.some.inj H
    replace hS := hS.cut 0
    exact ⟨rfl, hS⟩
  replace H := cond_t H hb
  refine wpS_put rfl rfl rfl (yv_fieldAddr fo_26_3 rfl) ?_
  refine wpS_put rfl rfl rfl (yv_load_box sc_3 rfl (RW.here _) hS hs1 trivial sg7_1) ?_
  refine wpS_put rfl rfl rfl (yv_fieldAddr fo_26_3 rfl) ?_
  refine wpS_put rfl rfl rfl (yv_load_box sc_3 rfl (RW.here _) hS hs0 trivial sg7_1) ?_
  refine wpS_put rfl rfl rfl (yv_eql rfl rfl) ?_
  refine wpS_quick 2 rfl ?_
  refine wpS_case 24 rfl (fun hb => ?_) (fun hb => ?_)
  rotate_left
  · replace H := cond_f H hb
    refine wpS_quick 7 rfl ?_
    refine wpS_nil ?_
    refine QH_seq_k hK6 ?_
    refine wpC_ret ?_
    refine QH_ret rfl (RV.tmp rfl RV.nil) rfl ?_
    obtain rfl := Option.some.inj H
    replace hS := hS.cut 0
    exact ⟨rfl, hS⟩
  replace H := cond_t H hb
  refine wpS_put rfl rfl rfl (yv_fieldAddr fo_26_1 rfl) ?_
  refine wpS_put rfl rfl rfl (yv_load_box sc_24 rfl (RW.here _) hS hs1 trivial sg5_1) ?_
  refine wpS_put rfl rfl rfl (yv_fieldAddr fo_26_1 rfl) ?_
  refine wpS_put rfl rfl rfl (yv_load_box sc_24 rfl (RW.here _) hS hs0 trivial sg5_1) ?_
  obtain ⟨r7, hm8, H⟩ := bind_some H
  refine wpS_call rfl rfl rfl rfl (by kernel_rfl) rfl (c_ref06_Same x0.log x1.log A0_ c0_ A1_ c1_ _ (SlI.of_rd s0_.k (hS.rd0 s0_.rd) (hS.blk0 s0_.blk)) (SlI.of_rd s1_.k (hS.rd0 s1_.rd) (hS.blk0 s1_.blk)) hm8) ?_
  rintro e w ⟨rfl, hN⟩; refine ⟨_, rfl, ?_⟩; have hB := hN.pure; have hS := hS.join hN; clear hN
  refine wpS_quick 2 rfl ?_
  refine wpS_nil ?_
  refine QH_seq_k hK6 ?_
  refine wpC_ret ?_
  refine QH_ret rfl (RV.tmp rfl RV.nil) rfl ?_
  obtain rfl := Option.some.inj H
  replace hS := hS.cut 0
  exact ⟨rfl, hS⟩
theorem c_ref20_ints (x0 : List Int) (x1 : List Int) (A0_ : Option Addr) (c0_ : Nat) (A1_ : Option Addr) (c1_ : Nat) (w0 : World) (s0_ : SlI w0 enI A0_ c0_ x0) (s1_ : SlI w0 enI A1_ c1_ x1) {r : Bool} (H : m_ref20_ints x0 x1 = some r) : Calls Tryz.prog 37 #[.slice A0_ x0.length c0_, .slice A1_ x1.length c1_] w0 fun e w' => e = .returned (.bool r) ∧ St0 All w0 w' [] := by
  unfold m_ref20_ints at H
  refine gw_enter2 Tryz.func37 rfl Tryz.ntmps37 rfl ?_
  have hS := St0.start All w0
  refine wpC_seq_k (fun K hK1 => ?_)
  refine wpC_region ?_
  refine wpS_quick 1 rfl ?_
  refine wpS_nil ?_
  refine QH_seq_k hK1 ?_
  refine wpC_seq_k (fun K hK2 => ?_)
  refine wpC_seq_k (fun K hK3 => ?_)
  refine wpC_region ?_
  refine wpS_quick 1 rfl ?_
  refine wpS_put rfl rfl rfl (yv_len el_28 rfl) ?_
  refine wpS_quick 1 rfl ?_
  refine wpS_put rfl rfl rfl (yv_len el_28 rfl) ?_
  refine wpS_put rfl rfl rfl (yv_neq rfl rfl) ?_
  refine wpS_nil ?_
  refine QH_seq_k hK3 ?_
  refine wpC_cond rfl (fun hb => ?_) (fun hb => ?_)
  · replace H := cond_t H hb
    refine wpC_seq_k (fun K hK4 => ?_)
    refine wpC_region ?_
    refine wpS_quick 1 rfl ?_
    refine wpS_nil ?_
    refine QH_seq_k hK4 ?_
    refine wpC_ret ?_
    refine QH_then_ret ?_
    refine QH_ret rfl (RV.tmp rfl RV.nil) rfl ?_
    obtain rfl := Option.some.inj H
    replace hS := hS.cut 0
    exact ⟨rfl, hS⟩
  replace H := cond_f H hb
  refine wpC_skip ?_
  refine QH_seq_k hK2 ?_
  refine wpC_seq_k (fun K hK5 => ?_)
  refine wpC_seq_k (fun K hK6 => ?_)
  refine wpC_region ?_
  refine wpS_quick 1 rfl ?_
  refine wpS_nil ?_
  refine QH_seq_k hK6 ?_
  refine wpC_block ?_
  refine wpC_loop (X := Nat × Bool × Int) (fun x => (0, .slice A0_ x0.length c0_) :: (1, .slice A1_ x1.length c1_) :: (4, .bool x.2.1) :: (5, .int .i64 x.2.2) :: []) (fun x w => St0 All w0 w ([]) ∧ m_ref20_ints_l1 x0 x1 x.1 x.2.1 x.2.2 = some r) (fun x => x.1) (fuelN, false, 0) (by repeat (first | exact Sub.nil | refine Sub.cons rfl ?_)) ⟨hS, H⟩ ?_
  rintro ⟨n, v7, v8⟩ w ⟨hS, H⟩
  dsimp only at hS H ⊢
  obtain _ | n := n
  · have H0 : none = some r := H
    cases H0
  rw [m_ref20_ints_l1] at H
  refine wpC_seq_k (fun K hK9 => ?_)
  refine wpC_seq_k (fun K hK10 => ?_)
  refine wpC_region ?_
  refine wpS_quick 2 rfl ?_
  refine wpS_put rfl rfl rfl (yv_len el_28 rfl) ?_
  refine wpS_put rfl rfl rfl (yv_lss rfl rfl) ?_
  refine wpS_nil ?_
  refine QH_seq_k hK10 ?_
  refine wpC_cond rfl (fun hb => ?_) (fun hb => ?_)
  rotate_left
  · replace H := cond_f H hb
    refine wpC_exit ?_
    refine QH_then_exit ?_
    refine QH_then_exit ?_
    refine QH_block_hit ?_
    refine QH_seq_k hK5 ?_
    refine wpC_seq_k (fun K hK20 => ?_)
    refine wpC_region ?_
    refine wpS_quick 1 rfl ?_
    refine wpS_nil ?_
    refine QH_seq_k hK20 ?_
    refine wpC_ret ?_
    refine QH_ret rfl (RV.tmp rfl RV.nil) rfl ?_
    obtain rfl := Option.some.inj H
    replace hS := hS.cut 0
    exact ⟨rfl, hS⟩
  replace H := cond_t H hb
  refine wpC_skip ?_
  refine QH_seq_k hK9 ?_
  refine wpC_seq_k (fun K hK11 => ?_)
  refine wpC_block ?_
  refine wpC_seq_k (fun K hK12 => ?_)
  refine wpC_draw 9 [] (fun _ _ => True) ⟨by kernel_rfl, by kernel_rfl⟩ hS (fun w hS hB => ?_)
  refine wpR_batch [true, true, true, true, true, true, true, true, true] (by decide +kernel) (by repeat (first | exact PF.body | exact PF.round | apply PF.then | apply PF.inBlock | apply PF.jump)) ?_
  refine LtK.put rfl rfl rfl (yv_move rfl) ?_
  refine LtK.put rfl rfl rfl (yv_move rfl) ?_
  obtain ⟨e13, hi15, H⟩ := bind_some H
  obtain ⟨j14, hi15a, hi15b, hi15c⟩ := idx_some hi15
  refine LtK.put rfl rfl rfl (yx_idx el_28 rfl rfl hi15a hi15c (Rd.el (hS.rd0 s0_.rd) he_enI hi15b)) ?_
  refine LtK.put rfl rfl rfl (yx_ld0 sc_3 rfl (RW.below _) (Rd.el (hS.rd0 s0_.rd) he_enI hi15b) rfl) ?_
  refine LtK.put rfl rfl rfl (yv_move rfl) ?_
  refine LtK.put rfl rfl rfl (yv_move rfl) ?_
  obtain ⟨e16, hi18, H⟩ := bind_some H
  obtain ⟨j17, hi18a, hi18b, hi18c⟩ := idx_some hi18
  refine LtK.put rfl rfl rfl (yx_idx el_28 rfl rfl hi18a hi18c (Rd.el (hS.rd0 s1_.rd) he_enI hi18b)) ?_
  refine LtK.put rfl rfl rfl (yx_ld0 sc_3 rfl (RW.below _) (Rd.el (hS.rd0 s1_.rd) he_enI hi18b) rfl) ?_
  refine LtK.put rfl rfl rfl (yv_neq rfl rfl) ?_
  refine LtK.nil ?_
  refine wpR_end (by kernel_rfl) ?_
  refine QH_seq_k hK12 ?_
  refine wpC_cond rfl (fun hb => ?_) (fun hb => ?_)
  rotate_left
  · replace H := cond_f H hb
    refine wpC_skip ?_
    refine QH_block_normal ?_
    refine QH_seq_k hK11 ?_
    refine wpC_region ?_
    refine wpS_quick 1 rfl ?_
    refine wpS_put rfl rfl rfl (yx_add rfl rfl) ?_
    refine wpS_quick 1 rfl ?_
    refine wpS_nil ?_
    exact QH_again (n, v7, (IntKind.wrap .i64 (v8 + 1))) (by repeat (first | exact Sub.nil | refine Sub.cons rfl ?_)) ⟨hS, H⟩ (Nat.lt_succ_self _)
  replace H := cond_t H hb
  refine wpC_seq_k (fun K hK19 => ?_)
  refine wpC_region ?_
  refine wpS_quick 1 rfl ?_
  refine wpS_nil ?_
  refine QH_seq_k hK19 ?_
  refine wpC_ret ?_
  refine QH_block_ret ?_
  refine QH_then_ret ?_
  refine QH_then_ret ?_
  refine QH_block_ret ?_
  refine QH_then_ret ?_
  refine QH_ret rfl (RV.tmp rfl RV.nil) rfl ?_
  obtain rfl := Option.some.inj H
  replace hS := hS.cut 0
  exact ⟨rfl, hS⟩
theorem c_ref20_Same (x0 : Co) (x1 : Co) (A0_ : Option Addr) (c0_ : Nat) (A1_ : Option Addr) (c1_ : Nat) (A2_ : Option Addr) (c2_ : Nat) (A3_ : Option Addr) (c3_ : Nat) (A4_ : Option Addr) (c4_ : Nat) (A5_ : Option Addr) (c5_ : Nat) (A6_ : Option Addr) (c6_ : Nat) (A7_ : Option Addr) (c7_ : Nat) (A8_ : Option Addr) (c8_ : Nat) (A9_ : Option Addr) (c9_ : Nat) (w0 : World) (s0_ : SlI w0 enE A0_ c0_ x0.tuple.log) (s1_ : SlI w0 enO A1_ c1_ x0.votes) (s2_ : SlI w0 enI A2_ c2_ x0.next) (s3_ : SlI w0 enI A3_ c3_ x0.mtch) (s4_ : SlI w0 enI A4_ c4_ x0.caps) (s5_ : SlI w0 enE A5_ c5_ x1.tuple.log) (s6_ : SlI w0 enO A6_ c6_ x1.votes) (s7_ : SlI w0 enI A7_ c7_ x1.next) (s8_ : SlI w0 enI A8_ c8_ x1.mtch) (s9_ : SlI w0 enI A9_ c9_ x1.caps) {r : Bool} (H : m_ref20_Same x0 x1 = some r) : Calls Tryz.prog 14 #[.agg #[.int .i64 x0.id, .int .i64 x0.n, .int .u8 x0.role, .int .i64 x0.binary, .int .i64 x0.tuple.snap.index, .int .i64 x0.tuple.snap.term, .int .i64 x0.tuple.snap.sum, .int .i64 x0.tuple.snap.level, .bool x0.tuple.snap.final, .slice A0_ x0.tuple.log.length c0_, .int .i64 x0.tuple.term, .int .i64 x0.tuple.vote, .int .i64 x0.commit, .int .i64 x0.applied.index, .int .i64 x0.applied.term, .int .i64 x0.applied.sum, .int .i64 x0.applied.level, .bool x0.applied.final, .slice A1_ x0.votes.length c1_, .slice A2_ x0.next.length c2_, .slice A3_ x0.mtch.length c3_, .slice A4_ x0.caps.length c4_], .agg #[.int .i64 x1.id, .int .i64 x1.n, .int .u8 x1.role, .int .i64 x1.binary, .int .i64 x1.tuple.snap.index, .int .i64 x1.tuple.snap.term, .int .i64 x1.tuple.snap.sum, .int .i64 x1.tuple.snap.level, .bool x1.tuple.snap.final, .slice A5_ x1.tuple.log.length c5_, .int .i64 x1.tuple.term, .int .i64 x1.tuple.vote, .int .i64 x1.commit, .int .i64 x1.applied.index, .int .i64 x1.applied.term, .int .i64 x1.applied.sum, .int .i64 x1.applied.level, .bool x1.applied.final, .slice A6_ x1.votes.length c6_, .slice A7_ x1.next.length c7_, .slice A8_ x1.mtch.length c8_, .slice A9_ x1.caps.length c9_]] w0 fun e w' => e = .returned (.bool r) ∧ St0 All w0 w' [] := by
  unfold m_ref20_Same at H
  refine gw_enter2 Tryz.func14 rfl Tryz.ntmps14 rfl ?_
  have hS := St0.start All w0
  refine wpC_seq_k (fun K hK1 => ?_)
  refine wpC_region ?_
  refine wpS_box rfl rfl rfl CellsOf.agg hS (fun b2 w hS hB => ?_)
  refine wpS_box rfl rfl rfl CellsOf.agg hS (fun b4 w hS hB => ?_)
  refine wpS_quick 1 rfl ?_
  refine wpS_nil ?_
  refine QH_seq_k hK1 ?_
  refine wpC_seq_k (fun K hK6 => ?_)
  refine wpC_seq_k (fun K hK7 => ?_)
  refine wpC_region ?_
  refine wpS_put rfl rfl rfl (yv_fieldAddr fo_30_0 rfl) ?_
  refine wpS_put rfl rfl rfl (yv_load_box sc_3 rfl (RW.here _) hS hs1 trivial sg0_1) ?_
  refine wpS_put rfl rfl rfl (yv_fieldAddr fo_30_0 rfl) ?_
  refine wpS_put rfl rfl rfl (yv_load_box sc_3 rfl (RW.here _) hS hs0 trivial sg0_1) ?_
  refine wpS_put rfl rfl rfl (yv_neq rfl rfl) ?_
  refine wpS_quick 1 rfl ?_
  refine wpS_case 11 rfl (fun hb => ?_) (fun hb => ?_)
  · replace H := cond_t H hb
    refine wpS_quick 51 rfl ?_
    refine wpS_nil ?_
    refine QH_seq_k hK7 ?_
    refine wpC_cond_t rfl rfl ?_
    refine wpC_seq_k (fun K hK8 => ?_)
    refine wpC_region ?_
    refine wpS_quick 1 rfl ?_
    refine wpS_nil ?_
    refine QH_seq_k hK8 ?_
    refine wpC_ret ?_
    refine QH_then_ret ?_
    refine QH_ret rfl (RV.tmp rfl RV.nil) rfl ?_
    obtain rfl := Option.some.inj H
    replace hS := hS.cut 0
    exact ⟨rfl, hS⟩
  replace H := cond_f H hb
  refine wpS_put rfl rfl rfl (yv_fieldAddr fo_30_1 rfl) ?_
  refine wpS_put rfl rfl rfl (yv_load_box sc_3 rfl (RW.here _) hS hs1 trivial sg1_1) ?_
  refine wpS_put rfl rfl rfl (yv_fieldAddr fo_30_1 rfl) ?_
  refine wpS_put rfl rfl rfl (yv_load_box sc_3 rfl (RW.here _) hS hs0 trivial sg1_1) ?_
  refine wpS_put rfl rfl rfl (yv_neq rfl rfl) ?_
  refine wpS_quick 2 rfl ?_
  refine wpS_case 18 rfl (fun hb => ?_) (fun hb => ?_)
  · replace H := cond_t H hb
    refine wpS_quick 44 rfl ?_
    refine wpS_nil ?_
    refine QH_seq_k hK7 ?_
    refine wpC_cond_t rfl rfl ?_
    refine wpC_seq_k (fun K hK9 => ?_)
    refine wpC_region ?_
    refine wpS_quick 1 rfl ?_
    refine wpS_nil ?_
    refine QH_seq_k hK9 ?_
    refine wpC_ret ?_
    refine QH_then_ret ?_
    refine QH_ret rfl (RV.tmp rfl RV.nil) rfl ?_
    obtain rfl := Option.some.inj H
    replace hS := hS.cut 0
    exact ⟨rfl, hS⟩
  replace H := cond_f H hb
  refine wpS_put rfl rfl rfl (yv_fieldAddr fo_30_2 rfl) ?_
  refine wpS_put rfl rfl rfl (yv_load_box sc_5 rfl (RW.here _) hS hs1 trivial sg2_1) ?_
  refine wpS_put rfl rfl rfl (yv_fieldAddr fo_30_2 rfl) ?_
  refine wpS_put rfl rfl rfl (yv_load_box sc_5 rfl (RW.here _) hS hs0 trivial sg2_1) ?_
  refine wpS_put rfl rfl rfl (yv_neq rfl rfl) ?_
  refine wpS_quick 2 rfl ?_
  refine wpS_case 25 rfl (fun hb => ?_) (fun hb => ?_)
  · replace H := cond_t H hb
    refine wpS_quick 37 rfl ?_
    refine wpS_nil ?_
    refine QH_seq_k hK7 ?_
    refine wpC_cond_t rfl rfl ?_
    refine wpC_seq_k (fun K hK10 => ?_)
    refine wpC_region ?_
    refine wpS_quick 1 rfl ?_
    refine wpS_nil ?_
    refine QH_seq_k hK10 ?_
    refine wpC_ret ?_
    refine QH_then_ret ?_
    refine QH_ret rfl (RV.tmp rfl RV.nil) rfl ?_
    obtain rfl := Option.some.inj H
    replace hS := hS.cut 0
    exact ⟨rfl, hS⟩
  replace H := cond_f H hb
  refine wpS_put rfl rfl rfl (yv_fieldAddr fo_30_3 rfl) ?_
  refine wpS_put rfl rfl rfl (yv_load_box sc_3 rfl (RW.here _) hS hs1 trivial sg3_1) ?_
  refine wpS_put rfl rfl rfl (yv_fieldAddr fo_30_3 rfl) ?_
  refine wpS_put rfl rfl rfl (yv_load_box sc_3 rfl (RW.here _) hS hs0 trivial sg3_1) ?_
  refine wpS_put rfl rfl rfl (yv_neq rfl rfl) ?_
  refine wpS_quick 2 rfl ?_
  refine wpS_case 32 rfl (fun hb => ?_) (fun hb => ?_)
  · replace H := cond_t H hb
    refine wpS_quick 30 rfl ?_
    refine wpS_nil ?_
    refine QH_seq_k hK7 ?_
    refine wpC_cond_t rfl rfl ?_
    refine wpC_seq_k (fun K hK11 => ?_)
    refine wpC_region ?_
    refine wpS_quick 1 rfl ?_
    refine wpS_nil ?_
    refine QH_seq_k hK11 ?_
    refine wpC_ret ?_
    refine QH_then_ret ?_
    refine QH_ret rfl (RV.tmp rfl RV.nil) rfl ?_
    obtain rfl := Option.some.inj H
    replace hS := hS.cut 0
    exact ⟨rfl, hS⟩
  replace H := cond_f H hb
  refine wpS_put rfl rfl rfl (yv_fieldAddr fo_30_4 rfl) ?_
  refine wpS_put rfl rfl rfl (yv_load_boxA ag_26 rfl (RW.here _) hS hs1 trivial sg4_8) ?_
  refine wpS_put rfl rfl rfl (yv_fieldAddr fo_30_4 rfl) ?_
  refine wpS_put rfl rfl rfl (yv_load_boxA ag_26 rfl (RW.here _) hS hs0 trivial sg4_8) ?_
  obtain ⟨r12, hm13, H⟩ := bind_some H
  refine wpS_call rfl rfl rfl rfl (by kernel_rfl) rfl (c_ref12_Same x0.tuple x1.tuple A0_ c0_ A5_ c5_ _ (SlI.of_rd s0_.k (hS.rd0 s0_.rd) (hS.blk0 s0_.blk)) (SlI.of_rd s5_.k (hS.rd0 s5_.rd) (hS.blk0 s5_.blk)) hm13) ?_
  rintro e w ⟨rfl, hN⟩; refine ⟨_, rfl, ?_⟩; have hB := hN.pure; have hS := hS.join hN; clear hN
  refine wpS_put rfl rfl rfl (yv_not rfl) ?_
  refine wpS_quick 2 rfl ?_
  refine wpS_case 40 rfl (fun hb => ?_) (fun hb => ?_)
  · replace H := cond_t H hb
    refine wpS_quick 22 rfl ?_
    refine wpS_nil ?_
    refine QH_seq_k hK7 ?_
    refine wpC_cond_t rfl rfl ?_
    refine wpC_seq_k (fun K hK14 => ?_)
    refine wpC_region ?_
    refine wpS_quick 1 rfl ?_
    refine wpS_nil ?_
    refine QH_seq_k hK14 ?_
    refine wpC_ret ?_
    refine QH_then_ret ?_
    refine QH_ret rfl (RV.tmp rfl RV.nil) rfl ?_
    obtain rfl := Option.some.inj H
    replace hS := hS.cut 0
    exact ⟨rfl, hS⟩
  replace H := cond_f H hb
  refine wpS_put rfl rfl rfl (yv_fieldAddr fo_30_5 rfl) ?_
  refine wpS_put rfl rfl rfl (yv_load_box sc_3 rfl (RW.here _) hS hs1 trivial sg12_1) ?_
  refine wpS_put rfl rfl rfl (yv_fieldAddr fo_30_5 rfl) ?_
  refine wpS_put rfl rfl rfl (yv_load_box sc_3 rfl (RW.here _) hS hs0 trivial sg12_1) ?_
  refine wpS_put rfl rfl rfl (yv_neq rfl rfl) ?_
  refine wpS_quick 2 rfl ?_
  refine wpS_case 47 rfl (fun hb => ?_) (fun hb => ?_)
  · replace H := cond_t H hb
    refine wpS_quick 15 rfl ?_
    refine wpS_nil ?_
    refine QH_seq_k hK7 ?_
    refine wpC_cond_t rfl rfl ?_
    refine wpC_seq_k (fun K hK15 => ?_)
    refine wpC_region ?_
    refine wpS_quick 1 rfl ?_
    refine wpS_nil ?_
    refine QH_seq_k hK15 ?_
    refine wpC_ret ?_
    refine QH_then_ret ?_
    refine QH_ret rfl (RV.tmp rfl RV.nil) rfl ?_
    obtain rfl := Option.some.inj H
    replace hS := hS.cut 0
    exact ⟨rfl, hS⟩
  replace H := cond_f H hb
  refine wpS_put rfl rfl rfl (yv_fieldAddr fo_30_6 rfl) ?_
  refine wpS_put rfl rfl rfl (yv_load_boxA ag_23 rfl (RW.here _) hS hs1 trivial sg13_5) ?_
  refine wpS_put rfl rfl rfl (yv_fieldAddr fo_30_6 rfl) ?_
  refine wpS_put rfl rfl rfl (yv_load_boxA ag_23 rfl (RW.here _) hS hs0 trivial sg13_5) ?_
  refine wpS_put rfl rfl rfl (yv_neqS (by kernel_rfl) rfl rfl (eqT_23 _ _ _ _ _ _ _ _ _ _)) ?_
  refine wpS_quick 2 rfl ?_
  refine wpS_case 54 rfl (fun hb => ?_) (fun hb => ?_)
  · replace H := cond_t H hb
    refine wpS_quick 8 rfl ?_
    refine wpS_nil ?_
    refine QH_seq_k hK7 ?_
    refine wpC_cond_t rfl rfl ?_
    refine wpC_seq_k (fun K hK16 => ?_)
    refine wpC_region ?_
    refine wpS_quick 1 rfl ?_
    refine wpS_nil ?_
    refine QH_seq_k hK16 ?_
    refine wpC_ret ?_
    refine QH_then_ret ?_
    refine QH_ret rfl (RV.tmp rfl RV.nil) rfl ?_
    obtain rfl := Option.some.inj H
    replace hS := hS.cut 0
    exact ⟨rfl, hS⟩
  replace H := cond_f H hb
  refine wpS_put rfl rfl rfl (yv_fieldAddr fo_30_7 rfl) ?_
  refine wpS_put rfl rfl rfl (yv_load_box sc_27 rfl (RW.here _) hS hs1 trivial sg18_1) ?_
  refine wpS_put rfl rfl rfl (yv_len el_27 rfl) ?_
  refine wpS_put rfl rfl rfl (yv_fieldAddr fo_30_7 rfl) ?_
  refine wpS_put rfl rfl rfl (yv_load_box sc_27 rfl (RW.here _) hS hs0 trivial sg18_1) ?_
  refine wpS_put rfl rfl rfl (yv_len el_27 rfl) ?_
  refine wpS_put rfl rfl rfl (yv_neq rfl rfl) ?_
  refine wpS_quick 1 rfl ?_
  refine wpS_nil ?_
  refine QH_seq_k hK7 ?_
  refine wpC_cond rfl (fun hb => ?_) (fun hb => ?_)
  · replace H := cond_t H hb
    refine wpC_seq_k (fun K hK17 => ?_)
    refine wpC_region ?_
    refine wpS_quick 1 rfl ?_
    refine wpS_nil ?_
    refine QH_seq_k hK17 ?_
    refine wpC_ret ?_
    refine QH_then_ret ?_
    refine QH_ret rfl (RV.tmp rfl RV.nil) rfl ?_
    obtain rfl := Option.some.inj H
    replace hS := hS.cut 0
    exact ⟨rfl, hS⟩
  replace H := cond_f H hb
  refine wpC_skip ?_
  refine QH_seq_k hK6 ?_
  refine wpC_seq_k (fun K hK18 => ?_)
  refine wpC_seq_k (fun K hK19 => ?_)
  refine wpC_region ?_
  refine wpS_quick 1 rfl ?_
  refine wpS_nil ?_
  refine QH_seq_k hK19 ?_
  refine wpC_block ?_
  refine wpC_loop (X := Nat × Bool × Int) (fun x => (2, .pointer (some ⟨b2, 0, none⟩)) :: (3, .pointer (some ⟨b4, 0, none⟩)) :: (4, .bool x.2.1) :: (5, .int .i64 x.2.2) :: []) (fun x w => St0 All w0 w (.box b4 [.int .i64 x1.id, .int .i64 x1.n, .int .u8 x1.role, .int .i64 x1.binary, .int .i64 x1.tuple.snap.index, .int .i64 x1.tuple.snap.term, .int .i64 x1.tuple.snap.sum, .int .i64 x1.tuple.snap.level, .bool x1.tuple.snap.final, .slice A5_ x1.tuple.log.length c5_, .int .i64 x1.tuple.term, .int .i64 x1.tuple.vote, .int .i64 x1.commit, .int .i64 x1.applied.index, .int .i64 x1.applied.term, .int .i64 x1.applied.sum, .int .i64 x1.applied.level, .bool x1.applied.final, .slice A6_ x1.votes.length c6_, .slice A7_ x1.next.length c7_, .slice A8_ x1.mtch.length c8_, .slice A9_ x1.caps.length c9_] 30 :: .box b2 [.int .i64 x0.id, .int .i64 x0.n, .int .u8 x0.role, .int .i64 x0.binary, .int .i64 x0.tuple.snap.index, .int .i64 x0.tuple.snap.term, .int .i64 x0.tuple.snap.sum, .int .i64 x0.tuple.snap.level, .bool x0.tuple.snap.final, .slice A0_ x0.tuple.log.length c0_, .int .i64 x0.tuple.term, .int .i64 x0.tuple.vote, .int .i64 x0.commit, .int .i64 x0.applied.index, .int .i64 x0.applied.term, .int .i64 x0.applied.sum, .int .i64 x0.applied.level, .bool x0.applied.final, .slice A1_ x0.votes.length c1_, .slice A2_ x0.next.length c2_, .slice A3_ x0.mtch.length c3_, .slice A4_ x0.caps.length c4_] 30 :: []) ∧ m_ref20_Same_l1 x0 x1 x.1 x.2.1 x.2.2 = some r) (fun x => x.1) (fuelN, false, 0) (by repeat (first | exact Sub.nil | refine Sub.cons rfl ?_)) ⟨hS, H⟩ ?_
  rintro ⟨n, v20, v21⟩ w ⟨hS, H⟩
  dsimp only at hS H ⊢
  obtain _ | n := n
  · have H0 : none = some r := H
    cases H0
  rw [m_ref20_Same_l1] at H
  refine wpC_seq_k (fun K hK22 => ?_)
  refine wpC_seq_k (fun K hK23 => ?_)
  refine wpC_region ?_
  refine wpS_quick 1 rfl ?_
  refine wpS_put rfl rfl rfl (yv_fieldAddr fo_30_7 rfl) ?_
  refine wpS_put rfl rfl rfl (yv_load_box sc_27 rfl (RW.here _) hS hs1 trivial sg18_1) ?_
  refine wpS_put rfl rfl rfl (yv_len el_27 rfl) ?_
  refine wpS_put rfl rfl rfl (yv_lss rfl rfl) ?_
  refine wpS_nil ?_
  refine QH_seq_k hK23 ?_
  refine wpC_cond rfl (fun hb => ?_) (fun hb => ?_)
  · replace H := cond_t H hb
    refine wpC_skip ?_
    refine QH_seq_k hK22 ?_
    refine wpC_seq_k (fun K hK24 => ?_)
    refine wpC_block ?_
    refine wpC_seq_k (fun K hK25 => ?_)
    refine wpC_draw 11 [] (fun _ _ => True) ⟨by kernel_rfl, by kernel_rfl⟩ hS (fun w hS hB => ?_)
    refine wpR_batch [true, true, true, true, true, true, true, true, true, true, true] (by decide +kernel) (by repeat (first | exact PF.body | exact PF.round | apply PF.then | apply PF.inBlock | apply PF.jump)) ?_
    refine LtK.put rfl rfl rfl (yv_fieldAddr fo_30_7 rfl) ?_
    refine LtK.put rfl rfl rfl (yv_load_box sc_27 rfl (RW.below _) hS hs1 trivial sg18_1) ?_
    refine LtK.put rfl rfl rfl (yv_move rfl) ?_
    obtain ⟨e26, hi28, H⟩ := bind_some H
    obtain ⟨j27, hi28a, hi28b, hi28c⟩ := idx_some hi28
    refine LtK.put rfl rfl rfl (yx_idx el_27 rfl rfl hi28a hi28c (Rd.el (hS.rd0 s1_.rd) he_enO hi28b)) ?_
    refine LtK.put rfl rfl rfl (yx_ld0 sc_4 rfl (RW.below _) (Rd.el (hS.rd0 s1_.rd) he_enO hi28b) rfl) ?_
    refine LtK.put rfl rfl rfl (yv_fieldAddr fo_30_7 rfl) ?_
    refine LtK.put rfl rfl rfl (yv_load_box sc_27 rfl (RW.below _) hS hs0 trivial sg18_1) ?_
    refine LtK.put rfl rfl rfl (yv_move rfl) ?_
    obtain ⟨e29, hi31, H⟩ := bind_some H
    obtain ⟨j30, hi31a, hi31b, hi31c⟩ := idx_some hi31
    refine LtK.put rfl rfl rfl (yx_idx el_27 rfl rfl hi31a hi31c (Rd.el (hS.rd0 s6_.rd) he_enO hi31b)) ?_
    refine LtK.put rfl rfl rfl (yx_ld0 sc_4 rfl (RW.below _) (Rd.el (hS.rd0 s6_.rd) he_enO hi31b) rfl) ?_
    refine LtK.put rfl rfl rfl (yv_neqB (by kernel_rfl) rfl rfl) ?_
    refine LtK.nil ?_
    refine wpR_end (by kernel_rfl) ?_
    refine QH_seq_k hK25 ?_
    refine wpC_cond rfl (fun hb => ?_) (fun hb => ?_)
    rotate_left
    · replace H := cond_f H hb
      refine wpC_skip ?_
      refine QH_block_normal ?_
      refine QH_seq_k hK24 ?_
      refine wpC_region ?_
      refine wpS_quick 1 rfl ?_
      refine wpS_put rfl rfl rfl (yx_add rfl rfl) ?_
      refine wpS_quick 1 rfl ?_
      refine wpS_nil ?_
      exact QH_again (n, v20, (IntKind.wrap .i64 (v21 + 1))) (by repeat (first | exact Sub.nil | refine Sub.cons rfl ?_)) ⟨hS, H⟩ (Nat.lt_succ_self _)
    replace H := cond_t H hb
    refine wpC_seq_k (fun K hK32 => ?_)
    refine wpC_region ?_
    refine wpS_quick 1 rfl ?_
    refine wpS_nil ?_
    refine QH_seq_k hK32 ?_
    refine wpC_ret ?_
    refine QH_block_ret ?_
    refine QH_then_ret ?_
    refine QH_then_ret ?_
    refine QH_block_ret ?_
    refine QH_then_ret ?_
    refine QH_ret rfl (RV.tmp rfl RV.nil) rfl ?_
    obtain rfl := Option.some.inj H
    replace hS := hS.cut 0
    exact ⟨rfl, hS⟩
  replace H := cond_f H hb
  refine wpC_exit ?_
  refine QH_then_exit ?_
  refine QH_then_exit ?_
  refine QH_block_hit ?_
  refine QH_seq_k hK18 ?_
  refine wpC_seq_k (fun K hK33 => ?_)
  refine wpC_region ?_
  refine wpS_put rfl rfl rfl (yv_fieldAddr fo_30_8 rfl) ?_
  refine wpS_put rfl rfl rfl (yv_load_box sc_28 rfl (RW.here _) hS hs1 trivial sg19_1) ?_
  refine wpS_put rfl rfl rfl (yv_fieldAddr fo_30_8 rfl) ?_
  refine wpS_put rfl rfl rfl (yv_load_box sc_28 rfl (RW.here _) hS hs0 trivial sg19_1) ?_
  obtain ⟨r34, hm35, H⟩ := bind_some H
  refine wpS_call rfl rfl rfl rfl (by kernel_rfl) rfl (c_ref20_ints x0.next x1.next A2_ c2_ A7_ c7_ _ (SlI.of_rd s2_.k (hS.rd0 s2_.rd) (hS.blk0 s2_.blk)) (SlI.of_rd s7_.k (hS.rd0 s7_.rd) (hS.blk0 s7_.blk)) hm35) ?_
  rintro e w ⟨rfl, hN⟩; refine ⟨_, rfl, ?_⟩; have hB := hN.pure; have hS := hS.join hN; clear hN
  refine wpS_quick 1 rfl ?_
  refine wpS_case 86 rfl (fun hb => ?_) (fun hb => ?_)
  rotate_left
  · replace H := cond_f H hb
    refine wpS_quick 14 rfl ?_
    refine wpS_nil ?_
    refine QH_seq_k hK33 ?_
    refine wpC_ret ?_
    refine QH_ret rfl (RV.tmp rfl RV.nil) rfl ?_
    obtain rfl := Option.some.inj H
    replace hS := hS.cut 0
    exact ⟨rfl, hS⟩
  replace H := cond_t H hb
  refine wpS_put rfl rfl rfl (yv_fieldAddr fo_30_9 rfl) ?_
  refine wpS_put rfl rfl rfl (yv_load_box sc_28 rfl (RW.here _) hS hs1 trivial sg20_1) ?_
  refine wpS_put rfl rfl rfl (yv_fieldAddr fo_30_9 rfl) ?_
  refine wpS_put rfl rfl rfl (yv_load_box sc_28 rfl (RW.here _) hS hs0 trivial sg20_1) ?_
  obtain ⟨r36, hm37, H⟩ := bind_some H
  refine wpS_call rfl rfl rfl rfl (by kernel_rfl) rfl (c_ref20_ints x0.mtch x1.mtch A3_ c3_ A8_ c8_ _ (SlI.of_rd s3_.k (hS.rd0 s3_.rd) (hS.blk0 s3_.blk)) (SlI.of_rd s8_.k (hS.rd0 s8_.rd) (hS.blk0 s8_.blk)) hm37) ?_
  rintro e w ⟨rfl, hN⟩; refine ⟨_, rfl, ?_⟩; have hB := hN.pure; have hS := hS.join hN; clear hN
  refine wpS_quick 2 rfl ?_
  refine wpS_case 93 rfl (fun hb => ?_) (fun hb => ?_)
  rotate_left
  · replace H := cond_f H hb
    refine wpS_quick 7 rfl ?_
    refine wpS_nil ?_
    refine QH_seq_k hK33 ?_
    refine wpC_ret ?_
    refine QH_ret rfl (RV.tmp rfl RV.nil) rfl ?_
    obtain rfl := Option.some.inj H
    replace hS := hS.cut 0
    exact ⟨rfl, hS⟩
  replace H := cond_t H hb
  refine wpS_put rfl rfl rfl (yv_fieldAddr fo_30_10 rfl) ?_
  refine wpS_put rfl rfl rfl (yv_load_box sc_28 rfl (RW.here _) hS hs1 trivial sg21_1) ?_
  refine wpS_put rfl rfl rfl (yv_fieldAddr fo_30_10 rfl) ?_
  refine wpS_put rfl rfl rfl (yv_load_box sc_28 rfl (RW.here _) hS hs0 trivial sg21_1) ?_
  obtain ⟨r38, hm39, H⟩ := bind_some H
  refine wpS_call rfl rfl rfl rfl (by kernel_rfl) rfl (c_ref20_ints x0.caps x1.caps A4_ c4_ A9_ c9_ _ (SlI.of_rd s4_.k (hS.rd0 s4_.rd) (hS.blk0 s4_.blk)) (SlI.of_rd s9_.k (hS.rd0 s9_.rd) (hS.blk0 s9_.blk)) hm39) ?_
  rintro e w ⟨rfl, hN⟩; refine ⟨_, rfl, ?_⟩; have hB := hN.pure; have hS := hS.join hN; clear hN
  refine wpS_quick 2 rfl ?_
  refine wpS_nil ?_
  refine QH_seq_k hK33 ?_
  refine wpC_ret ?_
  refine QH_ret rfl (RV.tmp rfl RV.nil) rfl ?_
  obtain rfl := Option.some.inj H
  replace hS := hS.cut 0
  exact ⟨rfl, hS⟩
end Go.Proofs.YtenagnncpaabdaaGreat
/- The printed texts of this seat. -/
/- Tuples' changes, as plain numbers: what the laws of layer 12 ask. -/
namespace Go.Proofs.YtenagnncpaabdaaGreat
open Go Go.RowKit
set_option maxRecDepth 100000

/-- Up to an index terms are no greater than at the end. -/
theorem lastT_mono (t : Int) (l : List En) (h : logB t l = true) : t ≤ lastT t l := by
  induction l generalizing t with
  | nil => exact Int.le_refl _
  | cons e l ih =>
    simp only [logB, Bool.and_eq_true, decide_eq_true_eq] at h
    exact Int.le_trans h.1.2 (ih _ h.2)
theorem tupB_iff (t : Tu) : tupB t = true ↔ FineP t.snap ∧ (t.snap.index ≤ 1073740824 ∧ t.log.length ≤ 200 ∧ 0 ≤ t.vote ∧ t.vote ≤ 5 ∧ t.term ≤ 1073741824) ∧ logB t.snap.term t.log = true ∧ lastT t.snap.term t.log ≤ t.term := by
  unfold tupB
  simp only [Bool.and_eq_true, decide_eq_true_eq, fineB_iff, and_assoc]
/-- A state behind entries of a log that is right. -/
theorem allS_log (s : St) (l : List En) (hs : FineP s) (h : logB s.term l = true) (hi : s.index + l.length ≤ 1073741824) : (allS s l).index = s.index + l.length ∧ (allS s l).term = lastT s.term l := by
  induction l generalizing s with
  | nil => exact ⟨by simp [allS], rfl⟩
  | cons e l ih =>
    simp only [logB, Bool.and_eq_true, decide_eq_true_eq] at h
    rw [List.length_cons] at hi
    obtain ⟨h1, h2, _⟩ := next_parts s e hs (by omega) h.1.1
    have h3 := ih (nextS s e) (nextS_fine s e hs) (by rw [h2]; exact h.2) (by rw [h1]; omega)
    refine ⟨?_, ?_⟩
    · show (allS (nextS s e) l).index = _
      rw [h3.1, h1, List.length_cons]; omega
    · show (allS (nextS s e) l).term = _
      rw [h3.2, h2]; rfl
end Go.Proofs.YtenagnncpaabdaaGreat
/- What the references of entries and tuples compute, in plain terms. -/
namespace Go.Proofs.YtenagnncpaabdaaGreat
open Go Go.RowKit
set_option maxRecDepth 100000
theorem p_number (x : Int) : m_ref06_number x = some (numB x) := by
  unfold m_ref06_number numB
  by_cases h : 0 ≤ x <;> simp [h]
theorem p_Fine (x : St) : m_ref06_Fine x = some (fineB x) := by
  obtain ⟨i, t, s, l, f⟩ := x
  simp only [m_ref06_Fine, m_ref06_First, p_number, Option.bind_some, fineB, firstS, numB, St.mk.injEq, Bool.cond_not, Bool.cond_decide]
  cases f <;> (repeat' split) <;> simp_all <;> omega
theorem p_Right (x : En) : m_ref06_Right x = some (rightB x) := by
  obtain ⟨t, k, v⟩ := x
  simp only [m_ref06_Right, p_number, Option.bind_some, rightB, numB, Bool.cond_not, Bool.cond_decide]
  (repeat' split) <;> (refine congrArg some ?_; rw [Bool.eq_iff_iff]; simp only [decide_eq_true_eq, true_iff, Bool.false_eq_true, false_iff]; omega)
theorem p_Right12_l1 (x : Tu) (hl : x.log.length ≤ 1000000) : ∀ (m k n : Nat) (b : Bool) (t : Int), m = x.log.length - k → k ≤ x.log.length → m < n →
    m_ref12_Right_l1 x n b t k = some (logB t (x.log.drop k) && decide (lastT t (x.log.drop k) ≤ x.term ∧ 0 ≤ x.term ∧ x.term ≤ 1073741824)) := by
  intro m
  induction m with
  | zero =>
    intro k n b t hm hk hn
    obtain ⟨n, rfl⟩ : ∃ n', n = n' + 1 := ⟨n - 1, by omega⟩
    have hkl : k = x.log.length := by omega
    have hd : x.log.drop k = [] := List.drop_eq_nil_of_le (by omega)
    rw [m_ref12_Right_l1, hd]
    simp only [logB, Bool.cond_decide, if_neg (show ¬ ((k : Int) < (x.log.length : Int)) by omega), Bool.true_and]
    (repeat' split) <;> (refine congrArg some ?_; rw [Bool.eq_iff_iff]; simp only [decide_eq_true_eq, true_iff, Bool.false_eq_true, false_iff]; simp only [lastT]; omega)
  | succ m ih =>
    intro k n b t hm hk hn
    obtain ⟨n, rfl⟩ : ∃ n', n = n' + 1 := ⟨n - 1, by omega⟩
    obtain ⟨e, he, hd⟩ := drop_step (show k < x.log.length by omega)
    have hi := ih (k + 1) n b e.term (by omega) (by omega) (by omega)
    rw [m_ref12_Right_l1, hd]
    simp only [Bool.cond_decide, if_pos (show ((k : Int) < (x.log.length : Int)) by omega), idx_nat, he, Option.bind_some, p_Right, Bool.cond_not, logB, lastT]
    rw [w64i (by omega), show ((k : Int) + 1) = ((k + 1 : Nat) : Int) by omega, hi]
    cases hr : rightB e with
    | false => rfl
    | true =>
      simp only [cond_true, Bool.true_and]
      by_cases h : e.term < t
      · rw [if_pos h, decide_eq_false (show ¬ (t ≤ e.term) by omega)]; rfl
      · rw [if_neg h, decide_eq_true (show t ≤ e.term by omega)]; rfl
theorem p_Right12 (x : Tu) : m_ref12_Right x = some (tupB x) := by
  have key : tupB x = (fineB x.snap && decide (x.snap.index ≤ 1073740824 ∧ x.log.length ≤ 200 ∧ 0 ≤ x.vote ∧ x.vote ≤ 5) && (logB x.snap.term x.log && decide (lastT x.snap.term x.log ≤ x.term ∧ 0 ≤ x.term ∧ x.term ≤ 1073741824))) := by
    rw [Bool.eq_iff_iff]
    unfold tupB
    simp only [Bool.and_eq_true, decide_eq_true_eq]
    constructor
    · rintro ⟨⟨⟨h1, h2⟩, h3⟩, h4⟩
      have h5 := lastT_mono _ _ h3
      have h6 : 0 ≤ x.snap.term := by
        rcases (fineB_iff _).1 h1 with h | h
        · rw [h]; decide
        · omega
      exact ⟨⟨h1, by omega⟩, h3, by omega⟩
    · rintro ⟨⟨h1, h2⟩, h3, h4⟩
      exact ⟨⟨⟨h1, by omega⟩, h3⟩, by omega⟩
  rw [key]
  simp only [m_ref12_Right, p_Fine, Option.bind_some, Bool.cond_not, Bool.cond_decide]
  cases hf : fineB x.snap with
  | false => rfl
  | true =>
    simp only [cond_true, Bool.true_and]
    by_cases h1 : x.snap.index ≤ 1073740824 ∧ x.log.length ≤ 200 ∧ 0 ≤ x.vote ∧ x.vote ≤ 5
    · rw [if_neg (by omega), if_neg (by omega), if_neg (by omega), if_neg (by omega), decide_eq_true h1, Bool.true_and]
      have := p_Right12_l1 x (by omega) x.log.length 0 fuelN false x.snap.term (by omega) (by omega) (by unfold fuelN; omega)
      exact this
    · rw [decide_eq_false h1, Bool.false_and]
      (repeat' split) <;> first | rfl | (exfalso; omega)
theorem p_Same_l1 (a b : List En) (hl : a.length ≤ 1000000) (hab : a.length = b.length) : ∀ (m k n : Nat) (v : Bool), m = a.length - k → k ≤ a.length → m < n → m_ref06_Same_l1 a b n v k = some (decide (a.drop k = b.drop k)) := by
  intro m
  induction m with
  | zero =>
    intro k n v hm hk hn
    obtain ⟨n, rfl⟩ : ∃ n', n = n' + 1 := ⟨n - 1, by omega⟩
    rw [m_ref06_Same_l1, List.drop_eq_nil_of_le (by omega), List.drop_eq_nil_of_le (by omega)]
    simp only [Bool.cond_decide, if_neg (show ¬ ((k : Int) < (a.length : Int)) by omega)]
    rfl
  | succ m ih =>
    intro k n v hm hk hn
    obtain ⟨n, rfl⟩ : ∃ n', n = n' + 1 := ⟨n - 1, by omega⟩
    obtain ⟨e, he, hd⟩ := drop_step (show k < a.length by omega)
    obtain ⟨f, hf, hd2⟩ := drop_step (show k < b.length by omega)
    rw [m_ref06_Same_l1, hd, hd2]
    simp only [Bool.cond_decide, if_pos (show ((k : Int) < (a.length : Int)) by omega), idx_nat, he, hf, Option.bind_some, en_eq, Bool.cond_not]
    rw [w64i (by omega), show ((k : Int) + 1) = ((k + 1 : Nat) : Int) by omega, ih (k + 1) n v (by omega) (by omega) (by omega)]
    by_cases h : e = f
    · subst h; rw [if_pos rfl]; congr 1; rw [Bool.eq_iff_iff]; simp
    · rw [if_neg h]; congr 1; rw [Bool.eq_iff_iff]; simp [h]
theorem p_Same (a b : List En) (hl : a.length ≤ 1000000) : m_ref06_Same a b = some (decide (a = b)) := by
  unfold m_ref06_Same
  by_cases h : a.length = b.length
  · simp only [Bool.cond_decide, if_neg (show ¬ ((a.length : Int) ≠ (b.length : Int)) by omega)]
    have := p_Same_l1 a b hl h a.length 0 fuelN false (by omega) (by omega) (by unfold fuelN; omega)
    simpa using this
  · simp only [Bool.cond_decide, if_pos (show ((a.length : Int) ≠ (b.length : Int)) by omega)]
    rw [decide_eq_false (fun h' => h (by rw [h']))]
theorem p_Same12 (x y : Tu) (hl : x.log.length ≤ 1000000) : m_ref12_Same x y = some (decide (x = y)) := by
  obtain ⟨s, l, t, v⟩ := x; obtain ⟨s2, l2, t2, v2⟩ := y
  simp only [m_ref12_Same, snap_eq, p_Same l l2 hl, Option.bind_some, Bool.cond_decide, Tu.mk.injEq]
  by_cases h1 : s = s2 <;> by_cases h2 : t = t2 <;> by_cases h3 : v = v2 <;> simp [h1, h2, h3]
def bdT (x : Tu) : Prop := x.log.length ≤ 1000000 ∧ -2000000000000 ≤ x.snap.index ∧ x.snap.index ≤ 2000000000000
theorem q_Right (x : Tu) (h : bdT x) : m_tuple_Right x = some (tupB x) := by unfold m_tuple_Right; rw [okT_iff.2 h]; rfl
theorem q_State_yes (x : Tu) (k : Nat) (h : bdT x) (hk : k ≤ x.log.length) : m_tuple_State x (x.snap.index + k) = some (allS x.snap (x.log.take k), true) := by
  unfold m_tuple_State
  rw [okT_iff.2 h, decide_eq_true (by omega)]
  have : (x.snap.index + (k : Int) - x.snap.index).toNat = k := by omega
  rw [this]; rfl
theorem q_State_no (x : Tu) (i : Int) (h : bdT x) (hi : i < x.snap.index ∨ x.snap.index + x.log.length < i) : m_tuple_State x i = some (⟨0, 0, 0, 0, false⟩, false) := by
  unfold m_tuple_State
  rw [okT_iff.2 h, decide_eq_false (by omega)]; rfl
theorem p_tLast (x : Tu) (h : bdT x) : m_tuple_Last x = some x.last := by unfold m_tuple_Last Tu.last; obtain ⟨h1, h2, h3⟩ := h; rw [w64i (by omega)]
theorem p_Last12 (x : Tu) (h : bdT x) : m_ref12_Last x = some x.last := p_tLast x h
theorem p_Next (s : St) (e : En) : m_ref06_Next s e = some (nextS s e) := by
  simp only [m_ref06_Next, p_Right, p_Fine, Option.bind_some]
  by_cases hc : rightB e = true ∧ fineB s = true ∧ s.index < 1073741824
  · obtain ⟨hr, hf, hi⟩ := hc
    have hn : nextS s e = deedS e.kind e.value { s with index := s.index + 1, term := e.term } := by unfold nextS; rw [if_pos ⟨hr, hf, hi⟩]
    have hb : 0 ≤ s.index ∧ 0 ≤ s.sum ∧ s.sum ≤ 1073741824 := by
      rcases (fineB_iff s).1 hf with h | h
      · rw [h]; decide
      · omega
    have hv : 0 ≤ e.value ∧ e.value ≤ 1073741824 := by
      unfold rightB at hr; simp only [decide_eq_true_eq] at hr; omega
    have w0 : IntKind.wrap .i64 (s.index + 1) = s.index + 1 := w64i (by omega)
    have w1 : IntKind.wrap .i64 (31 * s.sum) = 31 * s.sum := w64i (by omega)
    have w2 : IntKind.wrap .i64 (31 * s.sum + e.value) = 31 * s.sum + e.value := w64i (by omega)
    have w3 : IntKind.wrap .i64 (31 * s.sum + e.value + 1) = 31 * s.sum + e.value + 1 := w64i (by omega)
    rw [hn, hr, hf, w0, w1, w2, w3, Int.tmod_eq_emod_of_nonneg (by omega), decide_eq_false (show ¬ (1073741824 ≤ s.index) by omega)]
    simp only [Bool.not_true, cond_false, Bool.cond_decide]
    unfold deedS
    by_cases k1 : e.kind = 1
    · rw [if_pos k1, if_pos k1]
    · rw [if_neg k1, if_neg k1]
      by_cases k2 : e.kind = 2
      · rw [if_pos k2, if_pos k2]
      · rw [if_neg k2, if_neg k2]
        by_cases k3 : e.kind = 3
        · rw [if_pos k3, if_pos k3]
          cases hF : s.final <;> rfl
        · rw [if_neg k3, if_neg k3]
          by_cases k4 : e.kind = 4
          · rw [if_pos k4, if_pos k4]
          · rw [if_neg k4, if_neg k4]
  · have hn : nextS s e = s := by unfold nextS; rw [if_neg hc]
    rw [hn]
    cases hr : rightB e with
    | false => rfl
    | true =>
      cases hf : fineB s with
      | false => rfl
      | true =>
        rw [decide_eq_true (show 1073741824 ≤ s.index by
          have : ¬ (s.index < 1073741824) := fun h => hc ⟨hr, hf, h⟩
          omega)]
        rfl
theorem p_All_l1 (l : List En) (hl : l.length ≤ 1000000) : ∀ (m k n : Nat) (s : St), m = l.length - k → k ≤ l.length → m < n → m_ref06_All_l1 l n k s.index s.term s.sum s.level s.final = some (allS s (l.drop k)) := by
  intro m
  induction m with
  | zero =>
    intro k n s hm hk hn
    obtain ⟨n, rfl⟩ : ∃ n', n = n' + 1 := ⟨n - 1, by omega⟩
    rw [m_ref06_All_l1, List.drop_eq_nil_of_le (by omega)]
    simp only [Bool.cond_decide, if_neg (show ¬ ((k : Int) < (l.length : Int)) by omega)]
    rfl
  | succ m ih =>
    intro k n s hm hk hn
    obtain ⟨n, rfl⟩ : ∃ n', n = n' + 1 := ⟨n - 1, by omega⟩
    obtain ⟨e, he, hd⟩ := drop_step (show k < l.length by omega)
    rw [m_ref06_All_l1, hd]
    simp only [Bool.cond_decide, if_pos (show ((k : Int) < (l.length : Int)) by omega), idx_nat, he, Option.bind_some]
    have : m_ref06_Next ⟨s.index, s.term, s.sum, s.level, s.final⟩ e = some (nextS s e) := p_Next s e
    rw [this, Option.bind_some, w64i (by omega), show ((k : Int) + 1) = ((k + 1 : Nat) : Int) by omega, ih (k + 1) n (nextS s e) (by omega) (by omega) (by omega)]
    rfl
theorem p_All (s : St) (l : List En) (hl : l.length ≤ 1000000) : m_ref06_All s l = some (allS s l) := p_All_l1 l hl l.length 0 fuelN s (by omega) (by omega) (by unfold fuelN; omega)
theorem p_State12 (x : Tu) (i : Int) (h : bdT x) : m_ref12_State x i = m_tuple_State x i := by
  have h1 := h.1
  have h2 := h.2
  unfold m_ref12_State
  rw [p_Last12 x h]
  simp only [Option.bind_some, Bool.cond_decide, Tu.last]
  by_cases h3 : i < x.snap.index
  · rw [if_pos h3, q_State_no x i h (.inl h3)]
  · rw [if_neg h3]
    by_cases h4 : x.snap.index + (x.log.length : Int) < i
    · rw [if_pos h4, q_State_no x i h (.inr h4)]
    · rw [if_neg h4]
      obtain ⟨k, hk⟩ : ∃ k : Nat, i = x.snap.index + (k : Int) := ⟨(i - x.snap.index).toNat, by omega⟩
      have w1 : IntKind.wrap .i64 (i - x.snap.index) = (k : Int) := by rw [w64i (by omega)]; omega
      rw [w1, takeI_nat _ _ (by omega), Option.bind_some, p_All _ _ (by rw [List.length_take]; omega), hk, q_State_yes x k h (by omega)]
      rfl
end Go.Proofs.YtenagnncpaabdaaGreat
/- Cores and messages, in plain terms. -/
namespace Go.Proofs.YtenagnncpaabdaaGreat
open Go Go.RowKit
set_option maxRecDepth 100000
/-- A sentence as a truth value. -/
noncomputable def cdec (p : Prop) : Bool := @decide p (Classical.propDecidable p)
theorem cdec_t {p : Prop} (h : p) : cdec p = true := @decide_eq_true p (Classical.propDecidable p) h
theorem cdec_f {p : Prop} (h : ¬ p) : cdec p = false := @decide_eq_false p (Classical.propDecidable p) h
theorem cdec_iff {p : Prop} : cdec p = true ↔ p := ⟨fun h => @of_decide_eq_true p (Classical.propDecidable p) h, cdec_t⟩
theorem cdec_congr {p q : Prop} (h : p ↔ q) : cdec p = cdec q := by rw [propext h]
theorem dec_cdec {p : Prop} [Decidable p] : decide p = cdec p := by
  by_cases h : p
  · rw [cdec_t h, decide_eq_true h]
  · rw [cdec_f h, decide_eq_false h]
def InB (l : List Int) (lo hi : Int) : Prop := ∀ x ∈ l, lo ≤ x ∧ x ≤ hi
theorem InB_nil {lo hi : Int} : InB [] lo hi := fun _ h => by cases h
theorem InB_cons {x : Int} {l : List Int} {lo hi : Int} : InB (x :: l) lo hi ↔ (lo ≤ x ∧ x ≤ hi) ∧ InB l lo hi := by
  unfold InB
  constructor
  · intro h; exact ⟨h x (by simp), fun y hy => h y (by simp [hy])⟩
  · rintro ⟨h1, h2⟩ y hy
    rcases List.mem_cons.1 hy with rfl | hy
    · exact h1
    · exact h2 y hy
theorem InB.get {l : List Int} {lo hi : Int} (h : InB l lo hi) {i : Nat} {x : Int} (hx : l[i]? = some x) : lo ≤ x ∧ x ≤ hi := h x (List.mem_of_getElem? hx)
theorem InB.set {l : List Int} {lo hi : Int} (h : InB l lo hi) {i : Nat} {x : Int} (hx : lo ≤ x ∧ x ≤ hi) : InB (l.set i x) lo hi := fun y hy => by
  rcases List.mem_or_eq_of_mem_set hy with h1 | rfl
  · exact h y h1
  · exact hx
theorem p_within (x lo hi : Int) : m_msg_within x lo hi = some (cdec (lo ≤ x ∧ x ≤ hi)) := by
  unfold m_msg_within
  rw [Bool.cond_decide]
  by_cases h : lo ≤ x
  · rw [if_pos h, dec_cdec]; congr 1; exact cdec_congr ⟨fun h2 => ⟨h, h2⟩, fun h2 => h2.2⟩
  · rw [if_neg h, cdec_f (fun h2 => h h2.1)]
theorem p_each_l1 (l : List Int) (lo hi : Int) (hl : l.length ≤ 1000000) : ∀ (m k n : Nat) (v : Int), m = l.length - k → k ≤ l.length → m < n → m_msg_each_l1 l lo hi n v k = some (cdec (InB (l.drop k) lo hi)) := by
  intro m
  induction m with
  | zero =>
    intro k n v hm hk hn
    obtain ⟨n, rfl⟩ : ∃ n', n = n' + 1 := ⟨n - 1, by omega⟩
    rw [m_msg_each_l1, List.drop_eq_nil_of_le (by omega), cdec_t InB_nil]
    simp only [Bool.cond_decide, if_neg (show ¬ ((k : Int) < (l.length : Int)) by omega)]
    rfl
  | succ m ih =>
    intro k n v hm hk hn
    obtain ⟨n, rfl⟩ : ∃ n', n = n' + 1 := ⟨n - 1, by omega⟩
    obtain ⟨e, he, hd⟩ := drop_step (show k < l.length by omega)
    rw [m_msg_each_l1, hd]
    simp only [Bool.cond_decide, if_pos (show ((k : Int) < (l.length : Int)) by omega), idx_nat, he, Option.bind_some, p_within]
    rw [w64i (by omega), show ((k : Int) + 1) = ((k + 1 : Nat) : Int) by omega, ih (k + 1) n v (by omega) (by omega) (by omega)]
    by_cases h : lo ≤ e ∧ e ≤ hi
    · rw [cdec_t h]; show some _ = _; congr 1; exact cdec_congr ⟨fun h2 => InB_cons.2 ⟨h, h2⟩, fun h2 => (InB_cons.1 h2).2⟩
    · rw [cdec_f h, cdec_f (fun h2 => h (InB_cons.1 h2).1), decide_eq_true (show (0 : Int) ≤ (k : Int) by omega)]; rfl
theorem p_each (l : List Int) (n lo hi : Int) (hl : l.length ≤ 1000000) : m_msg_each l n lo hi = some (cdec ((l.length : Int) = n ∧ InB l lo hi)) := by
  unfold m_msg_each
  rw [Bool.cond_decide]
  by_cases h : (l.length : Int) = n
  · rw [if_pos h]
    have := p_each_l1 l lo hi hl l.length 0 fuelN 0 (by omega) (by omega) (by unfold fuelN; omega)
    rw [show ((0 : Nat) : Int) = 0 from rfl] at this
    rw [this, List.drop_zero]
    congr 1; exact cdec_congr ⟨fun h2 => ⟨h, h2⟩, fun h2 => h2.2⟩
  · rw [if_neg h, cdec_f (fun h2 => h h2.1)]
/-- The state at an index. -/
def stOf (t : Tu) (i : Int) : Option St := if t.snap.index ≤ i ∧ i ≤ t.last then some (allS t.snap (t.log.take (i - t.snap.index).toNat)) else none
theorem q_State (x : Tu) (i : Int) (h : bdT x) : m_tuple_State x i = some ((stOf x i).getD ⟨0, 0, 0, 0, false⟩, (stOf x i).isSome) := by
  unfold stOf Tu.last
  by_cases hi : x.snap.index ≤ i ∧ i ≤ x.snap.index + x.log.length
  · rw [if_pos hi]
    obtain ⟨k, hk⟩ : ∃ k : Nat, i = x.snap.index + (k : Int) := ⟨(i - x.snap.index).toNat, by omega⟩
    rw [hk, q_State_yes x k h (by omega), show (x.snap.index + (k : Int) - x.snap.index).toNat = k by omega]
    rfl
  · rw [if_neg hi, q_State_no x i h (by omega)]; rfl
/-- A core that may be. -/
structure RightC (x : Co) : Prop where
  n : 1 ≤ x.n ∧ x.n ≤ 5
  id : 1 ≤ x.id ∧ x.id ≤ x.n
  role : x.role ≤ 2
  bin : 1 ≤ x.binary ∧ x.binary ≤ 2
  tup : tupB x.tuple = true
  st : stOf x.tuple x.commit = some x.applied
  lv : (x.votes.length : Int) = x.n
  ln : (x.next.length : Int) = x.n
  lm : (x.mtch.length : Int) = x.n
  lc : (x.caps.length : Int) = x.n
  next : InB x.next 1 (x.tuple.last + 1)
  mtch : InB x.mtch 0 x.tuple.last
  caps : InB x.caps 0 2
  own : x.caps[(x.id - 1).toNat]? = some x.binary
  lead : x.role = 0 ∨ (0 < x.tuple.term ∧ x.tuple.vote = x.id)
noncomputable def rightC (x : Co) : Bool := cdec (RightC x)
/-- A core that is not too great. -/
structure BdC (x : Co) : Prop where
  tup : bdT x.tuple
  lv : x.votes.length ≤ 1000000
  ln : x.next.length ≤ 1000000
  lm : x.mtch.length ≤ 1000000
  lc : x.caps.length ≤ 1000000
theorem own_get (x : Co) (h1 : 1 ≤ x.n ∧ x.n ≤ 5) (h2 : 1 ≤ x.id ∧ x.id ≤ x.n) (h3 : (x.caps.length : Int) = x.n) : ∃ e, idx x.caps (IntKind.wrap .i64 (x.id - 1)) = some e ∧ x.caps[(x.id - 1).toNat]? = some e := by
  have hw : IntKind.wrap .i64 (x.id - 1) = (((x.id - 1).toNat : Nat) : Int) := by rw [w64i (by omega)]; omega
  obtain ⟨e, he, _⟩ := drop_step (show (x.id - 1).toNat < x.caps.length by omega)
  exact ⟨e, by rw [hw, idx_nat, he], he⟩
theorem last_bd {t : Tu} (h : bdT t) : -3000000000000 ≤ t.last ∧ t.last ≤ 3000000000000 := by
  obtain ⟨h1, h2, h3⟩ := h
  unfold Tu.last; omega
theorem p_mRight (x : Co) (h : BdC x) : m_msg_Right x = some (rightC x) := by
  have hlb := last_bd h.tup
  have hw : IntKind.wrap .i64 (x.tuple.last + 1) = x.tuple.last + 1 := w64i (by omega)
  simp only [m_msg_Right, p_tLast x.tuple h.tup, p_within, q_Right x.tuple h.tup, q_State x.tuple x.commit h.tup, p_each x.next _ _ _ h.ln, p_each x.mtch _ _ _ h.lm, p_each x.caps _ _ _ h.lc, Option.bind_some, hw, snap_eq]
  unfold rightC
  by_cases c1 : 1 ≤ x.n ∧ x.n ≤ 5
  case neg => rw [cdec_f c1, cdec_f (p := RightC x) fun h => c1 h.n]; rfl
  by_cases c2 : 1 ≤ x.id ∧ x.id ≤ x.n
  case neg => rw [cdec_t c1, cdec_f c2, cdec_f (p := RightC x) fun h => c2 h.id]; rfl
  by_cases c3 : x.role ≤ 2
  case neg => rw [cdec_t c1, cdec_t c2, decide_eq_false c3, cdec_f (p := RightC x) fun h => c3 h.role]; rfl
  by_cases c4 : 1 ≤ x.binary ∧ x.binary ≤ 2
  case neg => rw [cdec_t c1, cdec_t c2, decide_eq_true c3, cdec_f c4, cdec_f (p := RightC x) fun h => c4 h.bin]; rfl
  rw [cdec_t c1, cdec_t c2, decide_eq_true c3, cdec_t c4]
  simp only [cond_true, Bool.not_true, cond_false]
  cases c5 : tupB x.tuple
  case false => rw [cdec_f (p := RightC x) fun h => by have h2 := h.tup; rw [c5] at h2; cases h2]; rfl
  simp only [cond_true, Bool.not_true, cond_false]
  cases c6 : stOf x.tuple x.commit with
  | none => rw [cdec_f (p := RightC x) fun h => by rw [h.st] at c6; cases c6]; rfl
  | some s =>
    simp only [Option.isSome_some, Option.getD_some, cond_true]
    by_cases c7 : s = x.applied
    case neg => rw [decide_eq_false c7, cdec_f (p := RightC x) fun h => c7 (by have := h.st; rw [c6] at this; exact Option.some.inj this)]; rfl
    rw [decide_eq_true c7]
    simp only [cond_true, Bool.not_true, cond_false]
    by_cases c8 : (x.votes.length : Int) = x.n
    case neg => rw [decide_eq_false c8, cdec_f (p := RightC x) fun h => c8 h.lv]; rfl
    by_cases c9 : (x.next.length : Int) = x.n ∧ InB x.next 1 (x.tuple.last + 1)
    case neg => rw [decide_eq_true c8, cdec_f c9, cdec_f (p := RightC x) fun h => c9 ⟨h.ln, h.next⟩]; rfl
    by_cases c10 : (x.mtch.length : Int) = x.n ∧ InB x.mtch 0 x.tuple.last
    case neg => rw [decide_eq_true c8, cdec_t c9, cdec_f c10, cdec_f (p := RightC x) fun h => c10 ⟨h.lm, h.mtch⟩]; rfl
    by_cases c11 : (x.caps.length : Int) = x.n ∧ InB x.caps 0 2
    case neg => rw [decide_eq_true c8, cdec_t c9, cdec_t c10, cdec_f c11, cdec_f (p := RightC x) fun h => c11 ⟨h.lc, h.caps⟩]; rfl
    rw [decide_eq_true c8, cdec_t c9, cdec_t c10, cdec_t c11]
    obtain ⟨e, he, he2⟩ := own_get x c1 c2 c11.1
    simp only [cond_true, Bool.not_true, cond_false, Option.bind_some, he]
    by_cases c12 : e = x.binary
    case neg => rw [decide_eq_false c12, cdec_f (p := RightC x) fun h => c12 (by have := h.own; rw [he2] at this; exact Option.some.inj this)]; rfl
    rw [decide_eq_true c12]
    simp only [cond_true, Bool.not_true, cond_false, Bool.cond_decide]
    subst c12
    subst c7
    by_cases c13 : x.role = 0
    · rw [if_pos c13, cdec_t (p := RightC x) ⟨c1, c2, c3, c4, c5, c6, c8, c9.1, c10.1, c11.1, c9.2, c10.2, c11.2, he2, .inl c13⟩]
    · rw [if_neg c13]
      by_cases c14 : 0 < x.tuple.term
      · rw [if_pos c14]
        by_cases c15 : x.tuple.vote = x.id
        · rw [decide_eq_true c15, cdec_t (p := RightC x) ⟨c1, c2, c3, c4, c5, c6, c8, c9.1, c10.1, c11.1, c9.2, c10.2, c11.2, he2, .inr ⟨c14, c15⟩⟩]; rfl
        · rw [decide_eq_false c15, cdec_f (p := RightC x) fun h => by rcases h.lead with h | h; exact c13 h; exact c15 h.2]; rfl
      · rw [if_neg c14, cdec_f (p := RightC x) fun h => by rcases h.lead with h | h; exact c13 h; exact c14 h.1]
theorem p_mOwn (x : Co) (h : BdC x) : m_msg_Own x = some x := by
  have h1 := h.tup.1
  have h2 := h.lv
  have h3 := h.ln
  have h4 := h.lm
  have h5 := h.lc
  simp only [m_msg_Own, m_tuple_Own, m_slices_Clone___api_Entry_api_Entry_, m_slices_Clone___bool_bool_, m_slices_Clone___int_int_, Option.bind_some, fewI_ok _ (show x.tuple.log.length ≤ 1000000000 by omega), fewI_ok _ (show x.votes.length ≤ 1000000000 by omega), fewI_ok _ (show x.next.length ≤ 1000000000 by omega), fewI_ok _ (show x.mtch.length ≤ 1000000000 by omega), fewI_ok _ (show x.caps.length ≤ 1000000000 by omega)]
theorem p_ints_l1 (a b : List Int) (hl : a.length ≤ 1000000) (hab : a.length = b.length) : ∀ (m k n : Nat) (v : Bool), m = a.length - k → k ≤ a.length → m < n → m_ref20_ints_l1 a b n v k = some (decide (a.drop k = b.drop k)) := by
  intro m
  induction m with
  | zero =>
    intro k n v hm hk hn
    obtain ⟨n, rfl⟩ : ∃ n', n = n' + 1 := ⟨n - 1, by omega⟩
    rw [m_ref20_ints_l1, List.drop_eq_nil_of_le (by omega), List.drop_eq_nil_of_le (by omega)]
    simp only [Bool.cond_decide, if_neg (show ¬ ((k : Int) < (a.length : Int)) by omega)]
    rfl
  | succ m ih =>
    intro k n v hm hk hn
    obtain ⟨n, rfl⟩ : ∃ n', n = n' + 1 := ⟨n - 1, by omega⟩
    obtain ⟨e, he, hd⟩ := drop_step (show k < a.length by omega)
    obtain ⟨f, hf, hd2⟩ := drop_step (show k < b.length by omega)
    rw [m_ref20_ints_l1, hd, hd2]
    simp only [Bool.cond_decide, if_pos (show ((k : Int) < (a.length : Int)) by omega), idx_nat, he, hf, Option.bind_some]
    rw [w64i (by omega), show ((k : Int) + 1) = ((k + 1 : Nat) : Int) by omega, ih (k + 1) n v (by omega) (by omega) (by omega)]
    by_cases h : e = f
    · subst h; rw [if_neg (fun h => h rfl)]; congr 1; rw [Bool.eq_iff_iff]; simp
    · rw [if_pos h]; congr 1; rw [Bool.eq_iff_iff]; simp [h]
theorem p_ints (a b : List Int) (hl : a.length ≤ 1000000) : m_ref20_ints a b = some (decide (a = b)) := by
  unfold m_ref20_ints
  by_cases h : a.length = b.length
  · simp only [Bool.cond_decide, if_neg (show ¬ ((a.length : Int) ≠ (b.length : Int)) by omega)]
    have := p_ints_l1 a b hl h a.length 0 fuelN false (by omega) (by omega) (by unfold fuelN; omega)
    simpa using this
  · simp only [Bool.cond_decide, if_pos (show ((a.length : Int) ≠ (b.length : Int)) by omega)]
    rw [decide_eq_false (fun h' => h (by rw [h']))]
theorem p_Same20_l1 (x y : Co) (h : BdC x) (hab : x.votes.length = y.votes.length) : ∀ (m k n : Nat) (v : Bool), m = x.votes.length - k → k ≤ x.votes.length → m < n → m_ref20_Same_l1 x y n v k = some (decide (x.votes.drop k = y.votes.drop k ∧ x.next = y.next ∧ x.mtch = y.mtch ∧ x.caps = y.caps)) := by
  have hv := h.lv
  intro m
  induction m with
  | zero =>
    intro k n v hm hk hn
    obtain ⟨n, rfl⟩ : ∃ n', n = n' + 1 := ⟨n - 1, by omega⟩
    rw [m_ref20_Same_l1, List.drop_eq_nil_of_le (by omega), List.drop_eq_nil_of_le (by omega)]
    simp only [Bool.cond_decide, if_neg (show ¬ ((k : Int) < (x.votes.length : Int)) by omega), p_ints _ _ h.ln, p_ints _ _ h.lm, p_ints _ _ h.lc, Option.bind_some]
    (repeat' split) <;> (congr 1; rw [Bool.eq_iff_iff]; simp_all)
  | succ m ih =>
    intro k n v hm hk hn
    obtain ⟨n, rfl⟩ : ∃ n', n = n' + 1 := ⟨n - 1, by omega⟩
    obtain ⟨e, he, hd⟩ := drop_step (show k < x.votes.length by omega)
    obtain ⟨f, hf, hd2⟩ := drop_step (show k < y.votes.length by omega)
    rw [m_ref20_Same_l1, hd, hd2]
    simp only [Bool.cond_decide, if_pos (show ((k : Int) < (x.votes.length : Int)) by omega), idx_nat, he, hf, Option.bind_some]
    rw [w64i (by omega), show ((k : Int) + 1) = ((k + 1 : Nat) : Int) by omega, ih (k + 1) n v (by omega) (by omega) (by omega)]
    by_cases h : e = f
    · subst h; rw [if_neg (fun h => h rfl)]; congr 1; rw [Bool.eq_iff_iff]; simp
    · rw [if_pos h]; congr 1; rw [Bool.eq_iff_iff]; simp [h]
theorem p_Same20 (x y : Co) (h : BdC x) : m_ref20_Same x y = some (decide (x = y)) := by
  have hv := h.lv
  obtain ⟨a1, a2, a3, a4, a5, a6, a7, a8, a9, a10, a11⟩ := x
  obtain ⟨b1, b2, b3, b4, b5, b6, b7, b8, b9, b10, b11⟩ := y
  simp only [m_ref20_Same, p_Same12 a5 b5 h.tup.1, snap_eq, Option.bind_some, Bool.cond_decide, Co.mk.injEq, Bool.cond_not]
  by_cases c1 : a1 = b1
  case neg => simp [c1]
  by_cases c2 : a2 = b2
  case neg => simp [c2]
  by_cases c3 : a3 = b3
  case neg => simp [c3]
  by_cases c4 : a4 = b4
  case neg => simp [c4]
  by_cases c5 : a5 = b5
  case neg => simp [c5]
  by_cases c6 : a6 = b6
  case neg => simp [c6]
  by_cases c7 : a7 = b7
  case neg => simp [c7]
  by_cases c8 : a8.length = b8.length
  case neg =>
    have : a8 ≠ b8 := fun h => c8 (by rw [h])
    simp [c8, this]
    intros; omega
  have := p_Same20_l1 ⟨a1, a2, a3, a4, a5, a6, a7, a8, a9, a10, a11⟩ ⟨b1, b2, b3, b4, b5, b6, b7, b8, b9, b10, b11⟩ h c8 a8.length 0 fuelN false (by simp) (by omega) (by dsimp only at hv; unfold fuelN; omega)
  dsimp only at this
  rw [show ((0 : Nat) : Int) = 0 from rfl] at this
  rw [this]
  subst c1; subst c2; subst c3; subst c4; subst c5; subst c6; subst c7
  simp [c8]
/-- What is too great. -/
theorem p_Great_no (x : Co) (h : m_ref20_Great x = some false) : BdC x ∧ x.votes.length ≤ 9 ∧ x.next.length ≤ 9 ∧ x.mtch.length ≤ 9 ∧ x.caps.length ≤ 9 ∧ x.tuple.log.length ≤ 250 := by
  unfold m_ref20_Great m_ref12_Great at h
  simp only [Option.bind_some, Bool.cond_decide] at h
  repeat' split at h
  all_goals first | (cases h; done) | skip
  simp only [Option.some.injEq, decide_eq_false_iff_not] at h
  refine ⟨⟨⟨by omega, by omega, by omega⟩, by omega, by omega, by omega, by omega⟩, by omega, by omega, by omega, by omega, by omega⟩
theorem p_Great_some (x : Co) : ∃ b, m_ref20_Great x = some b := by
  unfold m_ref20_Great m_ref12_Great
  simp only [Option.bind_some, Bool.cond_decide]
  repeat' split
  all_goals exact ⟨_, rfl⟩
/-- A core that may be is not too great. -/
theorem RightC.bd {x : Co} (h : RightC x) : BdC x := by
  have h1 := tupB_bd _ h.tup
  have := h.n
  have := h.lv
  have := h.ln
  have := h.lm
  have := h.lc
  exact ⟨⟨by omega, h1.1, by omega⟩, by omega, by omega, by omega, by omega⟩
theorem p_State12' (x : Tu) (i : Int) (h : bdT x) : m_ref12_State x i = some ((stOf x i).getD ⟨0, 0, 0, 0, false⟩, (stOf x i).isSome) := by rw [p_State12 x i h, q_State x i h]
theorem p_Right20_l1 (x : Co) (hn : 1 ≤ x.n ∧ x.n ≤ 5) (hi : 1 ≤ x.id ∧ x.id ≤ x.n) (h2 : (x.next.length : Int) = x.n) (h3 : (x.mtch.length : Int) = x.n) (h4 : (x.caps.length : Int) = x.n) (hb : bdT x.tuple) : ∀ (m k n : Nat) (b : Bool), m = x.caps.length - k → k ≤ x.caps.length → m < n →
    m_ref20_Right_l1 x x.tuple.last n b k = some (cdec (InB (x.next.drop k) 1 (x.tuple.last + 1) ∧ InB (x.mtch.drop k) 0 x.tuple.last ∧ InB (x.caps.drop k) 0 2 ∧ x.caps[(x.id - 1).toNat]? = some x.binary ∧ (x.role = 0 ∨ (0 < x.tuple.term ∧ x.tuple.vote = x.id)))) := by
  have hlb := last_bd hb
  have hw : IntKind.wrap .i64 (x.tuple.last + 1) = x.tuple.last + 1 := w64i (by omega)
  obtain ⟨e0, he0, he1⟩ := own_get x hn hi h4
  intro m
  induction m with
  | zero =>
    intro k n b hm hk hn'
    obtain ⟨n, rfl⟩ : ∃ n', n = n' + 1 := ⟨n - 1, by omega⟩
    rw [m_ref20_Right_l1, List.drop_eq_nil_of_le (by omega), List.drop_eq_nil_of_le (by omega), List.drop_eq_nil_of_le (by omega)]
    simp only [Bool.cond_decide, if_neg (show ¬ ((k : Int) < x.n) by omega), he0, he1, Option.bind_some, Option.some.injEq]
    by_cases c1 : x.role = 0
    · rw [if_neg (fun h => h c1), dec_cdec]; congr 1; exact cdec_congr ⟨fun h => ⟨InB_nil, InB_nil, InB_nil, h, .inl c1⟩, fun h => h.2.2.2.1⟩
    · rw [if_pos c1]
      by_cases c2 : x.tuple.term < 1
      · rw [if_pos c2, cdec_f]; rintro ⟨_, _, _, _, h | h⟩; exact c1 h; omega
      · rw [if_neg c2]
        by_cases c3 : x.tuple.vote = x.id
        · rw [if_neg (fun h => h c3), dec_cdec]; congr 1; exact cdec_congr ⟨fun h => ⟨InB_nil, InB_nil, InB_nil, h, .inr ⟨by omega, c3⟩⟩, fun h => h.2.2.2.1⟩
        · rw [if_pos c3, cdec_f]; rintro ⟨_, _, _, _, h | h⟩; exact c1 h; exact c3 h.2
  | succ m ih =>
    intro k n b hm hk hn'
    obtain ⟨n, rfl⟩ : ∃ n', n = n' + 1 := ⟨n - 1, by omega⟩
    obtain ⟨e, he, hd⟩ := drop_step (show k < x.next.length by omega)
    obtain ⟨f, hf, hd2⟩ := drop_step (show k < x.mtch.length by omega)
    obtain ⟨g, hg, hd3⟩ := drop_step (show k < x.caps.length by omega)
    rw [m_ref20_Right_l1, hd, hd2, hd3]
    simp only [Bool.cond_decide, if_pos (show ((k : Int) < x.n) by omega), idx_nat, he, hf, hg, Option.bind_some, hw]
    rw [w64i (n := (k : Int) + 1) (by omega), show ((k : Int) + 1) = ((k + 1 : Nat) : Int) by omega, ih (k + 1) n b (by omega) (by omega) (by omega)]
    by_cases c1 : e < 1
    · rw [if_pos c1, cdec_f]; rintro ⟨h, _⟩; have := (InB_cons.1 h).1; omega
    rw [if_neg c1]
    by_cases c2 : x.tuple.last + 1 < e
    · rw [if_pos c2, cdec_f]; rintro ⟨h, _⟩; have := (InB_cons.1 h).1; omega
    rw [if_neg c2]
    by_cases c3 : f < 0
    · rw [if_pos c3, cdec_f]; rintro ⟨_, h, _⟩; have := (InB_cons.1 h).1; omega
    rw [if_neg c3]
    by_cases c4 : x.tuple.last < f
    · rw [if_pos c4, cdec_f]; rintro ⟨_, h, _⟩; have := (InB_cons.1 h).1; omega
    rw [if_neg c4]
    by_cases c5 : g < 0
    · rw [if_pos c5, cdec_f]; rintro ⟨_, _, h, _⟩; have := (InB_cons.1 h).1; omega
    rw [if_neg c5]
    by_cases c6 : 2 < g
    · rw [if_pos c6, cdec_f]; rintro ⟨_, _, h, _⟩; have := (InB_cons.1 h).1; omega
    rw [if_neg c6]
    congr 1
    exact cdec_congr ⟨fun h => ⟨InB_cons.2 ⟨by omega, h.1⟩, InB_cons.2 ⟨by omega, h.2.1⟩, InB_cons.2 ⟨by omega, h.2.2.1⟩, h.2.2.2⟩, fun h => ⟨(InB_cons.1 h.1).2, (InB_cons.1 h.2.1).2, (InB_cons.1 h.2.2.1).2, h.2.2.2⟩⟩
theorem p_Right20 (x : Co) (h : BdC x) : m_ref20_Right x = some (rightC x) := by
  simp only [m_ref20_Right, p_Right12, p_State12' x.tuple x.commit h.tup, p_Last12 x.tuple h.tup, Option.bind_some, snap_eq, Bool.cond_decide]
  unfold rightC
  by_cases c1 : x.n < 1
  · rw [if_pos c1, cdec_f (p := RightC x) fun h => by have := h.n; omega]
  rw [if_neg c1]
  by_cases c2 : 5 < x.n
  · rw [if_pos c2, cdec_f (p := RightC x) fun h => by have := h.n; omega]
  rw [if_neg c2]
  by_cases c3 : x.id < 1
  · rw [if_pos c3, cdec_f (p := RightC x) fun h => by have := h.id; omega]
  rw [if_neg c3]
  by_cases c4 : x.n < x.id
  · rw [if_pos c4, cdec_f (p := RightC x) fun h => by have := h.id; omega]
  rw [if_neg c4]
  by_cases c5 : 2 < x.role
  · rw [if_pos c5, cdec_f (p := RightC x) fun h => by have := h.role; omega]
  rw [if_neg c5]
  by_cases c6 : x.binary < 1
  · rw [if_pos c6, cdec_f (p := RightC x) fun h => by have := h.bin; omega]
  rw [if_neg c6]
  by_cases c7 : 2 < x.binary
  · rw [if_pos c7, cdec_f (p := RightC x) fun h => by have := h.bin; omega]
  rw [if_neg c7]
  cases c8 : tupB x.tuple with
  | false => rw [cdec_f (p := RightC x) fun h => by have h2 := h.tup; rw [c8] at h2; cases h2]; rfl
  | true =>
    simp only [Bool.not_true, cond_false]
    cases c9 : stOf x.tuple x.commit with
    | none => rw [cdec_f (p := RightC x) fun h => by rw [h.st] at c9; cases c9]; rfl
    | some s =>
      simp only [Option.isSome_some, Option.getD_some, Bool.not_true, cond_false]
      by_cases d1 : s = x.applied
      case neg => rw [decide_eq_false d1, cdec_f (p := RightC x) fun h => d1 (by have := h.st; rw [c9] at this; exact Option.some.inj this)]; rfl
      rw [decide_eq_true d1]
      simp only [Bool.not_true, cond_false]
      by_cases d2 : (x.votes.length : Int) = x.n
      case neg => rw [if_pos d2, cdec_f (p := RightC x) fun h => d2 h.lv]
      rw [if_neg (fun h => h d2)]
      by_cases d3 : (x.next.length : Int) = x.n
      case neg => rw [if_pos d3, cdec_f (p := RightC x) fun h => d3 h.ln]
      rw [if_neg (fun h => h d3)]
      by_cases d4 : (x.mtch.length : Int) = x.n
      case neg => rw [if_pos d4, cdec_f (p := RightC x) fun h => d4 h.lm]
      rw [if_neg (fun h => h d4)]
      by_cases d5 : (x.caps.length : Int) = x.n
      case neg => rw [if_pos d5, cdec_f (p := RightC x) fun h => d5 h.lc]
      rw [if_neg (fun h => h d5)]
      have := p_Right20_l1 x (by omega) (by omega) d3 d4 d5 h.tup x.caps.length 0 fuelN false (by omega) (by omega) (by have := h.lc; unfold fuelN; omega)
      rw [show ((0 : Nat) : Int) = 0 from rfl] at this
      rw [this]
      simp only [List.drop_zero]
      congr 1
      subst d1
      exact cdec_congr ⟨fun h => ⟨by omega, by omega, by omega, by omega, c8, c9, d2, d3, d4, d5, h.1, h.2.1, h.2.2.1, h.2.2.2.1, h.2.2.2.2⟩, fun h => ⟨h.next, h.mtch, h.caps, h.own, h.lead⟩⟩
end Go.Proofs.YtenagnncpaabdaaGreat
/- Layer 24's functions, in plain terms. -/
namespace Go.Proofs.YtenagnncpaabdaaGreat
open Go Go.RowKit
set_option maxRecDepth 100000
theorem q_Append (x : Tu) (l : List En) (h : x.log.length ≤ 1000000 ∧ l.length ≤ 300) : m_tuple_Append x l = some (chgS x (some { x with log := x.log ++ l }), chgE x (some { x with log := x.log ++ l })) := by unfold m_tuple_Append; rw [decide_eq_true h]; rfl
theorem p_tTermAt (x : Tu) (i : Int) (h : bdT x) : m_tuple_TermAt x i = some ((termAt x i).getD 0, (termAt x i).isSome) := by
  obtain ⟨h1, h2, h3⟩ := h
  unfold m_tuple_TermAt m_tuple_At termAt
  rw [p_tLast x ⟨h1, h2, h3⟩]
  unfold Tu.last
  simp only [Option.bind_some, Bool.cond_decide]
  by_cases hi : i = x.snap.index
  · rw [if_pos hi, if_pos hi]; rfl
  · rw [if_neg hi, if_neg hi]
    by_cases h4 : i ≤ x.snap.index
    · rw [if_pos h4, if_neg (by omega)]; rfl
    · rw [if_neg h4]
      by_cases h5 : x.snap.index + (x.log.length : Int) < i
      · rw [if_pos h5, if_neg (by omega)]; rfl
      · rw [if_neg h5, if_pos (by omega)]
        obtain ⟨k, hk⟩ : ∃ k : Nat, i = x.snap.index + 1 + k := ⟨(i - x.snap.index - 1).toNat, by omega⟩
        have e1 : IntKind.wrap .i64 (i - x.snap.index) = i - x.snap.index := w64i (by omega)
        have e2 : IntKind.wrap .i64 (i - x.snap.index - 1) = (k : Int) := by rw [w64i (by omega)]; omega
        have e3 : (i - x.snap.index - 1).toNat = k := by omega
        rw [e1, e2, e3, idx_nat]
        obtain ⟨e, he, _⟩ := drop_step (show k < x.log.length by omega)
        rw [he]; rfl
theorem p_TermAt12 (x : Tu) (i : Int) (h : bdT x) : m_ref12_TermAt x i = some ((termAt x i).getD 0, (termAt x i).isSome) := p_tTermAt x i h
theorem chg_eq (x : Tu) (res : Option Tu) : (chgS x res, chgE x res) = if tupB x = true then (match res with | some y => if tupB y = true then (y, (0 : Int)) else (x, 2) | none => (x, 2)) else (x, 2) := by
  unfold chgS chgE
  by_cases hT : tupB x = true
  · rw [if_pos hT]
    cases res with
    | none =>
      have : doneB x none = none := by unfold doneB; rw [if_pos hT]
      rw [this]
    | some y =>
      by_cases hy : tupB y = true
      · have : doneB x (some y) = some y := by unfold doneB; rw [if_pos hT]; exact if_pos hy
        rw [this]; dsimp only; rw [if_pos hy]
      · have : doneB x (some y) = none := by unfold doneB; rw [if_pos hT]; exact if_neg hy
        rw [this]; dsimp only; rw [if_neg hy]
  · have : doneB x res = none := if_neg hT
    rw [this, if_neg hT]
theorem chg_some (x y : Tu) : (chgS x (some y), chgE x (some y)) = if tupB x = true then (if tupB y = true then (y, (0 : Int)) else (x, 2)) else (x, 2) := by rw [chg_eq]
/-- How many have an index. -/
def hadN (x : Co) (i : Int) : Nat := x.mtch.countP fun m => decide (i ≤ m)
theorem havingL_len (i : Int) (l : List Int) : ∀ k, (havingL i k l).length = l.countP fun m => decide (i ≤ m) := by
  induction l with
  | nil => intro k; rfl
  | cons a l ih =>
    intro k
    rw [havingL, List.countP_cons]
    by_cases h : i ≤ a
    · rw [if_pos h, List.length_cons, ih]; simp [h]
    · rw [if_neg h, ih]; simp [h]
theorem had_r1 (l : List Int) : ∀ (v : Int), 0 ≤ v → v + l.length ≤ 2000000 → m_commit_Had_r1 l v = some (v + l.length) := by
  induction l with
  | nil => intro v _ _; rw [m_commit_Had_r1]; simp
  | cons a l ih =>
    intro v h1 h2
    rw [List.length_cons] at h2 ⊢
    rw [m_commit_Had_r1, w64i (by omega), ih (v + 1) (by omega) (by omega)]
    congr 1; omega
theorem p_Had (x : Co) (i : Int) (h : RightC x) : m_commit_Had x i = some (hadN x i : Int) := by
  have hbd := h.bd
  have hl := havingL_len i x.mtch 0
  have h1 : (x.mtch.countP fun m => decide (i ≤ m)) ≤ x.mtch.length := List.countP_le_length
  have h2 := hbd.lm
  unfold m_commit_Had m_it_having
  rw [p_mRight x hbd]
  unfold rightC
  rw [cdec_t h, if_pos hbd.lm]
  simp only [Option.bind_some, Bool.not_true, cond_false]
  rw [had_r1 _ 0 (by omega) (by rw [hl]; omega), hl]
  unfold hadN
  congr 1; omega
theorem hadN_le (x : Co) (i : Int) (h : RightC x) : hadN x i ≤ 5 := by
  have h1 : (x.mtch.countP fun m => decide (i ≤ m)) ≤ x.mtch.length := List.countP_le_length
  have := h.lm
  have := h.n
  unfold hadN; omega
/-- What a leader may commit. -/
def MayP (x : Co) (i : Int) : Prop := termAt x.tuple i = some x.tuple.term ∧ x.n < 2 * (hadN x i : Int)
structure MaySpec (x : Co) (i r : Int) : Prop where
  lo : x.commit ≤ r
  hi : r = x.commit ∨ (r ≤ i ∧ MayP x r)
  no : ∀ j, r < j → j ≤ i → ¬ MayP x j
theorem commit_bd {x : Co} (h : RightC x) : x.tuple.snap.index ≤ x.commit ∧ x.commit ≤ x.tuple.last := by
  have := h.st
  unfold stOf at this
  split at this
  · assumption
  · cases this
theorem may_l1 (x : Co) (h : RightC x) : ∀ (m n : Nat) (v i : Int), i = x.commit + m → i ≤ x.tuple.last → m < n → ∃ r, m_commit_May_l1 x n v i = some r ∧ MaySpec x i r := by
  have hbd := h.bd
  have hlb := last_bd hbd.tup
  have hcb := commit_bd h
  have hsb := hbd.tup.2
  intro m
  induction m with
  | zero =>
    intro n v i hi _ hn
    obtain ⟨n, rfl⟩ : ∃ n', n = n' + 1 := ⟨n - 1, by omega⟩
    refine ⟨x.commit, ?_, by omega, .inl rfl, fun j h1 h2 => by omega⟩
    rw [m_commit_May_l1]
    simp only [Bool.cond_decide, if_pos (show i ≤ x.commit by omega)]
  | succ m ih =>
    intro n v i hi hl hn
    obtain ⟨n, rfl⟩ : ∃ n', n = n' + 1 := ⟨n - 1, by omega⟩
    rw [m_commit_May_l1]
    simp only [Bool.cond_decide, if_neg (show ¬ i ≤ x.commit by omega), p_tTermAt x.tuple i hbd.tup, Option.bind_some, p_Had x i h]
    have hh := hadN_le x i h
    rw [w64i (n := i - 1) (by omega), w64i (n := 2 * (hadN x i : Int)) (by omega)]
    have go : ¬ MayP x i → ∃ r, m_commit_May_l1 x n v (i - 1) = some r ∧ MaySpec x i r := fun hno => by
      obtain ⟨r, hr, s⟩ := ih n v (i - 1) (by omega) (by omega) (by omega)
      refine ⟨r, hr, s.lo, s.hi.imp id fun h => ⟨by omega, h.2⟩, fun j h1 h2 => ?_⟩
      by_cases hj : j = i
      · rw [hj]; exact hno
      · exact s.no j h1 (by omega)
    cases ht : termAt x.tuple i with
    | none => exact go fun hp => by have := hp.1; rw [ht] at this; cases this
    | some t =>
      simp only [Option.getD_some, Option.isSome_some, cond_true]
      by_cases h1 : t = x.tuple.term
      · rw [if_pos h1]
        by_cases h2 : x.n < 2 * (hadN x i : Int)
        · rw [if_pos h2]
          exact ⟨i, rfl, by omega, .inr ⟨Int.le_refl _, by rw [ht, h1], h2⟩, fun j h1 h2 => by omega⟩
        · rw [if_neg h2]; exact go fun hp => h2 hp.2
      · rw [if_neg h1]; exact go fun hp => by have := hp.1; rw [ht] at this; exact h1 (Option.some.inj this)
theorem p_May (x : Co) (h : RightC x) (hr : x.role = 2) : ∃ r, m_commit_May x = some r ∧ MaySpec x x.tuple.last r := by
  have hbd := h.bd
  have hcb := commit_bd h
  have hsb := hbd.tup
  have hlb : x.tuple.last = x.tuple.snap.index + x.tuple.log.length := rfl
  obtain ⟨r, h1, h2⟩ := may_l1 x h (x.tuple.last - x.commit).toNat (fuelN + 1) 0 x.tuple.last (by omega) (Int.le_refl _) (by have := hsb.1; unfold fuelN; omega)
  refine ⟨r, ?_, h2⟩
  rw [← h1, m_commit_May_l1]
  unfold m_commit_May
  rw [p_tLast x.tuple hbd.tup, p_mRight x hbd]
  unfold rightC
  rw [cdec_t h]
  simp only [Option.bind_some, Bool.cond_decide, if_neg (show ¬ x.role ≠ 2 from fun h => h hr), Bool.not_true, cond_false]
theorem p_May_no (x : Co) (h : RightC x) (hr : x.role ≠ 2) : m_commit_May x = some x.commit := by
  unfold m_commit_May
  rw [p_tLast x.tuple h.bd.tup]
  simp only [Option.bind_some, Bool.cond_decide, if_pos hr]
def toC (x : Co) (i : Int) : Co := if x.commit < i then { x with commit := min i x.tuple.last, applied := (stOf x.tuple (min i x.tuple.last)).getD ⟨0, 0, 0, 0, false⟩ } else x
theorem p_To24 (x : Co) (i : Int) (h : RightC x) : m_commit_To x i = some (toC x i) := by
  have hbd := h.bd
  unfold m_commit_To toC
  rw [p_mOwn x hbd]
  simp only [Option.bind_some, Bool.cond_decide, p_mRight x hbd, p_tLast x.tuple hbd.tup, q_State x.tuple _ hbd.tup]
  unfold rightC
  rw [cdec_t h]
  split <;> rfl
theorem to_right (x : Co) (i : Int) (h : RightC x) : RightC (toC x i) := by
  have hcb := commit_bd h
  unfold toC
  split
  · rename_i hi
    have hs : stOf x.tuple (min i x.tuple.last) = some (allS x.tuple.snap (x.tuple.log.take (min i x.tuple.last - x.tuple.snap.index).toNat)) := by
      unfold stOf; rw [if_pos (by omega)]
    obtain ⟨h1, h2, h3, h4, h5, h6, h7, h8, h9, h10, h11, h12, h13, h14, h15⟩ := h
    exact ⟨h1, h2, h3, h4, h5, by dsimp only; rw [hs]; rfl, h7, h8, h9, h10, h11, h12, h13, h14, h15⟩
  · exact h
theorem to_mono (x : Co) (i : Int) (h : RightC x) : x.commit ≤ (toC x i).commit := by
  have hcb := commit_bd h
  unfold toC
  split
  · dsimp only; omega
  · exact Int.le_refl _
theorem to_tuple (x : Co) (i : Int) : (toC x i).tuple = x.tuple := by unfold toC; split <;> rfl
theorem to_role (x : Co) (i : Int) : (toC x i).role = x.role := by unfold toC; split <;> rfl
theorem p_Adv (x : Co) (h : RightC x) : ∃ r, m_commit_Advance x = some (toC x r) ∧ (x.role = 2 → MaySpec x x.tuple.last r) ∧ (x.role ≠ 2 → r = x.commit) := by
  unfold m_commit_Advance
  by_cases hr : x.role = 2
  · obtain ⟨r, h1, h2⟩ := p_May x h hr
    exact ⟨r, by rw [h1]; simp only [Option.bind_some, p_To24 x r h], fun _ => h2, fun h => (h hr).elim⟩
  · exact ⟨x.commit, by rw [p_May_no x h hr]; simp only [Option.bind_some, p_To24 x _ h], fun h => (hr h).elim, fun _ => rfl⟩
/-- A core with an entry more. -/
def addC (x : Co) (e : En) : Co := { x with tuple := { x.tuple with log := x.tuple.log ++ [e] }, mtch := x.mtch.set (x.id - 1).toNat (x.tuple.last + 1) }
theorem InB.mono {l : List Int} {a b c d : Int} (h : InB l a b) (h1 : c ≤ a) (h2 : b ≤ d) : InB l c d := fun x hx => by have := h x hx; omega
theorem add_tup (x : Co) (e : En) (h : RightC x) (he : rightB e = true) (ht : e.term = x.tuple.term) (hl : x.tuple.log.length < 200) : tupB { x.tuple with log := x.tuple.log ++ [e] } = true := by
  obtain ⟨h1, h2, h3, h4⟩ := (tupB_iff _).1 h.tup
  refine (tupB_iff _).2 ⟨h1, ?_, ?_, ?_⟩
  · dsimp only; rw [List.length_append]; simp only [List.length_cons, List.length_nil]; exact ⟨h2.1, by omega, h2.2.2⟩
  · dsimp only; rw [logB_snoc, h3, he, decide_eq_true (by omega)]; rfl
  · dsimp only; rw [lastT_snoc]; omega
theorem add_right (x : Co) (e : En) (h : RightC x) (he : rightB e = true) (ht : e.term = x.tuple.term) (hl : x.tuple.log.length < 200) : RightC (addC x e) := by
  have hcb := commit_bd h
  have ha := add_tup x e h he ht hl
  obtain ⟨h1, h2, h3, h4, h5, h6, h7, h8, h9, h10, h11, h12, h13, h14, h15⟩ := h
  have hlast : ({ x.tuple with log := x.tuple.log ++ [e] } : Tu).last = x.tuple.last + 1 := by unfold Tu.last; dsimp only; rw [List.length_append]; simp only [List.length_cons, List.length_nil]; omega
  have hl0 : 0 ≤ x.tuple.last := by have := tupB_bd _ h5; unfold Tu.last; omega
  unfold addC
  refine ⟨h1, h2, h3, h4, ha, ?_, h7, h8, ?_, h10, ?_, ?_, h13, h14, h15⟩
  · dsimp only
    rw [← h6]
    unfold stOf
    rw [hlast, if_pos (by dsimp only; omega), if_pos hcb, List.take_append_of_le_length (by have h20 := hcb.2; unfold Tu.last at h20; dsimp only; omega)]
  · dsimp only; rw [List.length_set]; exact h9
  · dsimp only; rw [hlast]; exact h11.mono (Int.le_refl _) (by omega)
  · dsimp only; rw [hlast]; exact (h12.mono (Int.le_refl _) (by omega)).set ⟨by omega, by omega⟩
theorem cl_arg (x : Co) (k v : Int) (h : RightC x) (hb : rightB ⟨x.tuple.term, k, v⟩ = false) : m_commit_Client x k v = some (x, 2) := by
  unfold m_commit_Client m_entry_Right m_level_Check
  rw [p_mOwn x h.bd]
  simp only [Option.bind_some, decide_eq_true h.bd.lc, cond_true, hb, Bool.not_false]
theorem cl_role (x : Co) (k v : Int) (h : RightC x) (hb : rightB ⟨x.tuple.term, k, v⟩ = true) (hr : x.role ≠ 2) : m_commit_Client x k v = some (x, 220) := by
  unfold m_commit_Client m_entry_Right m_level_Check
  rw [p_mOwn x h.bd]
  simp only [Option.bind_some, decide_eq_true h.bd.lc, cond_true, hb, p_mRight x h.bd]
  unfold rightC
  rw [cdec_t h]
  simp only [Bool.not_true, cond_false, Bool.cond_decide, if_pos hr]
theorem cl_check (x : Co) (k v : Int) (h : RightC x) (hb : rightB ⟨x.tuple.term, k, v⟩ = true) (hr : x.role = 2) (hc : checkS k x.applied x.caps ≠ 0) : m_commit_Client x k v = some (x, checkS k x.applied x.caps) := by
  unfold m_commit_Client m_entry_Right m_level_Check
  rw [p_mOwn x h.bd]
  simp only [Option.bind_some, decide_eq_true h.bd.lc, cond_true, hb, p_mRight x h.bd]
  unfold rightC
  rw [cdec_t h]
  simp only [Bool.not_true, cond_false, Bool.cond_decide, if_neg (show ¬ x.role ≠ 2 from fun h => h hr), if_pos hc]
theorem cl_full (x : Co) (k v : Int) (h : RightC x) (hb : rightB ⟨x.tuple.term, k, v⟩ = true) (hr : x.role = 2) (hc : checkS k x.applied x.caps = 0) (hl : 200 ≤ x.tuple.log.length) : m_commit_Client x k v = some (x, 270) := by
  have hbd := h.bd
  have happ := q_Append x.tuple [⟨x.tuple.term, k, v⟩] ⟨hbd.tup.1, by simp⟩
  rw [chg_some, if_pos h.tup, if_neg (fun h2 => by have := ((tupB_iff _).1 h2).2.1.2.1; dsimp only at this; rw [List.length_append] at this; simp only [List.length_cons, List.length_nil] at this; omega)] at happ
  unfold m_commit_Client m_entry_Right m_level_Check
  rw [p_mOwn x hbd]
  simp only [Option.bind_some, decide_eq_true h.bd.lc, cond_true, hb, p_mRight x h.bd]
  unfold rightC
  rw [cdec_t h]
  simp only [Bool.not_true, cond_false, Bool.cond_decide, if_neg (show ¬ x.role ≠ 2 from fun h => h hr), if_neg (show ¬ checkS k x.applied x.caps ≠ 0 from fun h => h hc), happ, Option.bind_some, if_pos (show (2 : Int) ≠ 0 by decide)]
theorem cl_ok (x : Co) (k v : Int) (h : RightC x) (hb : rightB ⟨x.tuple.term, k, v⟩ = true) (hr : x.role = 2) (hc : checkS k x.applied x.caps = 0) (hl : x.tuple.log.length < 200) :
    ∃ r, m_commit_Client x k v = some (toC (addC x ⟨x.tuple.term, k, v⟩) r, 0) ∧ MaySpec (addC x ⟨x.tuple.term, k, v⟩) (x.tuple.last + 1) r := by
  have hbd := h.bd
  have hidb := h.id
  have hlm := h.lm
  have hn := h.n
  have ha := add_tup x _ h hb rfl hl
  have hR := add_right x _ h hb rfl hl
  have happ := q_Append x.tuple [⟨x.tuple.term, k, v⟩] ⟨hbd.tup.1, by simp⟩
  rw [chg_some, if_pos h.tup, if_pos ha] at happ
  obtain ⟨r, h1, h2, _⟩ := p_Adv _ hR
  have hlast : (addC x ⟨x.tuple.term, k, v⟩).tuple.last = x.tuple.last + 1 := by unfold addC Tu.last; dsimp only; rw [List.length_append]; simp only [List.length_cons, List.length_nil]; omega
  have hm := h2 hr
  rw [hlast] at hm
  refine ⟨r, ?_, hm⟩
  obtain ⟨e, he, _⟩ := drop_step (show (x.id - 1).toNat < x.mtch.length by omega)
  have hw : IntKind.wrap .i64 (x.id - 1) = (((x.id - 1).toNat : Nat) : Int) := by rw [w64i (by omega)]; omega
  have hset : setI x.mtch (((x.id - 1).toNat : Nat) : Int) (x.tuple.last + 1) = x.mtch.set (x.id - 1).toNat (x.tuple.last + 1) := by unfold setI; simp
  have hbd' : bdT { x.tuple with log := x.tuple.log ++ [⟨x.tuple.term, k, v⟩] } := hR.bd.tup
  have hl2 : ({ x.tuple with log := x.tuple.log ++ [⟨x.tuple.term, k, v⟩] } : Tu).last = x.tuple.last + 1 := hlast
  unfold m_commit_Client m_entry_Right m_level_Check
  rw [p_mOwn x hbd]
  simp only [Option.bind_some, decide_eq_true h.bd.lc, cond_true, hb, p_mRight x h.bd]
  unfold rightC
  rw [cdec_t h]
  simp only [Bool.not_true, cond_false, Bool.cond_decide, if_neg (show ¬ x.role ≠ 2 from fun h => h hr), if_neg (show ¬ checkS k x.applied x.caps ≠ 0 from fun h => h hc), happ, Option.bind_some, if_neg (show ¬ (0 : Int) ≠ 0 by decide), p_tLast _ hbd', hl2, hw, idx_nat, he, hset]
  have h1' := h1
  unfold addC at h1'
  rw [h1']
  rfl
theorem p_wakes24 : m_law24_wakes = some true := by decide +kernel
end Go.Proofs.YtenagnncpaabdaaGreat
/- Layer 24's statements, in plain terms. -/
namespace Go.Proofs.YtenagnncpaabdaaGreat
open Go Go.RowKit
set_option maxRecDepth 100000
def allTwo (l : List Int) : Bool := l.all fun c => decide (c = 2)
theorem known_two (l : List Int) (h : 0 < l.length) : knownB l = allTwo l := by
  unfold knownB allTwo not2
  cases l with
  | nil => simp at h
  | cons a l =>
    rw [Bool.eq_iff_iff]
    simp
theorem all_take (l : List Int) (k : Nat) (e : Int) (h : l[k]? = some e) : allTwo (l.take (k + 1)) = (allTwo (l.take k) && decide (e = 2)) := by
  unfold allTwo
  rw [List.take_add_one, h]
  simp
theorem p_great24 (x : Co) : ∃ b, m_law24_great x = some b ∧ (b = false → BdC x) := by
  obtain ⟨g, hg⟩ := p_Great_some x
  unfold m_law24_great
  rw [hg]
  cases g with
  | true => exact ⟨true, rfl, fun h => by cases h⟩
  | false =>
    simp only [Option.bind_some, cond_false, Bool.cond_decide]
    split <;> exact ⟨_, rfl, fun _ => (p_Great_no x hg).1⟩
/-! ### What is behind is right -/
theorem p_At_new (t : Tu) (e : En) (h : bdT t) (hl : t.log.length ≤ 900000) : m_ref12_At { t with log := t.log ++ [e] } (t.last + 1) = some (e, true) := by
  obtain ⟨h1, h2, h3⟩ := h
  have hn : (t.log ++ [e]).length = t.log.length + 1 := by simp
  have hb' : bdT { t with log := t.log ++ [e] } := ⟨by dsimp only; omega, h2, h3⟩
  have hlast : ({ t with log := t.log ++ [e] } : Tu).last = t.last + 1 := by unfold Tu.last; dsimp only; rw [hn]; omega
  have hll : t.last = t.snap.index + t.log.length := rfl
  unfold m_ref12_At
  rw [p_Last12 _ hb', hlast]
  have hw : IntKind.wrap .i64 (IntKind.wrap .i64 (t.last + 1 - t.snap.index) - 1) = (t.log.length : Int) := by rw [w64i (n := t.last + 1 - t.snap.index) (by omega), w64i (by omega)]; omega
  simp only [Option.bind_some, Bool.cond_decide, if_neg (show ¬ t.last + 1 ≤ t.snap.index by omega), if_neg (show ¬ t.last + 1 < t.last + 1 by omega), hw, idx_nat]
  rw [List.getElem?_append_right (Nat.le_refl _), Nat.sub_self]
  rfl
theorem client_all (x : Co) (k v : Int) (h : RightC x) : ∃ o e, m_commit_Client x k v = some (o, e) ∧ RightC o ∧ x.commit ≤ o.commit ∧ ((e ≠ 0 ∧ o = x) ∨ (e = 0 ∧ x.role = 2 ∧ x.tuple.log.length < 200 ∧ o.role = x.role ∧ o.tuple = { x.tuple with log := x.tuple.log ++ [⟨x.tuple.term, k, v⟩] })) := by
  cases hb : rightB ⟨x.tuple.term, k, v⟩ with
  | false => exact ⟨x, 2, cl_arg x k v h hb, h, Int.le_refl _, .inl ⟨by decide, rfl⟩⟩
  | true =>
    by_cases hr : x.role = 2
    case neg => exact ⟨x, 220, cl_role x k v h hb hr, h, Int.le_refl _, .inl ⟨by decide, rfl⟩⟩
    by_cases hc : checkS k x.applied x.caps = 0
    case neg => exact ⟨x, _, cl_check x k v h hb hr hc, h, Int.le_refl _, .inl ⟨hc, rfl⟩⟩
    by_cases hl : x.tuple.log.length < 200
    case neg => exact ⟨x, 270, cl_full x k v h hb hr hc (by omega), h, Int.le_refl _, .inl ⟨by decide, rfl⟩⟩
    obtain ⟨r, h1, _⟩ := cl_ok x k v h hb hr hc hl
    have hR := add_right x _ h hb rfl hl
    exact ⟨_, 0, h1, to_right _ r hR, to_mono (addC x ⟨x.tuple.term, k, v⟩) r hR, .inr ⟨rfl, hr, hl, to_role _ _, to_tuple _ _⟩⟩
theorem p_CommitRight (x : Co) (i k v : Int) : m_law24_CommitRight x i k v = some true := by
  obtain ⟨g, hg, hgb⟩ := p_great24 x
  unfold m_law24_CommitRight
  rw [hg]
  cases g with
  | true => simp only [Option.bind_some, p_wakes24, cond_true]
  | false =>
  have hbd := hgb rfl
  simp only [Option.bind_some, cond_false, p_Right20 x hbd]
  unfold rightC
  by_cases h : RightC x
  case neg => rw [cdec_f h]; simp only [Bool.not_false, cond_true, p_wakes24, Option.bind_some]
  rw [cdec_t h]
  obtain ⟨ra, ha, _⟩ := p_Adv x h
  obtain ⟨o, e, hc, ho, hco, hcase⟩ := client_all x k v h
  have r1 := to_right x ra h
  have r2 := to_right x i h
  have m1 := to_mono x ra h
  have m2 := to_mono x i h
  simp only [Bool.not_true, cond_false, ha, hc, p_To24 x i h, Option.bind_some, p_Right20 _ r1.bd, p_Right20 _ r2.bd, p_Right20 _ ho.bd, rightC, cdec_t r1, cdec_t r2, cdec_t ho, Bool.cond_decide, if_neg (show ¬ min (min (toC x ra).commit (toC x i).commit) o.commit < x.commit by omega), to_tuple, p_Same12 x.tuple x.tuple hbd.tup.1, decide_true]
  rcases hcase with ⟨he, rfl⟩ | ⟨rfl, hrole, hl, hro, ht⟩
  · rw [if_pos he]
    simp only [p_Same20 o o hbd, decide_true, Option.bind_some, cond_true, p_wakes24]
  · have hlb := last_bd hbd.tup
    have hlen : o.tuple.log.length = x.tuple.log.length + 1 := by rw [ht]; simp
    have htk : takeI o.tuple.log (x.tuple.log.length : Int) = some x.tuple.log := by rw [takeI_nat _ _ (by omega), ht]; simp
    have hat : m_ref12_At o.tuple (x.tuple.last + 1) = some (⟨x.tuple.term, k, v⟩, true) := by rw [ht]; exact p_At_new x.tuple _ hbd.tup (by omega)
    have hsn : o.tuple.snap = x.tuple.snap := by rw [ht]
    simp only [ne_eq, not_true, if_false, p_Last12 x.tuple hbd.tup, Option.bind_some, w64i (n := x.tuple.last + 1) (by omega), hat, if_pos hrole, cond_true, decide_true, Bool.and_true, w64i (n := (x.tuple.log.length : Int) + 1) (by omega), if_pos (show (o.tuple.log.length : Int) = (x.tuple.log.length : Int) + 1 by omega), htk, p_Same x.tuple.log x.tuple.log hbd.tup.1, if_pos hro, hsn, p_wakes24]
/-! ### Half of them -/
theorem to_commit (x : Co) (r : Int) (s : MaySpec x x.tuple.last r) : (toC x r).commit = r := by
  have h1 := s.lo
  have h2 := s.hi
  unfold toC
  by_cases h : x.commit < r
  · rw [if_pos h]; dsimp only; rcases h2 with h2 | h2 <;> omega
  · rw [if_neg h]; omega
theorem term24 (x : Co) (h : RightC x) (i : Int) (h1 : x.commit < i) (h2 : i ≤ x.tuple.last) : ∃ t, termAt x.tuple i = some t := by
  have hcb := commit_bd h
  have hl : x.tuple.last = x.tuple.snap.index + x.tuple.log.length := rfl
  obtain ⟨e, he, _⟩ := drop_step (show (i - x.tuple.snap.index - 1).toNat < x.tuple.log.length by omega)
  exact ⟨e.term, by unfold termAt; rw [if_neg (by omega), if_pos (by omega), he]; rfl⟩
theorem half_l2 (x : Co) (h : RightC x) (r : Int) (s : MaySpec x x.tuple.last r) (kk : Bool → Int → Option Bool) (vv : Bool) (i : Int) (h1 : x.commit < i) (h2 : i ≤ x.tuple.last) (hk : kk vv (i + 1) = some true) :
    ∀ (m j n : Nat), m = x.mtch.length - j → j ≤ x.mtch.length → m < n → m_law24_CommitHalf_l2 kk x (toC x r) vv i n (((x.mtch.take j).countP fun m => decide (i ≤ m) : Nat) : Int) j = some true := by
  have hlm := h.lm
  have hn := h.n
  have hbd := h.bd
  have hlb := last_bd hbd.tup
  have hcb := commit_bd h
  have hsb := hbd.tup
  have hc := to_commit x r s
  have hh := hadN_le x i h
  obtain ⟨t, ht⟩ := term24 x h i h1 h2
  have hlo := s.lo
  intro m
  induction m with
  | zero =>
    intro j n hm hj hn'
    obtain ⟨n, rfl⟩ : ∃ n', n = n' + 1 := ⟨n - 1, by omega⟩
    have hkl : j = x.mtch.length := by omega
    rw [m_law24_CommitHalf_l2, hkl, List.take_length]
    have hN : (x.mtch.countP fun m => decide (i ≤ m)) = hadN x i := rfl
    rw [hN]
    obtain ⟨H, hH⟩ : ∃ H : Int, H = (hadN x i : Int) := ⟨_, rfl⟩
    have hbd1 := hsb.2
    simp only [Bool.cond_decide, if_neg (show ¬ (x.mtch.length : Int) < x.n by omega), p_TermAt12 x.tuple i hbd.tup, Option.bind_some, ht, Option.getD_some, p_Had x i h, hc, ← hH, w64i (n := 2 * H) (by omega), w64i (n := i + 1) (by omega), hk, ne_eq, not_true, if_false, Bool.cond_not]
    have hmay : MayP x i ↔ t = x.tuple.term ∧ x.n < 2 * H := by
      unfold MayP; rw [ht, hH]; exact ⟨fun h => ⟨Option.some.inj h.1, h.2⟩, fun h => ⟨by rw [h.1], h.2⟩⟩
    have hno : r < i → ¬ MayP x i := fun hr => s.no i hr h2
    have hyes : i = r → MayP x i := fun hr => by
      rcases s.hi with h3 | ⟨_, h3⟩
      · omega
      · rw [hr]; exact h3
    rw [hmay] at hno hyes
    by_cases c1 : x.n < 2 * H
    · rw [if_pos c1]
      by_cases c2 : r < i
      · have c3 : ¬ t = x.tuple.term := fun h => hno c2 ⟨h, c1⟩
        rw [if_pos c2, if_neg c3, if_neg (show ¬ i = r by omega)]
      · rw [if_neg c2]
        by_cases c4 : i = r
        · rw [if_pos c4, if_pos (hyes c4).1]
        · rw [if_neg c4]
    · rw [if_neg c1]
      by_cases c4 : i = r
      · exact (c1 (hyes c4).2).elim
      · simp only [if_neg c4, ite_self]
  | succ m ih =>
    intro j n hm hj hn'
    obtain ⟨n, rfl⟩ : ∃ n', n = n' + 1 := ⟨n - 1, by omega⟩
    obtain ⟨e, he, _⟩ := drop_step (show j < x.mtch.length by omega)
    have hi := ih (j + 1) n (by omega) (by omega) (by omega)
    have hle : ((x.mtch.take j).countP fun m => decide (i ≤ m)) ≤ (x.mtch.take j).length := List.countP_le_length
    have hlt : (x.mtch.take j).length ≤ x.mtch.length := List.length_take_le' ..
    rw [List.take_add_one, he, List.countP_append] at hi
    rw [m_law24_CommitHalf_l2]
    obtain ⟨C, hC⟩ : ∃ C : Nat, C = (x.mtch.take j).countP fun m => decide (i ≤ m) := ⟨_, rfl⟩
    rw [← hC] at hi hle ⊢
    simp only [Bool.cond_decide, if_pos (show (j : Int) < x.n by omega), idx_nat, he, Option.bind_some, w64i (n := (j : Int) + 1) (by omega), w64i (n := (C : Int) + 1) (by omega)]
    by_cases c : i ≤ e
    · rw [if_pos c]
      simp only [Option.toList_some, List.countP_cons, List.countP_nil, decide_eq_true c, if_true] at hi
      rw [show ((C : Int) + 1) = ((C + (0 + 1) : Nat) : Int) by omega, show ((j : Int) + 1) = ((j + 1 : Nat) : Int) by omega]
      exact hi
    · rw [if_neg c]
      simp only [Option.toList_some, List.countP_cons, List.countP_nil, decide_eq_false c, Bool.false_eq_true, if_false] at hi
      rw [show (C : Int) = ((C + (0 + 0) : Nat) : Int) by omega, show ((j : Int) + 1) = ((j + 1 : Nat) : Int) by omega]
      exact hi
theorem half_l1 (x : Co) (h : RightC x) (r : Int) (s : MaySpec x x.tuple.last r) : ∀ (m n : Nat) (vv : Bool) (i : Int), (m : Int) = x.tuple.last + 1 - i → x.commit < i → m < n → m_law24_CommitHalf_l1 x (toC x r) n vv i = some true := by
  have hbd := h.bd
  have hlb := last_bd hbd.tup
  have hcb := commit_bd h
  have hsb := hbd.tup
  intro m
  induction m with
  | zero =>
    intro n vv i hm hi hn
    obtain ⟨n, rfl⟩ : ∃ n', n = n' + 1 := ⟨n - 1, by omega⟩
    rw [m_law24_CommitHalf_l1, p_Last12 x.tuple hbd.tup]
    simp only [Option.bind_some, Bool.cond_decide, if_neg (show ¬ i ≤ x.tuple.last by omega), p_wakes24]
  | succ m ih =>
    intro n vv i hm hi hn
    obtain ⟨n, rfl⟩ : ∃ n', n = n' + 1 := ⟨n - 1, by omega⟩
    rw [m_law24_CommitHalf_l1, p_Last12 x.tuple hbd.tup]
    simp only [Option.bind_some, Bool.cond_decide, if_pos (show i ≤ x.tuple.last by omega)]
    have := half_l2 x h r s (m_law24_CommitHalf_l1 x (toC x r) n) vv i hi (by omega) (ih n vv (i + 1) (by omega) (by omega) (by omega)) x.mtch.length 0 fuelN (by omega) (by omega) (by have := hbd.lm; unfold fuelN; omega)
    exact this
theorem p_CommitHalf (x : Co) : m_law24_CommitHalf x = some true := by
  obtain ⟨g, hg, hgb⟩ := p_great24 x
  unfold m_law24_CommitHalf
  rw [hg]
  cases g with
  | true => simp only [Option.bind_some, p_wakes24, cond_true]
  | false =>
  have hbd := hgb rfl
  simp only [Option.bind_some, cond_false, p_Right20 x hbd]
  unfold rightC
  by_cases h : RightC x
  case neg => rw [cdec_f h]; simp only [Bool.not_false, cond_true, p_wakes24, Option.bind_some]
  rw [cdec_t h]
  have hlb := last_bd hbd.tup
  have hcb := commit_bd h
  have hsb := hbd.tup
  have hsb2 := hsb.2
  obtain ⟨r, ha, hs, hs2⟩ := p_Adv x h
  simp only [Bool.not_true, cond_false, ha, Option.bind_some, Bool.cond_decide]
  by_cases hr : x.role = 2
  · rw [if_neg (show ¬ x.role ≠ 2 from fun h => h hr), w64i (by omega)]
    have hll : x.tuple.last = x.tuple.snap.index + x.tuple.log.length := rfl
    exact half_l1 x h r (hs hr) (x.tuple.last - x.commit).toNat fuelN false (x.commit + 1) (by omega) (by omega) (by have := hsb.1; unfold fuelN; omega)
  · have : (toC x r).commit = x.commit := by rw [hs2 hr]; unfold toC; rw [if_neg (by omega)]
    rw [if_pos hr, if_pos this, p_wakes24]; rfl
end Go.Proofs.YtenagnncpaabdaaGreat
