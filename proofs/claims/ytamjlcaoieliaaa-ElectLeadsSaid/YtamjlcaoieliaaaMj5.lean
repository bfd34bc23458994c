/- Texts of one claim put together: what its walks share. -/
import Derived.Test.YtamjlcaoieliaaaMj1
import Derived.Test.YtamjlcaoieliaaaMj2
import Derived.Test.YtamjlcaoieliaaaMj4
/- What functions compute, in plain terms, and that they do; printed. -/
namespace Go.Proofs.Ytamjlcaoieliaaa
open Go Go.RowKit
set_option maxRecDepth 100000
set_option maxHeartbeats 4000000
theorem c_elect_Vote (x0 : Co) (x1 : Ms) (A0_ : Option Addr) (c0_ : Nat) (A1_ : Option Addr) (c1_ : Nat) (A2_ : Option Addr) (c2_ : Nat) (A3_ : Option Addr) (c3_ : Nat) (A4_ : Option Addr) (c4_ : Nat) (A5_ : Option Addr) (c5_ : Nat) (w0 : World) (s0_ : SlI w0 enE A0_ c0_ x0.tuple.log) (s1_ : SlI w0 enO A1_ c1_ x0.votes) (s2_ : SlI w0 enI A2_ c2_ x0.next) (s3_ : SlI w0 enI A3_ c3_ x0.mtch) (s4_ : SlI w0 enI A4_ c4_ x0.caps) (s5_ : SlI w0 enE A5_ c5_ x1.entries) {r : Co × List Ms} (H : m_elect_Vote x0 x1 = some r) : Calls Try.prog 18 #[.agg #[.int .i64 x0.id, .int .i64 x0.n, .int .u8 x0.role, .int .i64 x0.binary, .int .i64 x0.tuple.snap.index, .int .i64 x0.tuple.snap.term, .int .i64 x0.tuple.snap.sum, .int .i64 x0.tuple.snap.level, .bool x0.tuple.snap.final, .slice A0_ x0.tuple.log.length c0_, .int .i64 x0.tuple.term, .int .i64 x0.tuple.vote, .int .i64 x0.commit, .int .i64 x0.applied.index, .int .i64 x0.applied.term, .int .i64 x0.applied.sum, .int .i64 x0.applied.level, .bool x0.applied.final, .slice A1_ x0.votes.length c1_, .slice A2_ x0.next.length c2_, .slice A3_ x0.mtch.length c3_, .slice A4_ x0.caps.length c4_], .agg #[.int .u8 x1.kind, .int .i64 x1.frm, .int .i64 x1.dst, .int .i64 x1.term, .int .i64 x1.cap, .int .i64 x1.last, .int .i64 x1.lastTerm, .int .i64 x1.commit, .bool x1.okk, .slice A5_ x1.entries.length c5_, .int .i64 x1.snap.index, .int .i64 x1.snap.term, .int .i64 x1.snap.sum, .int .i64 x1.snap.level, .bool x1.snap.final]] w0 fun e w' => ∃ (A0 : Option Addr) (c0 : Nat) (A1 : Option Addr) (c1 : Nat) (A2 : Option Addr) (c2 : Nat) (A3 : Option Addr) (c3 : Nat) (A4 : Option Addr) (c4 : Nat) (A5 : Option Addr) (c5 : Nat) (q5 : List Mq), e = .returned (.tuple #[.agg #[.int .i64 r.1.id, .int .i64 r.1.n, .int .u8 r.1.role, .int .i64 r.1.binary, .int .i64 r.1.tuple.snap.index, .int .i64 r.1.tuple.snap.term, .int .i64 r.1.tuple.snap.sum, .int .i64 r.1.tuple.snap.level, .bool r.1.tuple.snap.final, .slice A0 r.1.tuple.log.length c0, .int .i64 r.1.tuple.term, .int .i64 r.1.tuple.vote, .int .i64 r.1.commit, .int .i64 r.1.applied.index, .int .i64 r.1.applied.term, .int .i64 r.1.applied.sum, .int .i64 r.1.applied.level, .bool r.1.applied.final, .slice A1 r.1.votes.length c1, .slice A2 r.1.next.length c2, .slice A3 r.1.mtch.length c3, .slice A4 r.1.caps.length c4], .slice A5 r.2.length c5]) ∧ (r.1.tuple.log.length ≤ c0 ∧ c0 ≤ maxLen) ∧ (r.1.votes.length ≤ c1 ∧ c1 ≤ maxLen) ∧ (r.1.next.length ≤ c2 ∧ c2 ≤ maxLen) ∧ (r.1.mtch.length ≤ c3 ∧ c3 ≤ maxLen) ∧ (r.1.caps.length ≤ c4 ∧ c4 ≤ maxLen) ∧ (r.2.length ≤ c5 ∧ c5 ≤ maxLen) ∧ q5.map Mq.m = r.2 ∧ (∀ y ∈ q5, okQ y) ∧ St0 All w0 w' [.rd A0 (encs enE r.1.tuple.log), .row (.slice A1 r.1.votes.length c1) 4 1 r.1.votes.length (encs enO r.1.votes), .row (.slice A2 r.1.next.length c2) 3 1 r.1.next.length (encs enI r.1.next), .row (.slice A3 r.1.mtch.length c3) 3 1 r.1.mtch.length (encs enI r.1.mtch), .row (.slice A4 r.1.caps.length c4) 3 1 r.1.caps.length (encs enI r.1.caps), .rd A5 (encs enQ q5), .rds (q5.map subQ)] := by
  unfold m_elect_Vote at H
  refine gw_enter2 Try.func18 rfl Try.ntmps18 rfl ?_
  have hS := St0.start All w0
  refine wpC_seq_k (fun K hK1 => ?_)
  refine wpC_region ?_
  refine wpS_box rfl rfl rfl CellsOf.agg hS (fun b2 w hS hB => ?_)
  refine wpS_box rfl rfl rfl CellsOf.agg hS (fun b4 w hS hB => ?_)
  refine wpS_alloc rfl rfl zc_30 hS (fun b6 w hS hB => ?_)
  refine wpS_quick 1 rfl ?_
  refine wpS_nil ?_
  refine QH_seq_k hK1 ?_
  refine wpC_seq_k (fun K hK8 => ?_)
  refine wpC_seq_k (fun K hK9 => ?_)
  refine wpC_region ?_
  refine wpS_put rfl rfl rfl (yv_load_boxA ag_30 rfl (RW.here _) hS hs2 trivial sg0_22) ?_
  refine wpS_put rfl rfl rfl (yv_load_boxA ag_36 rfl (RW.here _) hS hs1 trivial sg0_15) ?_
  obtain ⟨r10, hm11, H⟩ := bind_some H
  refine wpS_call rfl rfl rfl rfl (by kernel_rfl) rfl (c_elect_fits x0 x1 A0_ c0_ A1_ c1_ A2_ c2_ A3_ c3_ A4_ c4_ A5_ c5_ _ (SlI.of_rd s0_.k (hS.rd0 s0_.rd) (hS.blk0 s0_.blk)) (SlI.of_rd s1_.k (hS.rd0 s1_.rd) (hS.blk0 s1_.blk)) (SlI.of_rd s2_.k (hS.rd0 s2_.rd) (hS.blk0 s2_.blk)) (SlI.of_rd s3_.k (hS.rd0 s3_.rd) (hS.blk0 s3_.blk)) (SlI.of_rd s4_.k (hS.rd0 s4_.rd) (hS.blk0 s4_.blk)) (SlI.of_rd s5_.k (hS.rd0 s5_.rd) (hS.blk0 s5_.blk)) hm11) ?_
  rintro e w ⟨rfl, hN⟩; refine ⟨_, rfl, ?_⟩; have hB := hN.pure; have hS := hS.join hN; clear hN
  refine wpS_put rfl rfl rfl (yv_not rfl) ?_
  refine wpS_quick 1 rfl ?_
  refine wpS_case 12 rfl (fun hb => ?_) (fun hb => ?_)
  · replace H := cond_t H hb
    refine wpS_quick 4 rfl ?_
    refine wpS_nil ?_
    refine QH_seq_k hK9 ?_
    refine wpC_cond_t rfl rfl ?_
    refine wpC_seq_k (fun K hK12 => ?_)
    refine wpC_region ?_
    refine wpS_put rfl rfl rfl (yv_load_boxA ag_30 rfl (RW.here _) hS hs2 trivial sg0_22) ?_
    obtain ⟨r13, hm14, H⟩ := bind_some H
    refine wpS_call rfl rfl rfl rfl (by kernel_rfl) rfl (c_msg_Own x0 A0_ c0_ A1_ c1_ A2_ c2_ A3_ c3_ A4_ c4_ _ (SlI.of_rd s0_.k (hS.rd0 s0_.rd) (hS.blk0 s0_.blk)) (SlI.of_rd s1_.k (hS.rd0 s1_.rd) (hS.blk0 s1_.blk)) (SlI.of_rd s2_.k (hS.rd0 s2_.rd) (hS.blk0 s2_.blk)) (SlI.of_rd s3_.k (hS.rd0 s3_.rd) (hS.blk0 s3_.blk)) (SlI.of_rd s4_.k (hS.rd0 s4_.rd) (hS.blk0 s4_.blk)) hm14) ?_
    rintro e w ⟨A15, c16, A19, c20, A23, c24, A27, c28, A31, c32, rfl, k17, k21, k25, k29, k33, hN⟩; refine ⟨_, rfl, ?_⟩; have hB := hN.pure; have hS := hS.join hN; clear hN
    refine wpS_store rfl rfl rfl CellsOf.agg hS ps5 st0_22 (by kernel_rfl) rfl (fun w hS hB => ?_)
    refine wpS_quick 1 rfl ?_
    refine wpS_nil ?_
    refine QH_seq_k hK12 ?_
    refine wpC_ret ?_
    refine QH_then_ret ?_
    refine QH_ret rfl (RV.cell rfl (load_boxA ag_30 hS hs5 sg0_22) (RV.tmp rfl RV.nil)) rfl ?_
    obtain rfl := Option.some.inj H
    have hS := hS.nilRds
    replace hS := hS.nilRd
    have hS := hS.front 6 rfl
    have hS := hS.front 6 rfl
    have hS := hS.front 6 rfl
    have hS := hS.front 6 rfl
    have hS := hS.front 6 rfl
    replace hS := hS.weak Weak.rowRd
    replace hS := hS.cut 7
    exact ⟨A15, c16, A19, c20, A23, c24, A27, c28, A31, c32, none, 0, ([] : List Mq), rfl, k17, k21, k25, k29, k33, ⟨Nat.le_refl _, Nat.zero_le _⟩, rfl, okq_nil, hS⟩
  replace H := cond_f H hb
  refine wpS_put rfl rfl rfl (yv_fieldAddr fo_36_0 rfl) ?_
  refine wpS_put rfl rfl rfl (yv_load_box sc_5 rfl (RW.here _) hS hs1 trivial sg0_1) ?_
  refine wpS_put rfl rfl rfl (yv_neq rfl rfl) ?_
  refine wpS_quick 1 rfl ?_
  refine wpS_nil ?_
  refine QH_seq_k hK9 ?_
  refine wpC_cond rfl (fun hb => ?_) (fun hb => ?_)
  · replace H := cond_t H hb
    refine wpC_seq_k (fun K hK35 => ?_)
    refine wpC_region ?_
    refine wpS_put rfl rfl rfl (yv_load_boxA ag_30 rfl (RW.here _) hS hs2 trivial sg0_22) ?_
    obtain ⟨r36, hm37, H⟩ := bind_some H
    refine wpS_call rfl rfl rfl rfl (by kernel_rfl) rfl (c_msg_Own x0 A0_ c0_ A1_ c1_ A2_ c2_ A3_ c3_ A4_ c4_ _ (SlI.of_rd s0_.k (hS.rd0 s0_.rd) (hS.blk0 s0_.blk)) (SlI.of_rd s1_.k (hS.rd0 s1_.rd) (hS.blk0 s1_.blk)) (SlI.of_rd s2_.k (hS.rd0 s2_.rd) (hS.blk0 s2_.blk)) (SlI.of_rd s3_.k (hS.rd0 s3_.rd) (hS.blk0 s3_.blk)) (SlI.of_rd s4_.k (hS.rd0 s4_.rd) (hS.blk0 s4_.blk)) hm37) ?_
    rintro e w ⟨A38, c39, A42, c43, A46, c47, A50, c51, A54, c55, rfl, k40, k44, k48, k52, k56, hN⟩; refine ⟨_, rfl, ?_⟩; have hB := hN.pure; have hS := hS.join hN; clear hN
    refine wpS_store rfl rfl rfl CellsOf.agg hS ps5 st0_22 (by kernel_rfl) rfl (fun w hS hB => ?_)
    refine wpS_quick 1 rfl ?_
    refine wpS_nil ?_
    refine QH_seq_k hK35 ?_
    refine wpC_ret ?_
    refine QH_then_ret ?_
    refine QH_ret rfl (RV.cell rfl (load_boxA ag_30 hS hs5 sg0_22) (RV.tmp rfl RV.nil)) rfl ?_
    obtain rfl := Option.some.inj H
    have hS := hS.nilRds
    replace hS := hS.nilRd
    have hS := hS.front 6 rfl
    have hS := hS.front 6 rfl
    have hS := hS.front 6 rfl
    have hS := hS.front 6 rfl
    have hS := hS.front 6 rfl
    replace hS := hS.weak Weak.rowRd
    replace hS := hS.cut 7
    exact ⟨A38, c39, A42, c43, A46, c47, A50, c51, A54, c55, none, 0, ([] : List Mq), rfl, k40, k44, k48, k52, k56, ⟨Nat.le_refl _, Nat.zero_le _⟩, rfl, okq_nil, hS⟩
  replace H := cond_f H hb
  refine wpC_skip ?_
  refine QH_seq_k hK8 ?_
  refine wpC_seq_k (fun K hK58 => ?_)
  refine wpC_region ?_
  refine wpS_put rfl rfl rfl (yv_load_boxA ag_30 rfl (RW.here _) hS hs2 trivial sg0_22) ?_
  refine wpS_put rfl rfl rfl (yv_load_boxA ag_36 rfl (RW.here _) hS hs1 trivial sg0_15) ?_
  obtain ⟨r59, hm60, H⟩ := bind_some H
  refine wpS_call rfl rfl rfl rfl (by kernel_rfl) rfl (c_elect_Meet x0 x1 A0_ c0_ A1_ c1_ A2_ c2_ A3_ c3_ A4_ c4_ A5_ c5_ _ (SlI.of_rd s0_.k (hS.rd0 s0_.rd) (hS.blk0 s0_.blk)) (SlI.of_rd s1_.k (hS.rd0 s1_.rd) (hS.blk0 s1_.blk)) (SlI.of_rd s2_.k (hS.rd0 s2_.rd) (hS.blk0 s2_.blk)) (SlI.of_rd s3_.k (hS.rd0 s3_.rd) (hS.blk0 s3_.blk)) (SlI.of_rd s4_.k (hS.rd0 s4_.rd) (hS.blk0 s4_.blk)) (SlI.of_rd s5_.k (hS.rd0 s5_.rd) (hS.blk0 s5_.blk)) hm60) ?_
  rintro e w ⟨A61, c62, A65, c66, A69, c70, A73, c74, A77, c78, rfl, k63, k67, k71, k75, k79, hN⟩; refine ⟨_, rfl, ?_⟩; have hB := hN.pure; have hS := hS.join hN; clear hN
  refine wpS_store rfl rfl rfl CellsOf.agg hS ps7 st0_22 (by kernel_rfl) rfl (fun w hS hB => ?_)
  refine wpS_nil ?_
  refine QH_seq_k hK58 ?_
  refine wpC_seq_k (fun K hK81 => ?_)
  refine wpC_region ?_
  refine wpS_put rfl rfl rfl (yv_fieldAddr fo_30_4 rfl) ?_
  refine wpS_put rfl rfl rfl (yv_fieldAddr fo_26_3 rfl) ?_
  refine wpS_put rfl rfl rfl (yv_load_box sc_3 rfl (RW.here _) hS hs7 trivial sg11_1) ?_
  refine wpS_put rfl rfl rfl (yv_eql rfl rfl) ?_
  refine wpS_quick 1 rfl ?_
  refine wpS_case 26 rfl (fun hb => ?_) (fun hb => ?_)
  · replace H := cond_t H hb
    refine wpS_quick 8 rfl ?_
    refine wpS_nil ?_
    refine QH_seq_k hK81 ?_
    refine wpC_seq_k (fun K hK82 => ?_)
    refine wpC_region ?_
    refine wpS_quick 2 rfl ?_
    refine wpS_put rfl rfl rfl (yv_fieldAddr fo_30_2 rfl) ?_
    refine wpS_put rfl rfl rfl (yv_load_box sc_5 rfl (RW.here _) hS hs7 trivial sg2_1) ?_
    refine wpS_put rfl rfl rfl (yv_eql rfl rfl) ?_
    refine wpS_quick 2 rfl ?_
    refine wpS_case 40 rfl (fun hb => ?_) (fun hb => ?_)
    rotate_left
    · replace H := cond_f H hb
      refine wpS_quick 16 rfl ?_
      refine wpS_nil ?_
      refine QH_seq_k hK82 ?_
      refine wpC_seq_k (fun K hK122 => ?_)
      refine wpC_seq_k (fun K hK123 => ?_)
      refine wpC_region ?_
      refine wpS_quick 1 rfl ?_
      refine wpS_nil ?_
      refine QH_seq_k hK123 ?_
      refine wpC_cond_f rfl rfl ?_
      refine wpC_skip ?_
      refine QH_seq_k hK122 ?_
      refine wpC_seq_k (fun K hK124 => ?_)
      refine wpC_draw 8 [6] (fun i b => (i = 6 → b ≠ b6)) ⟨by kernel_rfl, by kernel_rfl⟩ hS (fun w hS hB => ?_)
      refine wpR_batch [true] (by decide +kernel) (by repeat (first | exact PF.body | exact PF.round | apply PF.then | apply PF.inBlock | apply PF.jump)) ?_
      refine LtK.put rfl rfl rfl (yv_load_boxA ag_30 rfl (RW.below _) hS hs7 trivial sg0_22) ?_
      refine LtK.nil ?_
      refine wpR_batchG [false, true, true, true] [6] (fun b => b ≠ b6) (by decide +kernel) (by intro j hj b hb; simp only [List.mem_cons, List.not_mem_nil, or_false] at hj; (try rcases hj with rfl | rfl | rfl | rfl | rfl) <;> first | (simp [hb]; done) | simp_all) (by repeat (first | exact PF.body | exact PF.round | apply PF.then | apply PF.inBlock | apply PF.jump)) ?_
      refine LtK.put rfl rfl rfl (yv_load_boxA ag_30 rfl (RW.keepB _ _) hS hs7 (hS.ne 7 5 rfl rfl rfl) sg0_22) ?_
      refine LtK.put rfl rfl rfl (yv_load_boxA ag_36 rfl (RW.keepB _ _) hS hs6 (hS.ne 6 5 rfl rfl rfl) sg0_15) ?_
      refine LtK.put rfl rfl rfl (yv_move rfl) ?_
      refine LtK.nil ?_
      refine wpR_call [false, false, false, false, true] 4 ⟨by decide, by kernel_rfl, by kernel_rfl⟩ rfl rfl ?_
      try dsimp only [pickL]
      obtain ⟨r125, hm126, H⟩ := bind_some H
      refine wpS_call rfl rfl rfl rfl (by kernel_rfl) rfl (c_msg_Back r59 x1 2 false 0 A61 c62 A65 c66 A69 c70 A73 c74 A77 c78 A5_ c5_ _ (SlI.of_rd k63 (hS.rd hs0) (hS.rd_blk hs0)) (SlI.of_rd k67 (hS.row_rd hs1) (hS.row_blk hs1)) (SlI.of_rd k71 (hS.row_rd hs2) (hS.row_blk hs2)) (SlI.of_rd k75 (hS.row_rd hs3) (hS.row_blk hs3)) (SlI.of_rd k79 (hS.row_rd hs4) (hS.row_blk hs4)) (SlI.of_rd s5_.k (hS.rd0 s5_.rd) (hS.blk0 s5_.blk)) hm126) ?_
      rintro e w ⟨A127, c128, rfl, k129, hN⟩; refine ⟨_, rfl, ?_⟩; have hB := hN.pure; have hS := hS.join hN; clear hN
      refine wpS_nil ?_
      refine QH_step hB ?_
      refine wpR_many [5, 6] ⟨by decide, by kernel_rfl⟩ rfl (.call [false, false, false, false, false, true] 5 rfl rfl rfl ?_ (.put [false, false, false, false, false, false, true] 6 rfl rfl rfl ?_ .nil))
      · try dsimp only [pickL]
        refine wpS_sliceM (ps := [(0, .tmp 72)]) [.int .u8 r125.kind, .int .i64 r125.frm, .int .i64 r125.dst, .int .i64 r125.term, .int .i64 r125.cap, .int .i64 r125.last, .int .i64 r125.lastTerm, .int .i64 r125.commit, .bool r125.okk, .slice A127 r125.entries.length c128, .int .i64 r125.snap.index, .int .i64 r125.snap.term, .int .i64 r125.snap.sum, .int .i64 r125.snap.level, .bool r125.snap.final] el_32 zc_36 rfl rfl rfl rfl rfl (by kernel_rfl) hS (fun b131 w hS hB => ?_)
        refine wpS_nil ?_
        refine QH_step hB ?_
        refine wpR_seal [false, false, false, false, false, false, true] 6 ⟨by decide, by kernel_rfl, by kernel_rfl⟩ rfl rfl ?_
        try dsimp only [pickL]
        refine wpS_store rfl rfl rfl CellsOf.agg hS ps7 st0_22 (by kernel_rfl) rfl (fun w hS hB => ?_)
        refine wpS_nil ?_
        refine QH_stepG (hB.sub (fun _ _ h => by simpa using h)) ?_
        refine wpR_batch [false, false, false, false, false, false, false, true] (by decide +kernel) (by repeat (first | exact PF.body | exact PF.round | apply PF.then | apply PF.inBlock | apply PF.jump)) ?_
        refine LtK.put rfl rfl rfl (yv_assign rfl) ?_
        refine LtK.nil ?_
        refine wpR_end (by kernel_rfl) ?_
        refine QH_seq_k hK124 ?_
        refine wpC_ret ?_
        refine QH_ret rfl (RV.cell rfl (load_boxA ag_30 hS hs7 sg0_22) (RV.tmp rfl RV.nil)) rfl ?_
        obtain rfl := Option.some.inj H
        have hS := hS.nilRds
        replace hS := hS.front 2 rfl
        replace hS := hS.absorbQ ⟨r125, A127, c128⟩
        replace hS := hS.front 1 rfl
        replace hS := hS.weak Weak.boxRd
        have hS := hS.front 6 rfl
        have hS := hS.front 6 rfl
        have hS := hS.front 6 rfl
        have hS := hS.front 6 rfl
        have hS := hS.front 6 rfl
        replace hS := hS.cut 7
        exact ⟨A61, c62, A65, c66, A69, c70, A73, c74, A77, c78, (some ⟨b131, 0, none⟩), 1, ([⟨r125, A127, c128⟩] : List Mq), rfl, k63, k67, k71, k75, k79, ⟨Nat.le_refl 1, by decide⟩, rfl, (okq_cons k129 okq_nil), hS⟩
      · try dsimp only [pickL]
        refine wpS_store rfl rfl rfl CellsOf.agg hS ps6 st0_22 (by kernel_rfl) rfl (fun w hS hB => ?_)
        refine wpS_nil ?_
        refine QH_stepG (hB.sub (fun _ _ h => by simpa using h)) ?_
        refine wpR_call [false, false, false, false, false, true] 5 ⟨by decide, by kernel_rfl, by kernel_rfl⟩ rfl rfl ?_
        try dsimp only [pickL]
        refine wpS_sliceM (ps := [(0, .tmp 72)]) [.int .u8 r125.kind, .int .i64 r125.frm, .int .i64 r125.dst, .int .i64 r125.term, .int .i64 r125.cap, .int .i64 r125.last, .int .i64 r125.lastTerm, .int .i64 r125.commit, .bool r125.okk, .slice A127 r125.entries.length c128, .int .i64 r125.snap.index, .int .i64 r125.snap.term, .int .i64 r125.snap.sum, .int .i64 r125.snap.level, .bool r125.snap.final] el_32 zc_36 rfl rfl rfl rfl rfl (by kernel_rfl) hS (fun b131 w hS hB => ?_)
        refine wpS_nil ?_
        refine QH_step hB ?_
        refine wpR_batch [false, false, false, false, false, false, false, true] (by decide +kernel) (by repeat (first | exact PF.body | exact PF.round | apply PF.then | apply PF.inBlock | apply PF.jump)) ?_
        refine LtK.put rfl rfl rfl (yv_assign rfl) ?_
        refine LtK.nil ?_
        refine wpR_end (by kernel_rfl) ?_
        refine QH_seq_k hK124 ?_
        refine wpC_ret ?_
        refine QH_ret rfl (RV.cell rfl (load_boxA ag_30 hS hs7 sg0_22) (RV.tmp rfl RV.nil)) rfl ?_
        obtain rfl := Option.some.inj H
        have hS := hS.nilRds
        replace hS := hS.front 2 rfl
        replace hS := hS.absorbQ ⟨r125, A127, c128⟩
        replace hS := hS.front 1 rfl
        replace hS := hS.weak Weak.boxRd
        have hS := hS.front 6 rfl
        have hS := hS.front 6 rfl
        have hS := hS.front 6 rfl
        have hS := hS.front 6 rfl
        have hS := hS.front 6 rfl
        replace hS := hS.cut 7
        exact ⟨A61, c62, A65, c66, A69, c70, A73, c74, A77, c78, (some ⟨b131, 0, none⟩), 1, ([⟨r125, A127, c128⟩] : List Mq), rfl, k63, k67, k71, k75, k79, ⟨Nat.le_refl 1, by decide⟩, rfl, (okq_cons k129 okq_nil), hS⟩
    replace H := cond_t H hb
    refine wpS_put rfl rfl rfl (yv_fieldAddr fo_36_3 rfl) ?_
    refine wpS_put rfl rfl rfl (yv_load_box sc_3 rfl (RW.here _) hS hs6 trivial sg3_1) ?_
    refine wpS_put rfl rfl rfl (yv_fieldAddr fo_30_4 rfl) ?_
    refine wpS_put rfl rfl rfl (yv_fieldAddr fo_26_2 rfl) ?_
    refine wpS_put rfl rfl rfl (yv_load_box sc_3 rfl (RW.here _) hS hs7 trivial sg10_1) ?_
    refine wpS_put rfl rfl rfl (yv_eql rfl rfl) ?_
    refine wpS_quick 2 rfl ?_
    refine wpS_case 48 rfl (fun hb => ?_) (fun hb => ?_)
    rotate_left
    · replace H := cond_f H hb
      refine wpS_quick 8 rfl ?_
      refine wpS_nil ?_
      refine QH_seq_k hK82 ?_
      refine wpC_seq_k (fun K hK111 => ?_)
      refine wpC_seq_k (fun K hK112 => ?_)
      refine wpC_region ?_
      refine wpS_quick 1 rfl ?_
      refine wpS_nil ?_
      refine QH_seq_k hK112 ?_
      refine wpC_cond_f rfl rfl ?_
      refine wpC_skip ?_
      refine QH_seq_k hK111 ?_
      refine wpC_seq_k (fun K hK113 => ?_)
      refine wpC_draw 8 [6] (fun i b => (i = 6 → b ≠ b6)) ⟨by kernel_rfl, by kernel_rfl⟩ hS (fun w hS hB => ?_)
      refine wpR_batch [true] (by decide +kernel) (by repeat (first | exact PF.body | exact PF.round | apply PF.then | apply PF.inBlock | apply PF.jump)) ?_
      refine LtK.put rfl rfl rfl (yv_load_boxA ag_30 rfl (RW.below _) hS hs7 trivial sg0_22) ?_
      refine LtK.nil ?_
      refine wpR_batchG [false, true, true, true] [6] (fun b => b ≠ b6) (by decide +kernel) (by intro j hj b hb; simp only [List.mem_cons, List.not_mem_nil, or_false] at hj; (try rcases hj with rfl | rfl | rfl | rfl | rfl) <;> first | (simp [hb]; done) | simp_all) (by repeat (first | exact PF.body | exact PF.round | apply PF.then | apply PF.inBlock | apply PF.jump)) ?_
      refine LtK.put rfl rfl rfl (yv_load_boxA ag_30 rfl (RW.keepB _ _) hS hs7 (hS.ne 7 5 rfl rfl rfl) sg0_22) ?_
      refine LtK.put rfl rfl rfl (yv_load_boxA ag_36 rfl (RW.keepB _ _) hS hs6 (hS.ne 6 5 rfl rfl rfl) sg0_15) ?_
      refine LtK.put rfl rfl rfl (yv_move rfl) ?_
      refine LtK.nil ?_
      refine wpR_call [false, false, false, false, true] 4 ⟨by decide, by kernel_rfl, by kernel_rfl⟩ rfl rfl ?_
      try dsimp only [pickL]
      obtain ⟨r114, hm115, H⟩ := bind_some H
      refine wpS_call rfl rfl rfl rfl (by kernel_rfl) rfl (c_msg_Back r59 x1 2 false 0 A61 c62 A65 c66 A69 c70 A73 c74 A77 c78 A5_ c5_ _ (SlI.of_rd k63 (hS.rd hs0) (hS.rd_blk hs0)) (SlI.of_rd k67 (hS.row_rd hs1) (hS.row_blk hs1)) (SlI.of_rd k71 (hS.row_rd hs2) (hS.row_blk hs2)) (SlI.of_rd k75 (hS.row_rd hs3) (hS.row_blk hs3)) (SlI.of_rd k79 (hS.row_rd hs4) (hS.row_blk hs4)) (SlI.of_rd s5_.k (hS.rd0 s5_.rd) (hS.blk0 s5_.blk)) hm115) ?_
      rintro e w ⟨A116, c117, rfl, k118, hN⟩; refine ⟨_, rfl, ?_⟩; have hB := hN.pure; have hS := hS.join hN; clear hN
      refine wpS_nil ?_
      refine QH_step hB ?_
      refine wpR_many [5, 6] ⟨by decide, by kernel_rfl⟩ rfl (.call [false, false, false, false, false, true] 5 rfl rfl rfl ?_ (.put [false, false, false, false, false, false, true] 6 rfl rfl rfl ?_ .nil))
      · try dsimp only [pickL]
        refine wpS_sliceM (ps := [(0, .tmp 72)]) [.int .u8 r114.kind, .int .i64 r114.frm, .int .i64 r114.dst, .int .i64 r114.term, .int .i64 r114.cap, .int .i64 r114.last, .int .i64 r114.lastTerm, .int .i64 r114.commit, .bool r114.okk, .slice A116 r114.entries.length c117, .int .i64 r114.snap.index, .int .i64 r114.snap.term, .int .i64 r114.snap.sum, .int .i64 r114.snap.level, .bool r114.snap.final] el_32 zc_36 rfl rfl rfl rfl rfl (by kernel_rfl) hS (fun b120 w hS hB => ?_)
        refine wpS_nil ?_
        refine QH_step hB ?_
        refine wpR_seal [false, false, false, false, false, false, true] 6 ⟨by decide, by kernel_rfl, by kernel_rfl⟩ rfl rfl ?_
        try dsimp only [pickL]
        refine wpS_store rfl rfl rfl CellsOf.agg hS ps7 st0_22 (by kernel_rfl) rfl (fun w hS hB => ?_)
        refine wpS_nil ?_
        refine QH_stepG (hB.sub (fun _ _ h => by simpa using h)) ?_
        refine wpR_batch [false, false, false, false, false, false, false, true] (by decide +kernel) (by repeat (first | exact PF.body | exact PF.round | apply PF.then | apply PF.inBlock | apply PF.jump)) ?_
        refine LtK.put rfl rfl rfl (yv_assign rfl) ?_
        refine LtK.nil ?_
        refine wpR_end (by kernel_rfl) ?_
        refine QH_seq_k hK113 ?_
        refine wpC_ret ?_
        refine QH_ret rfl (RV.cell rfl (load_boxA ag_30 hS hs7 sg0_22) (RV.tmp rfl RV.nil)) rfl ?_
        obtain rfl := Option.some.inj H
        have hS := hS.nilRds
        replace hS := hS.front 2 rfl
        replace hS := hS.absorbQ ⟨r114, A116, c117⟩
        replace hS := hS.front 1 rfl
        replace hS := hS.weak Weak.boxRd
        have hS := hS.front 6 rfl
        have hS := hS.front 6 rfl
        have hS := hS.front 6 rfl
        have hS := hS.front 6 rfl
        have hS := hS.front 6 rfl
        replace hS := hS.cut 7
        exact ⟨A61, c62, A65, c66, A69, c70, A73, c74, A77, c78, (some ⟨b120, 0, none⟩), 1, ([⟨r114, A116, c117⟩] : List Mq), rfl, k63, k67, k71, k75, k79, ⟨Nat.le_refl 1, by decide⟩, rfl, (okq_cons k118 okq_nil), hS⟩
      · try dsimp only [pickL]
        refine wpS_store rfl rfl rfl CellsOf.agg hS ps6 st0_22 (by kernel_rfl) rfl (fun w hS hB => ?_)
        refine wpS_nil ?_
        refine QH_stepG (hB.sub (fun _ _ h => by simpa using h)) ?_
        refine wpR_call [false, false, false, false, false, true] 5 ⟨by decide, by kernel_rfl, by kernel_rfl⟩ rfl rfl ?_
        try dsimp only [pickL]
        refine wpS_sliceM (ps := [(0, .tmp 72)]) [.int .u8 r114.kind, .int .i64 r114.frm, .int .i64 r114.dst, .int .i64 r114.term, .int .i64 r114.cap, .int .i64 r114.last, .int .i64 r114.lastTerm, .int .i64 r114.commit, .bool r114.okk, .slice A116 r114.entries.length c117, .int .i64 r114.snap.index, .int .i64 r114.snap.term, .int .i64 r114.snap.sum, .int .i64 r114.snap.level, .bool r114.snap.final] el_32 zc_36 rfl rfl rfl rfl rfl (by kernel_rfl) hS (fun b120 w hS hB => ?_)
        refine wpS_nil ?_
        refine QH_step hB ?_
        refine wpR_batch [false, false, false, false, false, false, false, true] (by decide +kernel) (by repeat (first | exact PF.body | exact PF.round | apply PF.then | apply PF.inBlock | apply PF.jump)) ?_
        refine LtK.put rfl rfl rfl (yv_assign rfl) ?_
        refine LtK.nil ?_
        refine wpR_end (by kernel_rfl) ?_
        refine QH_seq_k hK113 ?_
        refine wpC_ret ?_
        refine QH_ret rfl (RV.cell rfl (load_boxA ag_30 hS hs7 sg0_22) (RV.tmp rfl RV.nil)) rfl ?_
        obtain rfl := Option.some.inj H
        have hS := hS.nilRds
        replace hS := hS.front 2 rfl
        replace hS := hS.absorbQ ⟨r114, A116, c117⟩
        replace hS := hS.front 1 rfl
        replace hS := hS.weak Weak.boxRd
        have hS := hS.front 6 rfl
        have hS := hS.front 6 rfl
        have hS := hS.front 6 rfl
        have hS := hS.front 6 rfl
        have hS := hS.front 6 rfl
        replace hS := hS.cut 7
        exact ⟨A61, c62, A65, c66, A69, c70, A73, c74, A77, c78, (some ⟨b120, 0, none⟩), 1, ([⟨r114, A116, c117⟩] : List Mq), rfl, k63, k67, k71, k75, k79, ⟨Nat.le_refl 1, by decide⟩, rfl, (okq_cons k118 okq_nil), hS⟩
    replace H := cond_t H hb
    refine wpS_put rfl rfl rfl (yv_load_boxA ag_30 rfl (RW.here _) hS hs7 trivial sg0_22) ?_
    refine wpS_put rfl rfl rfl (yv_fieldAddr fo_36_6 rfl) ?_
    refine wpS_put rfl rfl rfl (yv_load_box sc_3 rfl (RW.here _) hS hs6 trivial sg6_1) ?_
    refine wpS_put rfl rfl rfl (yv_fieldAddr fo_36_5 rfl) ?_
    refine wpS_put rfl rfl rfl (yv_load_box sc_3 rfl (RW.here _) hS hs6 trivial sg5_1) ?_
    obtain ⟨r83, hm84, H⟩ := bind_some H
    refine wpS_call rfl rfl rfl rfl (by kernel_rfl) rfl (c_elect_Newer r59 x1.lastTerm x1.last A61 c62 A65 c66 A69 c70 A73 c74 A77 c78 _ (SlI.of_rd k63 (hS.rd hs0) (hS.rd_blk hs0)) (SlI.of_rd k67 (hS.row_rd hs1) (hS.row_blk hs1)) (SlI.of_rd k71 (hS.row_rd hs2) (hS.row_blk hs2)) (SlI.of_rd k75 (hS.row_rd hs3) (hS.row_blk hs3)) (SlI.of_rd k79 (hS.row_rd hs4) (hS.row_blk hs4)) hm84) ?_
    rintro e w ⟨rfl, hN⟩; refine ⟨_, rfl, ?_⟩; have hB := hN.pure; have hS := hS.join hN; clear hN
    refine wpS_quick 2 rfl ?_
    refine wpS_nil ?_
    refine QH_seq_k hK82 ?_
    refine wpC_seq_k (fun K hK85 => ?_)
    refine wpC_seq_k (fun K hK86 => ?_)
    refine wpC_region ?_
    refine wpS_quick 1 rfl ?_
    refine wpS_nil ?_
    refine QH_seq_k hK86 ?_
    refine wpC_cond rfl (fun hb => ?_) (fun hb => ?_)
    rotate_left
    · replace H := cond_f H hb
      refine wpC_skip ?_
      refine QH_seq_k hK85 ?_
      refine wpC_seq_k (fun K hK102 => ?_)
      refine wpC_draw 8 [6] (fun i b => (i = 6 → b ≠ b6)) ⟨by kernel_rfl, by kernel_rfl⟩ hS (fun w hS hB => ?_)
      refine wpR_batch [true] (by decide +kernel) (by repeat (first | exact PF.body | exact PF.round | apply PF.then | apply PF.inBlock | apply PF.jump)) ?_
      refine LtK.put rfl rfl rfl (yv_load_boxA ag_30 rfl (RW.below _) hS hs7 trivial sg0_22) ?_
      refine LtK.nil ?_
      refine wpR_batchG [false, true, true, true] [6] (fun b => b ≠ b6) (by decide +kernel) (by intro j hj b hb; simp only [List.mem_cons, List.not_mem_nil, or_false] at hj; (try rcases hj with rfl | rfl | rfl | rfl | rfl) <;> first | (simp [hb]; done) | simp_all) (by repeat (first | exact PF.body | exact PF.round | apply PF.then | apply PF.inBlock | apply PF.jump)) ?_
      refine LtK.put rfl rfl rfl (yv_load_boxA ag_30 rfl (RW.keepB _ _) hS hs7 (hS.ne 7 5 rfl rfl rfl) sg0_22) ?_
      refine LtK.put rfl rfl rfl (yv_load_boxA ag_36 rfl (RW.keepB _ _) hS hs6 (hS.ne 6 5 rfl rfl rfl) sg0_15) ?_
      refine LtK.put rfl rfl rfl (yv_move rfl) ?_
      refine LtK.nil ?_
      refine wpR_call [false, false, false, false, true] 4 ⟨by decide, by kernel_rfl, by kernel_rfl⟩ rfl rfl ?_
      try dsimp only [pickL]
      obtain ⟨r103, hm104, H⟩ := bind_some H
      refine wpS_call rfl rfl rfl rfl (by kernel_rfl) rfl (c_msg_Back r59 x1 2 r83 0 A61 c62 A65 c66 A69 c70 A73 c74 A77 c78 A5_ c5_ _ (SlI.of_rd k63 (hS.rd hs0) (hS.rd_blk hs0)) (SlI.of_rd k67 (hS.row_rd hs1) (hS.row_blk hs1)) (SlI.of_rd k71 (hS.row_rd hs2) (hS.row_blk hs2)) (SlI.of_rd k75 (hS.row_rd hs3) (hS.row_blk hs3)) (SlI.of_rd k79 (hS.row_rd hs4) (hS.row_blk hs4)) (SlI.of_rd s5_.k (hS.rd0 s5_.rd) (hS.blk0 s5_.blk)) hm104) ?_
      rintro e w ⟨A105, c106, rfl, k107, hN⟩; refine ⟨_, rfl, ?_⟩; have hB := hN.pure; have hS := hS.join hN; clear hN
      refine wpS_nil ?_
      refine QH_step hB ?_
      refine wpR_many [5, 6] ⟨by decide, by kernel_rfl⟩ rfl (.call [false, false, false, false, false, true] 5 rfl rfl rfl ?_ (.put [false, false, false, false, false, false, true] 6 rfl rfl rfl ?_ .nil))
      · try dsimp only [pickL]
        refine wpS_sliceM (ps := [(0, .tmp 72)]) [.int .u8 r103.kind, .int .i64 r103.frm, .int .i64 r103.dst, .int .i64 r103.term, .int .i64 r103.cap, .int .i64 r103.last, .int .i64 r103.lastTerm, .int .i64 r103.commit, .bool r103.okk, .slice A105 r103.entries.length c106, .int .i64 r103.snap.index, .int .i64 r103.snap.term, .int .i64 r103.snap.sum, .int .i64 r103.snap.level, .bool r103.snap.final] el_32 zc_36 rfl rfl rfl rfl rfl (by kernel_rfl) hS (fun b109 w hS hB => ?_)
        refine wpS_nil ?_
        refine QH_step hB ?_
        refine wpR_seal [false, false, false, false, false, false, true] 6 ⟨by decide, by kernel_rfl, by kernel_rfl⟩ rfl rfl ?_
        try dsimp only [pickL]
        refine wpS_store rfl rfl rfl CellsOf.agg hS ps7 st0_22 (by kernel_rfl) rfl (fun w hS hB => ?_)
        refine wpS_nil ?_
        refine QH_stepG (hB.sub (fun _ _ h => by simpa using h)) ?_
        refine wpR_batch [false, false, false, false, false, false, false, true] (by decide +kernel) (by repeat (first | exact PF.body | exact PF.round | apply PF.then | apply PF.inBlock | apply PF.jump)) ?_
        refine LtK.put rfl rfl rfl (yv_assign rfl) ?_
        refine LtK.nil ?_
        refine wpR_end (by kernel_rfl) ?_
        refine QH_seq_k hK102 ?_
        refine wpC_ret ?_
        refine QH_ret rfl (RV.cell rfl (load_boxA ag_30 hS hs7 sg0_22) (RV.tmp rfl RV.nil)) rfl ?_
        obtain rfl := Option.some.inj H
        have hS := hS.nilRds
        replace hS := hS.front 2 rfl
        replace hS := hS.absorbQ ⟨r103, A105, c106⟩
        replace hS := hS.front 1 rfl
        replace hS := hS.weak Weak.boxRd
        have hS := hS.front 6 rfl
        have hS := hS.front 6 rfl
        have hS := hS.front 6 rfl
        have hS := hS.front 6 rfl
        have hS := hS.front 6 rfl
        replace hS := hS.cut 7
        exact ⟨A61, c62, A65, c66, A69, c70, A73, c74, A77, c78, (some ⟨b109, 0, none⟩), 1, ([⟨r103, A105, c106⟩] : List Mq), rfl, k63, k67, k71, k75, k79, ⟨Nat.le_refl 1, by decide⟩, rfl, (okq_cons k107 okq_nil), hS⟩
      · try dsimp only [pickL]
        refine wpS_store rfl rfl rfl CellsOf.agg hS ps6 st0_22 (by kernel_rfl) rfl (fun w hS hB => ?_)
        refine wpS_nil ?_
        refine QH_stepG (hB.sub (fun _ _ h => by simpa using h)) ?_
        refine wpR_call [false, false, false, false, false, true] 5 ⟨by decide, by kernel_rfl, by kernel_rfl⟩ rfl rfl ?_
        try dsimp only [pickL]
        refine wpS_sliceM (ps := [(0, .tmp 72)]) [.int .u8 r103.kind, .int .i64 r103.frm, .int .i64 r103.dst, .int .i64 r103.term, .int .i64 r103.cap, .int .i64 r103.last, .int .i64 r103.lastTerm, .int .i64 r103.commit, .bool r103.okk, .slice A105 r103.entries.length c106, .int .i64 r103.snap.index, .int .i64 r103.snap.term, .int .i64 r103.snap.sum, .int .i64 r103.snap.level, .bool r103.snap.final] el_32 zc_36 rfl rfl rfl rfl rfl (by kernel_rfl) hS (fun b109 w hS hB => ?_)
        refine wpS_nil ?_
        refine QH_step hB ?_
        refine wpR_batch [false, false, false, false, false, false, false, true] (by decide +kernel) (by repeat (first | exact PF.body | exact PF.round | apply PF.then | apply PF.inBlock | apply PF.jump)) ?_
        refine LtK.put rfl rfl rfl (yv_assign rfl) ?_
        refine LtK.nil ?_
        refine wpR_end (by kernel_rfl) ?_
        refine QH_seq_k hK102 ?_
        refine wpC_ret ?_
        refine QH_ret rfl (RV.cell rfl (load_boxA ag_30 hS hs7 sg0_22) (RV.tmp rfl RV.nil)) rfl ?_
        obtain rfl := Option.some.inj H
        have hS := hS.nilRds
        replace hS := hS.front 2 rfl
        replace hS := hS.absorbQ ⟨r103, A105, c106⟩
        replace hS := hS.front 1 rfl
        replace hS := hS.weak Weak.boxRd
        have hS := hS.front 6 rfl
        have hS := hS.front 6 rfl
        have hS := hS.front 6 rfl
        have hS := hS.front 6 rfl
        have hS := hS.front 6 rfl
        replace hS := hS.cut 7
        exact ⟨A61, c62, A65, c66, A69, c70, A73, c74, A77, c78, (some ⟨b109, 0, none⟩), 1, ([⟨r103, A105, c106⟩] : List Mq), rfl, k63, k67, k71, k75, k79, ⟨Nat.le_refl 1, by decide⟩, rfl, (okq_cons k107 okq_nil), hS⟩
    replace H := cond_t H hb
    refine wpC_region ?_
    refine wpS_put rfl rfl rfl (yv_fieldAddr fo_30_4 rfl) ?_
    refine wpS_put rfl rfl rfl (yv_load_boxA ag_26 rfl (RW.here _) hS hs7 trivial sg4_8) ?_
    refine wpS_put rfl rfl rfl (yv_fieldAddr fo_36_3 rfl) ?_
    refine wpS_put rfl rfl rfl (yv_load_box sc_3 rfl (RW.here _) hS hs6 trivial sg3_1) ?_
    refine wpS_put rfl rfl rfl (yv_fieldAddr fo_36_1 rfl) ?_
    refine wpS_put rfl rfl rfl (yv_load_box sc_3 rfl (RW.here _) hS hs6 trivial sg1_1) ?_
    obtain ⟨r87, hm88, H⟩ := bind_some H
    refine wpS_call rfl rfl rfl rfl (by kernel_rfl) rfl (c_tuple_Hard r59.tuple x1.term x1.frm A61 c62 _ (SlI.of_rd k63 (hS.rd hs0) (hS.rd_blk hs0)) hm88) ?_
    rintro e w ⟨A89, c90, rfl, k91, hN⟩; refine ⟨_, rfl, ?_⟩; have hB := hN.pure; have hS := hS.join hN; clear hN
    refine wpS_quick 1 rfl ?_
    refine wpS_put rfl rfl rfl (yv_extract rfl rfl) ?_
    refine wpS_put rfl rfl rfl (yv_extract rfl rfl) ?_
    refine wpS_put rfl rfl rfl (yv_fieldAddr fo_30_4 rfl) ?_
    refine wpS_store rfl rfl rfl CellsOf.agg hS ps8 st4_8 (by kernel_rfl) rfl (fun w hS hB => ?_)
    refine wpS_nil ?_
    refine QH_seq_k hK85 ?_
    refine wpC_seq_k (fun K hK93 => ?_)
    refine wpC_draw 8 [6] (fun i b => (i = 6 → b ≠ b6)) ⟨by kernel_rfl, by kernel_rfl⟩ hS (fun w hS hB => ?_)
    refine wpR_batch [true] (by decide +kernel) (by repeat (first | exact PF.body | exact PF.round | apply PF.then | apply PF.inBlock | apply PF.jump)) ?_
    refine LtK.put rfl rfl rfl (yv_load_boxA ag_30 rfl (RW.below _) hS hs8 trivial sg0_22) ?_
    refine LtK.nil ?_
    refine wpR_batchG [false, true, true, true] [6] (fun b => b ≠ b6) (by decide +kernel) (by intro j hj b hb; simp only [List.mem_cons, List.not_mem_nil, or_false] at hj; (try rcases hj with rfl | rfl | rfl | rfl | rfl) <;> first | (simp [hb]; done) | simp_all) (by repeat (first | exact PF.body | exact PF.round | apply PF.then | apply PF.inBlock | apply PF.jump)) ?_
    refine LtK.put rfl rfl rfl (yv_load_boxA ag_30 rfl (RW.keepB _ _) hS hs8 (hS.ne 8 6 rfl rfl rfl) sg0_22) ?_
    refine LtK.put rfl rfl rfl (yv_load_boxA ag_36 rfl (RW.keepB _ _) hS hs7 (hS.ne 7 6 rfl rfl rfl) sg0_15) ?_
    refine LtK.put rfl rfl rfl (yv_move rfl) ?_
    refine LtK.nil ?_
    refine wpR_call [false, false, false, false, true] 4 ⟨by decide, by kernel_rfl, by kernel_rfl⟩ rfl rfl ?_
    try dsimp only [pickL]
    obtain ⟨r94, hm95, H⟩ := bind_some H
    refine wpS_call rfl rfl rfl rfl (by kernel_rfl) rfl (c_msg_Back (⟨r59.id, r59.n, r59.role, r59.binary, r87.1, r59.commit, r59.applied, r59.votes, r59.next, r59.mtch, r59.caps⟩ : Co) x1 2 r83 0 A89 c90 A65 c66 A69 c70 A73 c74 A77 c78 A5_ c5_ _ (SlI.of_rd k91 (hS.rd hs0) (hS.rd_blk hs0)) (SlI.of_rd k67 (hS.row_rd hs2) (hS.row_blk hs2)) (SlI.of_rd k71 (hS.row_rd hs3) (hS.row_blk hs3)) (SlI.of_rd k75 (hS.row_rd hs4) (hS.row_blk hs4)) (SlI.of_rd k79 (hS.row_rd hs5) (hS.row_blk hs5)) (SlI.of_rd s5_.k (hS.rd0 s5_.rd) (hS.blk0 s5_.blk)) hm95) ?_
    rintro e w ⟨A96, c97, rfl, k98, hN⟩; refine ⟨_, rfl, ?_⟩; have hB := hN.pure; have hS := hS.join hN; clear hN
    refine wpS_nil ?_
    refine QH_step hB ?_
    refine wpR_many [5, 6] ⟨by decide, by kernel_rfl⟩ rfl (.call [false, false, false, false, false, true] 5 rfl rfl rfl ?_ (.put [false, false, false, false, false, false, true] 6 rfl rfl rfl ?_ .nil))
    · try dsimp only [pickL]
      refine wpS_sliceM (ps := [(0, .tmp 72)]) [.int .u8 r94.kind, .int .i64 r94.frm, .int .i64 r94.dst, .int .i64 r94.term, .int .i64 r94.cap, .int .i64 r94.last, .int .i64 r94.lastTerm, .int .i64 r94.commit, .bool r94.okk, .slice A96 r94.entries.length c97, .int .i64 r94.snap.index, .int .i64 r94.snap.term, .int .i64 r94.snap.sum, .int .i64 r94.snap.level, .bool r94.snap.final] el_32 zc_36 rfl rfl rfl rfl rfl (by kernel_rfl) hS (fun b100 w hS hB => ?_)
      refine wpS_nil ?_
      refine QH_step hB ?_
      refine wpR_seal [false, false, false, false, false, false, true] 6 ⟨by decide, by kernel_rfl, by kernel_rfl⟩ rfl rfl ?_
      try dsimp only [pickL]
      refine wpS_store rfl rfl rfl CellsOf.agg hS ps8 st0_22 (by kernel_rfl) rfl (fun w hS hB => ?_)
      refine wpS_nil ?_
      refine QH_stepG (hB.sub (fun _ _ h => by simpa using h)) ?_
      refine wpR_batch [false, false, false, false, false, false, false, true] (by decide +kernel) (by repeat (first | exact PF.body | exact PF.round | apply PF.then | apply PF.inBlock | apply PF.jump)) ?_
      refine LtK.put rfl rfl rfl (yv_assign rfl) ?_
      refine LtK.nil ?_
      refine wpR_end (by kernel_rfl) ?_
      refine QH_seq_k hK93 ?_
      refine wpC_ret ?_
      refine QH_ret rfl (RV.cell rfl (load_boxA ag_30 hS hs8 sg0_22) (RV.tmp rfl RV.nil)) rfl ?_
      obtain rfl := Option.some.inj H
      have hS := hS.nilRds
      replace hS := hS.front 2 rfl
      replace hS := hS.absorbQ ⟨r94, A96, c97⟩
      replace hS := hS.front 1 rfl
      replace hS := hS.weak Weak.boxRd
      have hS := hS.front 7 rfl
      have hS := hS.front 7 rfl
      have hS := hS.front 7 rfl
      have hS := hS.front 7 rfl
      have hS := hS.front 6 rfl
      replace hS := hS.cut 7
      exact ⟨A89, c90, A65, c66, A69, c70, A73, c74, A77, c78, (some ⟨b100, 0, none⟩), 1, ([⟨r94, A96, c97⟩] : List Mq), rfl, k91, k67, k71, k75, k79, ⟨Nat.le_refl 1, by decide⟩, rfl, (okq_cons k98 okq_nil), hS⟩
    · try dsimp only [pickL]
      refine wpS_store rfl rfl rfl CellsOf.agg hS ps7 st0_22 (by kernel_rfl) rfl (fun w hS hB => ?_)
      refine wpS_nil ?_
      refine QH_stepG (hB.sub (fun _ _ h => by simpa using h)) ?_
      refine wpR_call [false, false, false, false, false, true] 5 ⟨by decide, by kernel_rfl, by kernel_rfl⟩ rfl rfl ?_
      try dsimp only [pickL]
      refine wpS_sliceM (ps := [(0, .tmp 72)]) [.int .u8 r94.kind, .int .i64 r94.frm, .int .i64 r94.dst, .int .i64 r94.term, .int .i64 r94.cap, .int .i64 r94.last, .int .i64 r94.lastTerm, .int .i64 r94.commit, .bool r94.okk, .slice A96 r94.entries.length c97, .int .i64 r94.snap.index, .int .i64 r94.snap.term, .int .i64 r94.snap.sum, .int .i64 r94.snap.level, .bool r94.snap.final] el_32 zc_36 rfl rfl rfl rfl rfl (by kernel_rfl) hS (fun b100 w hS hB => ?_)
      refine wpS_nil ?_
      refine QH_step hB ?_
      refine wpR_batch [false, false, false, false, false, false, false, true] (by decide +kernel) (by repeat (first | exact PF.body | exact PF.round | apply PF.then | apply PF.inBlock | apply PF.jump)) ?_
      refine LtK.put rfl rfl rfl (yv_assign rfl) ?_
      refine LtK.nil ?_
      refine wpR_end (by kernel_rfl) ?_
      refine QH_seq_k hK93 ?_
      refine wpC_ret ?_
      refine QH_ret rfl (RV.cell rfl (load_boxA ag_30 hS hs8 sg0_22) (RV.tmp rfl RV.nil)) rfl ?_
      obtain rfl := Option.some.inj H
      have hS := hS.nilRds
      replace hS := hS.front 2 rfl
      replace hS := hS.absorbQ ⟨r94, A96, c97⟩
      replace hS := hS.front 1 rfl
      replace hS := hS.weak Weak.boxRd
      have hS := hS.front 7 rfl
      have hS := hS.front 7 rfl
      have hS := hS.front 7 rfl
      have hS := hS.front 7 rfl
      have hS := hS.front 6 rfl
      replace hS := hS.cut 7
      exact ⟨A89, c90, A65, c66, A69, c70, A73, c74, A77, c78, (some ⟨b100, 0, none⟩), 1, ([⟨r94, A96, c97⟩] : List Mq), rfl, k91, k67, k71, k75, k79, ⟨Nat.le_refl 1, by decide⟩, rfl, (okq_cons k98 okq_nil), hS⟩
  replace H := cond_f H hb
  refine wpS_put rfl rfl rfl (yv_fieldAddr fo_30_4 rfl) ?_
  refine wpS_put rfl rfl rfl (yv_fieldAddr fo_26_3 rfl) ?_
  refine wpS_put rfl rfl rfl (yv_load_box sc_3 rfl (RW.here _) hS hs7 trivial sg11_1) ?_
  refine wpS_put rfl rfl rfl (yv_fieldAddr fo_36_1 rfl) ?_
  refine wpS_put rfl rfl rfl (yv_load_box sc_3 rfl (RW.here _) hS hs6 trivial sg1_1) ?_
  refine wpS_put rfl rfl rfl (yv_eql rfl rfl) ?_
  refine wpS_quick 2 rfl ?_
  refine wpS_nil ?_
  refine QH_seq_k hK81 ?_
  refine wpC_seq_k (fun K hK133 => ?_)
  refine wpC_region ?_
  refine wpS_quick 2 rfl ?_
  refine wpS_case 35 rfl (fun hb => ?_) (fun hb => ?_)
  rotate_left
  · replace H := cond_f H hb
    refine wpS_quick 21 rfl ?_
    refine wpS_nil ?_
    refine QH_seq_k hK133 ?_
    refine wpC_seq_k (fun K hK184 => ?_)
    refine wpC_seq_k (fun K hK185 => ?_)
    refine wpC_region ?_
    refine wpS_quick 1 rfl ?_
    refine wpS_nil ?_
    refine QH_seq_k hK185 ?_
    refine wpC_cond_f rfl rfl ?_
    refine wpC_skip ?_
    refine QH_seq_k hK184 ?_
    refine wpC_seq_k (fun K hK186 => ?_)
    refine wpC_draw 8 [6] (fun i b => (i = 6 → b ≠ b6)) ⟨by kernel_rfl, by kernel_rfl⟩ hS (fun w hS hB => ?_)
    refine wpR_batch [true] (by decide +kernel) (by repeat (first | exact PF.body | exact PF.round | apply PF.then | apply PF.inBlock | apply PF.jump)) ?_
    refine LtK.put rfl rfl rfl (yv_load_boxA ag_30 rfl (RW.below _) hS hs7 trivial sg0_22) ?_
    refine LtK.nil ?_
    refine wpR_batchG [false, true, true, true] [6] (fun b => b ≠ b6) (by decide +kernel) (by intro j hj b hb; simp only [List.mem_cons, List.not_mem_nil, or_false] at hj; (try rcases hj with rfl | rfl | rfl | rfl | rfl) <;> first | (simp [hb]; done) | simp_all) (by repeat (first | exact PF.body | exact PF.round | apply PF.then | apply PF.inBlock | apply PF.jump)) ?_
    refine LtK.put rfl rfl rfl (yv_load_boxA ag_30 rfl (RW.keepB _ _) hS hs7 (hS.ne 7 5 rfl rfl rfl) sg0_22) ?_
    refine LtK.put rfl rfl rfl (yv_load_boxA ag_36 rfl (RW.keepB _ _) hS hs6 (hS.ne 6 5 rfl rfl rfl) sg0_15) ?_
    refine LtK.put rfl rfl rfl (yv_move rfl) ?_
    refine LtK.nil ?_
    refine wpR_call [false, false, false, false, true] 4 ⟨by decide, by kernel_rfl, by kernel_rfl⟩ rfl rfl ?_
    try dsimp only [pickL]
    obtain ⟨r187, hm188, H⟩ := bind_some H
    refine wpS_call rfl rfl rfl rfl (by kernel_rfl) rfl (c_msg_Back r59 x1 2 false 0 A61 c62 A65 c66 A69 c70 A73 c74 A77 c78 A5_ c5_ _ (SlI.of_rd k63 (hS.rd hs0) (hS.rd_blk hs0)) (SlI.of_rd k67 (hS.row_rd hs1) (hS.row_blk hs1)) (SlI.of_rd k71 (hS.row_rd hs2) (hS.row_blk hs2)) (SlI.of_rd k75 (hS.row_rd hs3) (hS.row_blk hs3)) (SlI.of_rd k79 (hS.row_rd hs4) (hS.row_blk hs4)) (SlI.of_rd s5_.k (hS.rd0 s5_.rd) (hS.blk0 s5_.blk)) hm188) ?_
    rintro e w ⟨A189, c190, rfl, k191, hN⟩; refine ⟨_, rfl, ?_⟩; have hB := hN.pure; have hS := hS.join hN; clear hN
    refine wpS_nil ?_
    refine QH_step hB ?_
    refine wpR_many [5, 6] ⟨by decide, by kernel_rfl⟩ rfl (.call [false, false, false, false, false, true] 5 rfl rfl rfl ?_ (.put [false, false, false, false, false, false, true] 6 rfl rfl rfl ?_ .nil))
    · try dsimp only [pickL]
      refine wpS_sliceM (ps := [(0, .tmp 72)]) [.int .u8 r187.kind, .int .i64 r187.frm, .int .i64 r187.dst, .int .i64 r187.term, .int .i64 r187.cap, .int .i64 r187.last, .int .i64 r187.lastTerm, .int .i64 r187.commit, .bool r187.okk, .slice A189 r187.entries.length c190, .int .i64 r187.snap.index, .int .i64 r187.snap.term, .int .i64 r187.snap.sum, .int .i64 r187.snap.level, .bool r187.snap.final] el_32 zc_36 rfl rfl rfl rfl rfl (by kernel_rfl) hS (fun b193 w hS hB => ?_)
      refine wpS_nil ?_
      refine QH_step hB ?_
      refine wpR_seal [false, false, false, false, false, false, true] 6 ⟨by decide, by kernel_rfl, by kernel_rfl⟩ rfl rfl ?_
      try dsimp only [pickL]
      refine wpS_store rfl rfl rfl CellsOf.agg hS ps7 st0_22 (by kernel_rfl) rfl (fun w hS hB => ?_)
      refine wpS_nil ?_
      refine QH_stepG (hB.sub (fun _ _ h => by simpa using h)) ?_
      refine wpR_batch [false, false, false, false, false, false, false, true] (by decide +kernel) (by repeat (first | exact PF.body | exact PF.round | apply PF.then | apply PF.inBlock | apply PF.jump)) ?_
      refine LtK.put rfl rfl rfl (yv_assign rfl) ?_
      refine LtK.nil ?_
      refine wpR_end (by kernel_rfl) ?_
      refine QH_seq_k hK186 ?_
      refine wpC_ret ?_
      refine QH_ret rfl (RV.cell rfl (load_boxA ag_30 hS hs7 sg0_22) (RV.tmp rfl RV.nil)) rfl ?_
      obtain rfl := Option.some.inj H
      have hS := hS.nilRds
      replace hS := hS.front 2 rfl
      replace hS := hS.absorbQ ⟨r187, A189, c190⟩
      replace hS := hS.front 1 rfl
      replace hS := hS.weak Weak.boxRd
      have hS := hS.front 6 rfl
      have hS := hS.front 6 rfl
      have hS := hS.front 6 rfl
      have hS := hS.front 6 rfl
      have hS := hS.front 6 rfl
      replace hS := hS.cut 7
      exact ⟨A61, c62, A65, c66, A69, c70, A73, c74, A77, c78, (some ⟨b193, 0, none⟩), 1, ([⟨r187, A189, c190⟩] : List Mq), rfl, k63, k67, k71, k75, k79, ⟨Nat.le_refl 1, by decide⟩, rfl, (okq_cons k191 okq_nil), hS⟩
    · try dsimp only [pickL]
      refine wpS_store rfl rfl rfl CellsOf.agg hS ps6 st0_22 (by kernel_rfl) rfl (fun w hS hB => ?_)
      refine wpS_nil ?_
      refine QH_stepG (hB.sub (fun _ _ h => by simpa using h)) ?_
      refine wpR_call [false, false, false, false, false, true] 5 ⟨by decide, by kernel_rfl, by kernel_rfl⟩ rfl rfl ?_
      try dsimp only [pickL]
      refine wpS_sliceM (ps := [(0, .tmp 72)]) [.int .u8 r187.kind, .int .i64 r187.frm, .int .i64 r187.dst, .int .i64 r187.term, .int .i64 r187.cap, .int .i64 r187.last, .int .i64 r187.lastTerm, .int .i64 r187.commit, .bool r187.okk, .slice A189 r187.entries.length c190, .int .i64 r187.snap.index, .int .i64 r187.snap.term, .int .i64 r187.snap.sum, .int .i64 r187.snap.level, .bool r187.snap.final] el_32 zc_36 rfl rfl rfl rfl rfl (by kernel_rfl) hS (fun b193 w hS hB => ?_)
      refine wpS_nil ?_
      refine QH_step hB ?_
      refine wpR_batch [false, false, false, false, false, false, false, true] (by decide +kernel) (by repeat (first | exact PF.body | exact PF.round | apply PF.then | apply PF.inBlock | apply PF.jump)) ?_
      refine LtK.put rfl rfl rfl (yv_assign rfl) ?_
      refine LtK.nil ?_
      refine wpR_end (by kernel_rfl) ?_
      refine QH_seq_k hK186 ?_
      refine wpC_ret ?_
      refine QH_ret rfl (RV.cell rfl (load_boxA ag_30 hS hs7 sg0_22) (RV.tmp rfl RV.nil)) rfl ?_
      obtain rfl := Option.some.inj H
      have hS := hS.nilRds
      replace hS := hS.front 2 rfl
      replace hS := hS.absorbQ ⟨r187, A189, c190⟩
      replace hS := hS.front 1 rfl
      replace hS := hS.weak Weak.boxRd
      have hS := hS.front 6 rfl
      have hS := hS.front 6 rfl
      have hS := hS.front 6 rfl
      have hS := hS.front 6 rfl
      have hS := hS.front 6 rfl
      replace hS := hS.cut 7
      exact ⟨A61, c62, A65, c66, A69, c70, A73, c74, A77, c78, (some ⟨b193, 0, none⟩), 1, ([⟨r187, A189, c190⟩] : List Mq), rfl, k63, k67, k71, k75, k79, ⟨Nat.le_refl 1, by decide⟩, rfl, (okq_cons k191 okq_nil), hS⟩
  replace H := cond_t H hb
  refine wpS_put rfl rfl rfl (yv_fieldAddr fo_30_2 rfl) ?_
  refine wpS_put rfl rfl rfl (yv_load_box sc_5 rfl (RW.here _) hS hs7 trivial sg2_1) ?_
  refine wpS_put rfl rfl rfl (yv_eql rfl rfl) ?_
  refine wpS_quick 2 rfl ?_
  refine wpS_case 40 rfl (fun hb => ?_) (fun hb => ?_)
  rotate_left
  · replace H := cond_f H hb
    refine wpS_quick 16 rfl ?_
    refine wpS_nil ?_
    refine QH_seq_k hK133 ?_
    refine wpC_seq_k (fun K hK173 => ?_)
    refine wpC_seq_k (fun K hK174 => ?_)
    refine wpC_region ?_
    refine wpS_quick 1 rfl ?_
    refine wpS_nil ?_
    refine QH_seq_k hK174 ?_
    refine wpC_cond_f rfl rfl ?_
    refine wpC_skip ?_
    refine QH_seq_k hK173 ?_
    refine wpC_seq_k (fun K hK175 => ?_)
    refine wpC_draw 8 [6] (fun i b => (i = 6 → b ≠ b6)) ⟨by kernel_rfl, by kernel_rfl⟩ hS (fun w hS hB => ?_)
    refine wpR_batch [true] (by decide +kernel) (by repeat (first | exact PF.body | exact PF.round | apply PF.then | apply PF.inBlock | apply PF.jump)) ?_
    refine LtK.put rfl rfl rfl (yv_load_boxA ag_30 rfl (RW.below _) hS hs7 trivial sg0_22) ?_
    refine LtK.nil ?_
    refine wpR_batchG [false, true, true, true] [6] (fun b => b ≠ b6) (by decide +kernel) (by intro j hj b hb; simp only [List.mem_cons, List.not_mem_nil, or_false] at hj; (try rcases hj with rfl | rfl | rfl | rfl | rfl) <;> first | (simp [hb]; done) | simp_all) (by repeat (first | exact PF.body | exact PF.round | apply PF.then | apply PF.inBlock | apply PF.jump)) ?_
    refine LtK.put rfl rfl rfl (yv_load_boxA ag_30 rfl (RW.keepB _ _) hS hs7 (hS.ne 7 5 rfl rfl rfl) sg0_22) ?_
    refine LtK.put rfl rfl rfl (yv_load_boxA ag_36 rfl (RW.keepB _ _) hS hs6 (hS.ne 6 5 rfl rfl rfl) sg0_15) ?_
    refine LtK.put rfl rfl rfl (yv_move rfl) ?_
    refine LtK.nil ?_
    refine wpR_call [false, false, false, false, true] 4 ⟨by decide, by kernel_rfl, by kernel_rfl⟩ rfl rfl ?_
    try dsimp only [pickL]
    obtain ⟨r176, hm177, H⟩ := bind_some H
    refine wpS_call rfl rfl rfl rfl (by kernel_rfl) rfl (c_msg_Back r59 x1 2 false 0 A61 c62 A65 c66 A69 c70 A73 c74 A77 c78 A5_ c5_ _ (SlI.of_rd k63 (hS.rd hs0) (hS.rd_blk hs0)) (SlI.of_rd k67 (hS.row_rd hs1) (hS.row_blk hs1)) (SlI.of_rd k71 (hS.row_rd hs2) (hS.row_blk hs2)) (SlI.of_rd k75 (hS.row_rd hs3) (hS.row_blk hs3)) (SlI.of_rd k79 (hS.row_rd hs4) (hS.row_blk hs4)) (SlI.of_rd s5_.k (hS.rd0 s5_.rd) (hS.blk0 s5_.blk)) hm177) ?_
    rintro e w ⟨A178, c179, rfl, k180, hN⟩; refine ⟨_, rfl, ?_⟩; have hB := hN.pure; have hS := hS.join hN; clear hN
    refine wpS_nil ?_
    refine QH_step hB ?_
    refine wpR_many [5, 6] ⟨by decide, by kernel_rfl⟩ rfl (.call [false, false, false, false, false, true] 5 rfl rfl rfl ?_ (.put [false, false, false, false, false, false, true] 6 rfl rfl rfl ?_ .nil))
    · try dsimp only [pickL]
      refine wpS_sliceM (ps := [(0, .tmp 72)]) [.int .u8 r176.kind, .int .i64 r176.frm, .int .i64 r176.dst, .int .i64 r176.term, .int .i64 r176.cap, .int .i64 r176.last, .int .i64 r176.lastTerm, .int .i64 r176.commit, .bool r176.okk, .slice A178 r176.entries.length c179, .int .i64 r176.snap.index, .int .i64 r176.snap.term, .int .i64 r176.snap.sum, .int .i64 r176.snap.level, .bool r176.snap.final] el_32 zc_36 rfl rfl rfl rfl rfl (by kernel_rfl) hS (fun b182 w hS hB => ?_)
      refine wpS_nil ?_
      refine QH_step hB ?_
      refine wpR_seal [false, false, false, false, false, false, true] 6 ⟨by decide, by kernel_rfl, by kernel_rfl⟩ rfl rfl ?_
      try dsimp only [pickL]
      refine wpS_store rfl rfl rfl CellsOf.agg hS ps7 st0_22 (by kernel_rfl) rfl (fun w hS hB => ?_)
      refine wpS_nil ?_
      refine QH_stepG (hB.sub (fun _ _ h => by simpa using h)) ?_
      refine wpR_batch [false, false, false, false, false, false, false, true] (by decide +kernel) (by repeat (first | exact PF.body | exact PF.round | apply PF.then | apply PF.inBlock | apply PF.jump)) ?_
      refine LtK.put rfl rfl rfl (yv_assign rfl) ?_
      refine LtK.nil ?_
      refine wpR_end (by kernel_rfl) ?_
      refine QH_seq_k hK175 ?_
      refine wpC_ret ?_
      refine QH_ret rfl (RV.cell rfl (load_boxA ag_30 hS hs7 sg0_22) (RV.tmp rfl RV.nil)) rfl ?_
      obtain rfl := Option.some.inj H
      have hS := hS.nilRds
      replace hS := hS.front 2 rfl
      replace hS := hS.absorbQ ⟨r176, A178, c179⟩
      replace hS := hS.front 1 rfl
      replace hS := hS.weak Weak.boxRd
      have hS := hS.front 6 rfl
      have hS := hS.front 6 rfl
      have hS := hS.front 6 rfl
      have hS := hS.front 6 rfl
      have hS := hS.front 6 rfl
      replace hS := hS.cut 7
      exact ⟨A61, c62, A65, c66, A69, c70, A73, c74, A77, c78, (some ⟨b182, 0, none⟩), 1, ([⟨r176, A178, c179⟩] : List Mq), rfl, k63, k67, k71, k75, k79, ⟨Nat.le_refl 1, by decide⟩, rfl, (okq_cons k180 okq_nil), hS⟩
    · try dsimp only [pickL]
      refine wpS_store rfl rfl rfl CellsOf.agg hS ps6 st0_22 (by kernel_rfl) rfl (fun w hS hB => ?_)
      refine wpS_nil ?_
      refine QH_stepG (hB.sub (fun _ _ h => by simpa using h)) ?_
      refine wpR_call [false, false, false, false, false, true] 5 ⟨by decide, by kernel_rfl, by kernel_rfl⟩ rfl rfl ?_
      try dsimp only [pickL]
      refine wpS_sliceM (ps := [(0, .tmp 72)]) [.int .u8 r176.kind, .int .i64 r176.frm, .int .i64 r176.dst, .int .i64 r176.term, .int .i64 r176.cap, .int .i64 r176.last, .int .i64 r176.lastTerm, .int .i64 r176.commit, .bool r176.okk, .slice A178 r176.entries.length c179, .int .i64 r176.snap.index, .int .i64 r176.snap.term, .int .i64 r176.snap.sum, .int .i64 r176.snap.level, .bool r176.snap.final] el_32 zc_36 rfl rfl rfl rfl rfl (by kernel_rfl) hS (fun b182 w hS hB => ?_)
      refine wpS_nil ?_
      refine QH_step hB ?_
      refine wpR_batch [false, false, false, false, false, false, false, true] (by decide +kernel) (by repeat (first | exact PF.body | exact PF.round | apply PF.then | apply PF.inBlock | apply PF.jump)) ?_
      refine LtK.put rfl rfl rfl (yv_assign rfl) ?_
      refine LtK.nil ?_
      refine wpR_end (by kernel_rfl) ?_
      refine QH_seq_k hK175 ?_
      refine wpC_ret ?_
      refine QH_ret rfl (RV.cell rfl (load_boxA ag_30 hS hs7 sg0_22) (RV.tmp rfl RV.nil)) rfl ?_
      obtain rfl := Option.some.inj H
      have hS := hS.nilRds
      replace hS := hS.front 2 rfl
      replace hS := hS.absorbQ ⟨r176, A178, c179⟩
      replace hS := hS.front 1 rfl
      replace hS := hS.weak Weak.boxRd
      have hS := hS.front 6 rfl
      have hS := hS.front 6 rfl
      have hS := hS.front 6 rfl
      have hS := hS.front 6 rfl
      have hS := hS.front 6 rfl
      replace hS := hS.cut 7
      exact ⟨A61, c62, A65, c66, A69, c70, A73, c74, A77, c78, (some ⟨b182, 0, none⟩), 1, ([⟨r176, A178, c179⟩] : List Mq), rfl, k63, k67, k71, k75, k79, ⟨Nat.le_refl 1, by decide⟩, rfl, (okq_cons k180 okq_nil), hS⟩
  replace H := cond_t H hb
  refine wpS_put rfl rfl rfl (yv_fieldAddr fo_36_3 rfl) ?_
  refine wpS_put rfl rfl rfl (yv_load_box sc_3 rfl (RW.here _) hS hs6 trivial sg3_1) ?_
  refine wpS_put rfl rfl rfl (yv_fieldAddr fo_30_4 rfl) ?_
  refine wpS_put rfl rfl rfl (yv_fieldAddr fo_26_2 rfl) ?_
  refine wpS_put rfl rfl rfl (yv_load_box sc_3 rfl (RW.here _) hS hs7 trivial sg10_1) ?_
  refine wpS_put rfl rfl rfl (yv_eql rfl rfl) ?_
  refine wpS_quick 2 rfl ?_
  refine wpS_case 48 rfl (fun hb => ?_) (fun hb => ?_)
  rotate_left
  · replace H := cond_f H hb
    refine wpS_quick 8 rfl ?_
    refine wpS_nil ?_
    refine QH_seq_k hK133 ?_
    refine wpC_seq_k (fun K hK162 => ?_)
    refine wpC_seq_k (fun K hK163 => ?_)
    refine wpC_region ?_
    refine wpS_quick 1 rfl ?_
    refine wpS_nil ?_
    refine QH_seq_k hK163 ?_
    refine wpC_cond_f rfl rfl ?_
    refine wpC_skip ?_
    refine QH_seq_k hK162 ?_
    refine wpC_seq_k (fun K hK164 => ?_)
    refine wpC_draw 8 [6] (fun i b => (i = 6 → b ≠ b6)) ⟨by kernel_rfl, by kernel_rfl⟩ hS (fun w hS hB => ?_)
    refine wpR_batch [true] (by decide +kernel) (by repeat (first | exact PF.body | exact PF.round | apply PF.then | apply PF.inBlock | apply PF.jump)) ?_
    refine LtK.put rfl rfl rfl (yv_load_boxA ag_30 rfl (RW.below _) hS hs7 trivial sg0_22) ?_
    refine LtK.nil ?_
    refine wpR_batchG [false, true, true, true] [6] (fun b => b ≠ b6) (by decide +kernel) (by intro j hj b hb; simp only [List.mem_cons, List.not_mem_nil, or_false] at hj; (try rcases hj with rfl | rfl | rfl | rfl | rfl) <;> first | (simp [hb]; done) | simp_all) (by repeat (first | exact PF.body | exact PF.round | apply PF.then | apply PF.inBlock | apply PF.jump)) ?_
    refine LtK.put rfl rfl rfl (yv_load_boxA ag_30 rfl (RW.keepB _ _) hS hs7 (hS.ne 7 5 rfl rfl rfl) sg0_22) ?_
    refine LtK.put rfl rfl rfl (yv_load_boxA ag_36 rfl (RW.keepB _ _) hS hs6 (hS.ne 6 5 rfl rfl rfl) sg0_15) ?_
    refine LtK.put rfl rfl rfl (yv_move rfl) ?_
    refine LtK.nil ?_
    refine wpR_call [false, false, false, false, true] 4 ⟨by decide, by kernel_rfl, by kernel_rfl⟩ rfl rfl ?_
    try dsimp only [pickL]
    obtain ⟨r165, hm166, H⟩ := bind_some H
    refine wpS_call rfl rfl rfl rfl (by kernel_rfl) rfl (c_msg_Back r59 x1 2 false 0 A61 c62 A65 c66 A69 c70 A73 c74 A77 c78 A5_ c5_ _ (SlI.of_rd k63 (hS.rd hs0) (hS.rd_blk hs0)) (SlI.of_rd k67 (hS.row_rd hs1) (hS.row_blk hs1)) (SlI.of_rd k71 (hS.row_rd hs2) (hS.row_blk hs2)) (SlI.of_rd k75 (hS.row_rd hs3) (hS.row_blk hs3)) (SlI.of_rd k79 (hS.row_rd hs4) (hS.row_blk hs4)) (SlI.of_rd s5_.k (hS.rd0 s5_.rd) (hS.blk0 s5_.blk)) hm166) ?_
    rintro e w ⟨A167, c168, rfl, k169, hN⟩; refine ⟨_, rfl, ?_⟩; have hB := hN.pure; have hS := hS.join hN; clear hN
    refine wpS_nil ?_
    refine QH_step hB ?_
    refine wpR_many [5, 6] ⟨by decide, by kernel_rfl⟩ rfl (.call [false, false, false, false, false, true] 5 rfl rfl rfl ?_ (.put [false, false, false, false, false, false, true] 6 rfl rfl rfl ?_ .nil))
    · try dsimp only [pickL]
      refine wpS_sliceM (ps := [(0, .tmp 72)]) [.int .u8 r165.kind, .int .i64 r165.frm, .int .i64 r165.dst, .int .i64 r165.term, .int .i64 r165.cap, .int .i64 r165.last, .int .i64 r165.lastTerm, .int .i64 r165.commit, .bool r165.okk, .slice A167 r165.entries.length c168, .int .i64 r165.snap.index, .int .i64 r165.snap.term, .int .i64 r165.snap.sum, .int .i64 r165.snap.level, .bool r165.snap.final] el_32 zc_36 rfl rfl rfl rfl rfl (by kernel_rfl) hS (fun b171 w hS hB => ?_)
      refine wpS_nil ?_
      refine QH_step hB ?_
      refine wpR_seal [false, false, false, false, false, false, true] 6 ⟨by decide, by kernel_rfl, by kernel_rfl⟩ rfl rfl ?_
      try dsimp only [pickL]
      refine wpS_store rfl rfl rfl CellsOf.agg hS ps7 st0_22 (by kernel_rfl) rfl (fun w hS hB => ?_)
      refine wpS_nil ?_
      refine QH_stepG (hB.sub (fun _ _ h => by simpa using h)) ?_
      refine wpR_batch [false, false, false, false, false, false, false, true] (by decide +kernel) (by repeat (first | exact PF.body | exact PF.round | apply PF.then | apply PF.inBlock | apply PF.jump)) ?_
      refine LtK.put rfl rfl rfl (yv_assign rfl) ?_
      refine LtK.nil ?_
      refine wpR_end (by kernel_rfl) ?_
      refine QH_seq_k hK164 ?_
      refine wpC_ret ?_
      refine QH_ret rfl (RV.cell rfl (load_boxA ag_30 hS hs7 sg0_22) (RV.tmp rfl RV.nil)) rfl ?_
      obtain rfl := Option.some.inj H
      have hS := hS.nilRds
      replace hS := hS.front 2 rfl
      replace hS := hS.absorbQ ⟨r165, A167, c168⟩
      replace hS := hS.front 1 rfl
      replace hS := hS.weak Weak.boxRd
      have hS := hS.front 6 rfl
      have hS := hS.front 6 rfl
      have hS := hS.front 6 rfl
      have hS := hS.front 6 rfl
      have hS := hS.front 6 rfl
      replace hS := hS.cut 7
      exact ⟨A61, c62, A65, c66, A69, c70, A73, c74, A77, c78, (some ⟨b171, 0, none⟩), 1, ([⟨r165, A167, c168⟩] : List Mq), rfl, k63, k67, k71, k75, k79, ⟨Nat.le_refl 1, by decide⟩, rfl, (okq_cons k169 okq_nil), hS⟩
    · try dsimp only [pickL]
      refine wpS_store rfl rfl rfl CellsOf.agg hS ps6 st0_22 (by kernel_rfl) rfl (fun w hS hB => ?_)
      refine wpS_nil ?_
      refine QH_stepG (hB.sub (fun _ _ h => by simpa using h)) ?_
      refine wpR_call [false, false, false, false, false, true] 5 ⟨by decide, by kernel_rfl, by kernel_rfl⟩ rfl rfl ?_
      try dsimp only [pickL]
      refine wpS_sliceM (ps := [(0, .tmp 72)]) [.int .u8 r165.kind, .int .i64 r165.frm, .int .i64 r165.dst, .int .i64 r165.term, .int .i64 r165.cap, .int .i64 r165.last, .int .i64 r165.lastTerm, .int .i64 r165.commit, .bool r165.okk, .slice A167 r165.entries.length c168, .int .i64 r165.snap.index, .int .i64 r165.snap.term, .int .i64 r165.snap.sum, .int .i64 r165.snap.level, .bool r165.snap.final] el_32 zc_36 rfl rfl rfl rfl rfl (by kernel_rfl) hS (fun b171 w hS hB => ?_)
      refine wpS_nil ?_
      refine QH_step hB ?_
      refine wpR_batch [false, false, false, false, false, false, false, true] (by decide +kernel) (by repeat (first | exact PF.body | exact PF.round | apply PF.then | apply PF.inBlock | apply PF.jump)) ?_
      refine LtK.put rfl rfl rfl (yv_assign rfl) ?_
      refine LtK.nil ?_
      refine wpR_end (by kernel_rfl) ?_
      refine QH_seq_k hK164 ?_
      refine wpC_ret ?_
      refine QH_ret rfl (RV.cell rfl (load_boxA ag_30 hS hs7 sg0_22) (RV.tmp rfl RV.nil)) rfl ?_
      obtain rfl := Option.some.inj H
      have hS := hS.nilRds
      replace hS := hS.front 2 rfl
      replace hS := hS.absorbQ ⟨r165, A167, c168⟩
      replace hS := hS.front 1 rfl
      replace hS := hS.weak Weak.boxRd
      have hS := hS.front 6 rfl
      have hS := hS.front 6 rfl
      have hS := hS.front 6 rfl
      have hS := hS.front 6 rfl
      have hS := hS.front 6 rfl
      replace hS := hS.cut 7
      exact ⟨A61, c62, A65, c66, A69, c70, A73, c74, A77, c78, (some ⟨b171, 0, none⟩), 1, ([⟨r165, A167, c168⟩] : List Mq), rfl, k63, k67, k71, k75, k79, ⟨Nat.le_refl 1, by decide⟩, rfl, (okq_cons k169 okq_nil), hS⟩
  replace H := cond_t H hb
  refine wpS_put rfl rfl rfl (yv_load_boxA ag_30 rfl (RW.here _) hS hs7 trivial sg0_22) ?_
  refine wpS_put rfl rfl rfl (yv_fieldAddr fo_36_6 rfl) ?_
  refine wpS_put rfl rfl rfl (yv_load_box sc_3 rfl (RW.here _) hS hs6 trivial sg6_1) ?_
  refine wpS_put rfl rfl rfl (yv_fieldAddr fo_36_5 rfl) ?_
  refine wpS_put rfl rfl rfl (yv_load_box sc_3 rfl (RW.here _) hS hs6 trivial sg5_1) ?_
  obtain ⟨r134, hm135, H⟩ := bind_some H
  refine wpS_call rfl rfl rfl rfl (by kernel_rfl) rfl (c_elect_Newer r59 x1.lastTerm x1.last A61 c62 A65 c66 A69 c70 A73 c74 A77 c78 _ (SlI.of_rd k63 (hS.rd hs0) (hS.rd_blk hs0)) (SlI.of_rd k67 (hS.row_rd hs1) (hS.row_blk hs1)) (SlI.of_rd k71 (hS.row_rd hs2) (hS.row_blk hs2)) (SlI.of_rd k75 (hS.row_rd hs3) (hS.row_blk hs3)) (SlI.of_rd k79 (hS.row_rd hs4) (hS.row_blk hs4)) hm135) ?_
  rintro e w ⟨rfl, hN⟩; refine ⟨_, rfl, ?_⟩; have hB := hN.pure; have hS := hS.join hN; clear hN
  refine wpS_quick 2 rfl ?_
  refine wpS_nil ?_
  refine QH_seq_k hK133 ?_
  refine wpC_seq_k (fun K hK136 => ?_)
  refine wpC_seq_k (fun K hK137 => ?_)
  refine wpC_region ?_
  refine wpS_quick 1 rfl ?_
  refine wpS_nil ?_
  refine QH_seq_k hK137 ?_
  refine wpC_cond rfl (fun hb => ?_) (fun hb => ?_)
  rotate_left
  · replace H := cond_f H hb
    refine wpC_skip ?_
    refine QH_seq_k hK136 ?_
    refine wpC_seq_k (fun K hK153 => ?_)
    refine wpC_draw 8 [6] (fun i b => (i = 6 → b ≠ b6)) ⟨by kernel_rfl, by kernel_rfl⟩ hS (fun w hS hB => ?_)
    refine wpR_batch [true] (by decide +kernel) (by repeat (first | exact PF.body | exact PF.round | apply PF.then | apply PF.inBlock | apply PF.jump)) ?_
    refine LtK.put rfl rfl rfl (yv_load_boxA ag_30 rfl (RW.below _) hS hs7 trivial sg0_22) ?_
    refine LtK.nil ?_
    refine wpR_batchG [false, true, true, true] [6] (fun b => b ≠ b6) (by decide +kernel) (by intro j hj b hb; simp only [List.mem_cons, List.not_mem_nil, or_false] at hj; (try rcases hj with rfl | rfl | rfl | rfl | rfl) <;> first | (simp [hb]; done) | simp_all) (by repeat (first | exact PF.body | exact PF.round | apply PF.then | apply PF.inBlock | apply PF.jump)) ?_
    refine LtK.put rfl rfl rfl (yv_load_boxA ag_30 rfl (RW.keepB _ _) hS hs7 (hS.ne 7 5 rfl rfl rfl) sg0_22) ?_
    refine LtK.put rfl rfl rfl (yv_load_boxA ag_36 rfl (RW.keepB _ _) hS hs6 (hS.ne 6 5 rfl rfl rfl) sg0_15) ?_
    refine LtK.put rfl rfl rfl (yv_move rfl) ?_
    refine LtK.nil ?_
    refine wpR_call [false, false, false, false, true] 4 ⟨by decide, by kernel_rfl, by kernel_rfl⟩ rfl rfl ?_
    try dsimp only [pickL]
    obtain ⟨r154, hm155, H⟩ := bind_some H
    refine wpS_call rfl rfl rfl rfl (by kernel_rfl) rfl (c_msg_Back r59 x1 2 r134 0 A61 c62 A65 c66 A69 c70 A73 c74 A77 c78 A5_ c5_ _ (SlI.of_rd k63 (hS.rd hs0) (hS.rd_blk hs0)) (SlI.of_rd k67 (hS.row_rd hs1) (hS.row_blk hs1)) (SlI.of_rd k71 (hS.row_rd hs2) (hS.row_blk hs2)) (SlI.of_rd k75 (hS.row_rd hs3) (hS.row_blk hs3)) (SlI.of_rd k79 (hS.row_rd hs4) (hS.row_blk hs4)) (SlI.of_rd s5_.k (hS.rd0 s5_.rd) (hS.blk0 s5_.blk)) hm155) ?_
    rintro e w ⟨A156, c157, rfl, k158, hN⟩; refine ⟨_, rfl, ?_⟩; have hB := hN.pure; have hS := hS.join hN; clear hN
    refine wpS_nil ?_
    refine QH_step hB ?_
    refine wpR_many [5, 6] ⟨by decide, by kernel_rfl⟩ rfl (.call [false, false, false, false, false, true] 5 rfl rfl rfl ?_ (.put [false, false, false, false, false, false, true] 6 rfl rfl rfl ?_ .nil))
    · try dsimp only [pickL]
      refine wpS_sliceM (ps := [(0, .tmp 72)]) [.int .u8 r154.kind, .int .i64 r154.frm, .int .i64 r154.dst, .int .i64 r154.term, .int .i64 r154.cap, .int .i64 r154.last, .int .i64 r154.lastTerm, .int .i64 r154.commit, .bool r154.okk, .slice A156 r154.entries.length c157, .int .i64 r154.snap.index, .int .i64 r154.snap.term, .int .i64 r154.snap.sum, .int .i64 r154.snap.level, .bool r154.snap.final] el_32 zc_36 rfl rfl rfl rfl rfl (by kernel_rfl) hS (fun b160 w hS hB => ?_)
      refine wpS_nil ?_
      refine QH_step hB ?_
      refine wpR_seal [false, false, false, false, false, false, true] 6 ⟨by decide, by kernel_rfl, by kernel_rfl⟩ rfl rfl ?_
      try dsimp only [pickL]
      refine wpS_store rfl rfl rfl CellsOf.agg hS ps7 st0_22 (by kernel_rfl) rfl (fun w hS hB => ?_)
      refine wpS_nil ?_
      refine QH_stepG (hB.sub (fun _ _ h => by simpa using h)) ?_
      refine wpR_batch [false, false, false, false, false, false, false, true] (by decide +kernel) (by repeat (first | exact PF.body | exact PF.round | apply PF.then | apply PF.inBlock | apply PF.jump)) ?_
      refine LtK.put rfl rfl rfl (yv_assign rfl) ?_
      refine LtK.nil ?_
      refine wpR_end (by kernel_rfl) ?_
      refine QH_seq_k hK153 ?_
      refine wpC_ret ?_
      refine QH_ret rfl (RV.cell rfl (load_boxA ag_30 hS hs7 sg0_22) (RV.tmp rfl RV.nil)) rfl ?_
      obtain rfl := Option.some.inj H
      have hS := hS.nilRds
      replace hS := hS.front 2 rfl
      replace hS := hS.absorbQ ⟨r154, A156, c157⟩
      replace hS := hS.front 1 rfl
      replace hS := hS.weak Weak.boxRd
      have hS := hS.front 6 rfl
      have hS := hS.front 6 rfl
      have hS := hS.front 6 rfl
      have hS := hS.front 6 rfl
      have hS := hS.front 6 rfl
      replace hS := hS.cut 7
      exact ⟨A61, c62, A65, c66, A69, c70, A73, c74, A77, c78, (some ⟨b160, 0, none⟩), 1, ([⟨r154, A156, c157⟩] : List Mq), rfl, k63, k67, k71, k75, k79, ⟨Nat.le_refl 1, by decide⟩, rfl, (okq_cons k158 okq_nil), hS⟩
    · try dsimp only [pickL]
      refine wpS_store rfl rfl rfl CellsOf.agg hS ps6 st0_22 (by kernel_rfl) rfl (fun w hS hB => ?_)
      refine wpS_nil ?_
      refine QH_stepG (hB.sub (fun _ _ h => by simpa using h)) ?_
      refine wpR_call [false, false, false, false, false, true] 5 ⟨by decide, by kernel_rfl, by kernel_rfl⟩ rfl rfl ?_
      try dsimp only [pickL]
      refine wpS_sliceM (ps := [(0, .tmp 72)]) [.int .u8 r154.kind, .int .i64 r154.frm, .int .i64 r154.dst, .int .i64 r154.term, .int .i64 r154.cap, .int .i64 r154.last, .int .i64 r154.lastTerm, .int .i64 r154.commit, .bool r154.okk, .slice A156 r154.entries.length c157, .int .i64 r154.snap.index, .int .i64 r154.snap.term, .int .i64 r154.snap.sum, .int .i64 r154.snap.level, .bool r154.snap.final] el_32 zc_36 rfl rfl rfl rfl rfl (by kernel_rfl) hS (fun b160 w hS hB => ?_)
      refine wpS_nil ?_
      refine QH_step hB ?_
      refine wpR_batch [false, false, false, false, false, false, false, true] (by decide +kernel) (by repeat (first | exact PF.body | exact PF.round | apply PF.then | apply PF.inBlock | apply PF.jump)) ?_
      refine LtK.put rfl rfl rfl (yv_assign rfl) ?_
      refine LtK.nil ?_
      refine wpR_end (by kernel_rfl) ?_
      refine QH_seq_k hK153 ?_
      refine wpC_ret ?_
      refine QH_ret rfl (RV.cell rfl (load_boxA ag_30 hS hs7 sg0_22) (RV.tmp rfl RV.nil)) rfl ?_
      obtain rfl := Option.some.inj H
      have hS := hS.nilRds
      replace hS := hS.front 2 rfl
      replace hS := hS.absorbQ ⟨r154, A156, c157⟩
      replace hS := hS.front 1 rfl
      replace hS := hS.weak Weak.boxRd
      have hS := hS.front 6 rfl
      have hS := hS.front 6 rfl
      have hS := hS.front 6 rfl
      have hS := hS.front 6 rfl
      have hS := hS.front 6 rfl
      replace hS := hS.cut 7
      exact ⟨A61, c62, A65, c66, A69, c70, A73, c74, A77, c78, (some ⟨b160, 0, none⟩), 1, ([⟨r154, A156, c157⟩] : List Mq), rfl, k63, k67, k71, k75, k79, ⟨Nat.le_refl 1, by decide⟩, rfl, (okq_cons k158 okq_nil), hS⟩
  replace H := cond_t H hb
  refine wpC_region ?_
  refine wpS_put rfl rfl rfl (yv_fieldAddr fo_30_4 rfl) ?_
  refine wpS_put rfl rfl rfl (yv_load_boxA ag_26 rfl (RW.here _) hS hs7 trivial sg4_8) ?_
  refine wpS_put rfl rfl rfl (yv_fieldAddr fo_36_3 rfl) ?_
  refine wpS_put rfl rfl rfl (yv_load_box sc_3 rfl (RW.here _) hS hs6 trivial sg3_1) ?_
  refine wpS_put rfl rfl rfl (yv_fieldAddr fo_36_1 rfl) ?_
  refine wpS_put rfl rfl rfl (yv_load_box sc_3 rfl (RW.here _) hS hs6 trivial sg1_1) ?_
  obtain ⟨r138, hm139, H⟩ := bind_some H
  refine wpS_call rfl rfl rfl rfl (by kernel_rfl) rfl (c_tuple_Hard r59.tuple x1.term x1.frm A61 c62 _ (SlI.of_rd k63 (hS.rd hs0) (hS.rd_blk hs0)) hm139) ?_
  rintro e w ⟨A140, c141, rfl, k142, hN⟩; refine ⟨_, rfl, ?_⟩; have hB := hN.pure; have hS := hS.join hN; clear hN
  refine wpS_quick 1 rfl ?_
  refine wpS_put rfl rfl rfl (yv_extract rfl rfl) ?_
  refine wpS_put rfl rfl rfl (yv_extract rfl rfl) ?_
  refine wpS_put rfl rfl rfl (yv_fieldAddr fo_30_4 rfl) ?_
  refine wpS_store rfl rfl rfl CellsOf.agg hS ps8 st4_8 (by kernel_rfl) rfl (fun w hS hB => ?_)
  refine wpS_nil ?_
  refine QH_seq_k hK136 ?_
  refine wpC_seq_k (fun K hK144 => ?_)
  refine wpC_draw 8 [6] (fun i b => (i = 6 → b ≠ b6)) ⟨by kernel_rfl, by kernel_rfl⟩ hS (fun w hS hB => ?_)
  refine wpR_batch [true] (by decide +kernel) (by repeat (first | exact PF.body | exact PF.round | apply PF.then | apply PF.inBlock | apply PF.jump)) ?_
  refine LtK.put rfl rfl rfl (yv_load_boxA ag_30 rfl (RW.below _) hS hs8 trivial sg0_22) ?_
  refine LtK.nil ?_
  refine wpR_batchG [false, true, true, true] [6] (fun b => b ≠ b6) (by decide +kernel) (by intro j hj b hb; simp only [List.mem_cons, List.not_mem_nil, or_false] at hj; (try rcases hj with rfl | rfl | rfl | rfl | rfl) <;> first | (simp [hb]; done) | simp_all) (by repeat (first | exact PF.body | exact PF.round | apply PF.then | apply PF.inBlock | apply PF.jump)) ?_
  refine LtK.put rfl rfl rfl (yv_load_boxA ag_30 rfl (RW.keepB _ _) hS hs8 (hS.ne 8 6 rfl rfl rfl) sg0_22) ?_
  refine LtK.put rfl rfl rfl (yv_load_boxA ag_36 rfl (RW.keepB _ _) hS hs7 (hS.ne 7 6 rfl rfl rfl) sg0_15) ?_
  refine LtK.put rfl rfl rfl (yv_move rfl) ?_
  refine LtK.nil ?_
  refine wpR_call [false, false, false, false, true] 4 ⟨by decide, by kernel_rfl, by kernel_rfl⟩ rfl rfl ?_
  try dsimp only [pickL]
  obtain ⟨r145, hm146, H⟩ := bind_some H
  refine wpS_call rfl rfl rfl rfl (by kernel_rfl) rfl (c_msg_Back (⟨r59.id, r59.n, r59.role, r59.binary, r138.1, r59.commit, r59.applied, r59.votes, r59.next, r59.mtch, r59.caps⟩ : Co) x1 2 r134 0 A140 c141 A65 c66 A69 c70 A73 c74 A77 c78 A5_ c5_ _ (SlI.of_rd k142 (hS.rd hs0) (hS.rd_blk hs0)) (SlI.of_rd k67 (hS.row_rd hs2) (hS.row_blk hs2)) (SlI.of_rd k71 (hS.row_rd hs3) (hS.row_blk hs3)) (SlI.of_rd k75 (hS.row_rd hs4) (hS.row_blk hs4)) (SlI.of_rd k79 (hS.row_rd hs5) (hS.row_blk hs5)) (SlI.of_rd s5_.k (hS.rd0 s5_.rd) (hS.blk0 s5_.blk)) hm146) ?_
  rintro e w ⟨A147, c148, rfl, k149, hN⟩; refine ⟨_, rfl, ?_⟩; have hB := hN.pure; have hS := hS.join hN; clear hN
  refine wpS_nil ?_
  refine QH_step hB ?_
  refine wpR_many [5, 6] ⟨by decide, by kernel_rfl⟩ rfl (.call [false, false, false, false, false, true] 5 rfl rfl rfl ?_ (.put [false, false, false, false, false, false, true] 6 rfl rfl rfl ?_ .nil))
  · try dsimp only [pickL]
    refine wpS_sliceM (ps := [(0, .tmp 72)]) [.int .u8 r145.kind, .int .i64 r145.frm, .int .i64 r145.dst, .int .i64 r145.term, .int .i64 r145.cap, .int .i64 r145.last, .int .i64 r145.lastTerm, .int .i64 r145.commit, .bool r145.okk, .slice A147 r145.entries.length c148, .int .i64 r145.snap.index, .int .i64 r145.snap.term, .int .i64 r145.snap.sum, .int .i64 r145.snap.level, .bool r145.snap.final] el_32 zc_36 rfl rfl rfl rfl rfl (by kernel_rfl) hS (fun b151 w hS hB => ?_)
    refine wpS_nil ?_
    refine QH_step hB ?_
    refine wpR_seal [false, false, false, false, false, false, true] 6 ⟨by decide, by kernel_rfl, by kernel_rfl⟩ rfl rfl ?_
    try dsimp only [pickL]
    refine wpS_store rfl rfl rfl CellsOf.agg hS ps8 st0_22 (by kernel_rfl) rfl (fun w hS hB => ?_)
    refine wpS_nil ?_
    refine QH_stepG (hB.sub (fun _ _ h => by simpa using h)) ?_
    refine wpR_batch [false, false, false, false, false, false, false, true] (by decide +kernel) (by repeat (first | exact PF.body | exact PF.round | apply PF.then | apply PF.inBlock | apply PF.jump)) ?_
    refine LtK.put rfl rfl rfl (yv_assign rfl) ?_
    refine LtK.nil ?_
    refine wpR_end (by kernel_rfl) ?_
    refine QH_seq_k hK144 ?_
    refine wpC_ret ?_
    refine QH_ret rfl (RV.cell rfl (load_boxA ag_30 hS hs8 sg0_22) (RV.tmp rfl RV.nil)) rfl ?_
    obtain rfl := Option.some.inj H
    have hS := hS.nilRds
    replace hS := hS.front 2 rfl
    replace hS := hS.absorbQ ⟨r145, A147, c148⟩
    replace hS := hS.front 1 rfl
    replace hS := hS.weak Weak.boxRd
    have hS := hS.front 7 rfl
    have hS := hS.front 7 rfl
    have hS := hS.front 7 rfl
    have hS := hS.front 7 rfl
    have hS := hS.front 6 rfl
    replace hS := hS.cut 7
    exact ⟨A140, c141, A65, c66, A69, c70, A73, c74, A77, c78, (some ⟨b151, 0, none⟩), 1, ([⟨r145, A147, c148⟩] : List Mq), rfl, k142, k67, k71, k75, k79, ⟨Nat.le_refl 1, by decide⟩, rfl, (okq_cons k149 okq_nil), hS⟩
  · try dsimp only [pickL]
    refine wpS_store rfl rfl rfl CellsOf.agg hS ps7 st0_22 (by kernel_rfl) rfl (fun w hS hB => ?_)
    refine wpS_nil ?_
    refine QH_stepG (hB.sub (fun _ _ h => by simpa using h)) ?_
    refine wpR_call [false, false, false, false, false, true] 5 ⟨by decide, by kernel_rfl, by kernel_rfl⟩ rfl rfl ?_
    try dsimp only [pickL]
    refine wpS_sliceM (ps := [(0, .tmp 72)]) [.int .u8 r145.kind, .int .i64 r145.frm, .int .i64 r145.dst, .int .i64 r145.term, .int .i64 r145.cap, .int .i64 r145.last, .int .i64 r145.lastTerm, .int .i64 r145.commit, .bool r145.okk, .slice A147 r145.entries.length c148, .int .i64 r145.snap.index, .int .i64 r145.snap.term, .int .i64 r145.snap.sum, .int .i64 r145.snap.level, .bool r145.snap.final] el_32 zc_36 rfl rfl rfl rfl rfl (by kernel_rfl) hS (fun b151 w hS hB => ?_)
    refine wpS_nil ?_
    refine QH_step hB ?_
    refine wpR_batch [false, false, false, false, false, false, false, true] (by decide +kernel) (by repeat (first | exact PF.body | exact PF.round | apply PF.then | apply PF.inBlock | apply PF.jump)) ?_
    refine LtK.put rfl rfl rfl (yv_assign rfl) ?_
    refine LtK.nil ?_
    refine wpR_end (by kernel_rfl) ?_
    refine QH_seq_k hK144 ?_
    refine wpC_ret ?_
    refine QH_ret rfl (RV.cell rfl (load_boxA ag_30 hS hs8 sg0_22) (RV.tmp rfl RV.nil)) rfl ?_
    obtain rfl := Option.some.inj H
    have hS := hS.nilRds
    replace hS := hS.front 2 rfl
    replace hS := hS.absorbQ ⟨r145, A147, c148⟩
    replace hS := hS.front 1 rfl
    replace hS := hS.weak Weak.boxRd
    have hS := hS.front 7 rfl
    have hS := hS.front 7 rfl
    have hS := hS.front 7 rfl
    have hS := hS.front 7 rfl
    have hS := hS.front 6 rfl
    replace hS := hS.cut 7
    exact ⟨A140, c141, A65, c66, A69, c70, A73, c74, A77, c78, (some ⟨b151, 0, none⟩), 1, ([⟨r145, A147, c148⟩] : List Mq), rfl, k142, k67, k71, k75, k79, ⟨Nat.le_refl 1, by decide⟩, rfl, (okq_cons k149 okq_nil), hS⟩
theorem c_elect_Voted (x0 : Co) (x1 : Ms) (A0_ : Option Addr) (c0_ : Nat) (A1_ : Option Addr) (c1_ : Nat) (A2_ : Option Addr) (c2_ : Nat) (A3_ : Option Addr) (c3_ : Nat) (A4_ : Option Addr) (c4_ : Nat) (A5_ : Option Addr) (c5_ : Nat) (w0 : World) (s0_ : SlI w0 enE A0_ c0_ x0.tuple.log) (s1_ : SlI w0 enO A1_ c1_ x0.votes) (s2_ : SlI w0 enI A2_ c2_ x0.next) (s3_ : SlI w0 enI A3_ c3_ x0.mtch) (s4_ : SlI w0 enI A4_ c4_ x0.caps) (s5_ : SlI w0 enE A5_ c5_ x1.entries) {r : Co × List Ms} (H : m_elect_Voted x0 x1 = some r) : Calls Try.prog 19 #[.agg #[.int .i64 x0.id, .int .i64 x0.n, .int .u8 x0.role, .int .i64 x0.binary, .int .i64 x0.tuple.snap.index, .int .i64 x0.tuple.snap.term, .int .i64 x0.tuple.snap.sum, .int .i64 x0.tuple.snap.level, .bool x0.tuple.snap.final, .slice A0_ x0.tuple.log.length c0_, .int .i64 x0.tuple.term, .int .i64 x0.tuple.vote, .int .i64 x0.commit, .int .i64 x0.applied.index, .int .i64 x0.applied.term, .int .i64 x0.applied.sum, .int .i64 x0.applied.level, .bool x0.applied.final, .slice A1_ x0.votes.length c1_, .slice A2_ x0.next.length c2_, .slice A3_ x0.mtch.length c3_, .slice A4_ x0.caps.length c4_], .agg #[.int .u8 x1.kind, .int .i64 x1.frm, .int .i64 x1.dst, .int .i64 x1.term, .int .i64 x1.cap, .int .i64 x1.last, .int .i64 x1.lastTerm, .int .i64 x1.commit, .bool x1.okk, .slice A5_ x1.entries.length c5_, .int .i64 x1.snap.index, .int .i64 x1.snap.term, .int .i64 x1.snap.sum, .int .i64 x1.snap.level, .bool x1.snap.final]] w0 fun e w' => ∃ (A0 : Option Addr) (c0 : Nat) (A1 : Option Addr) (c1 : Nat) (A2 : Option Addr) (c2 : Nat) (A3 : Option Addr) (c3 : Nat) (A4 : Option Addr) (c4 : Nat) (A5 : Option Addr) (c5 : Nat) (q5 : List Mq), e = .returned (.tuple #[.agg #[.int .i64 r.1.id, .int .i64 r.1.n, .int .u8 r.1.role, .int .i64 r.1.binary, .int .i64 r.1.tuple.snap.index, .int .i64 r.1.tuple.snap.term, .int .i64 r.1.tuple.snap.sum, .int .i64 r.1.tuple.snap.level, .bool r.1.tuple.snap.final, .slice A0 r.1.tuple.log.length c0, .int .i64 r.1.tuple.term, .int .i64 r.1.tuple.vote, .int .i64 r.1.commit, .int .i64 r.1.applied.index, .int .i64 r.1.applied.term, .int .i64 r.1.applied.sum, .int .i64 r.1.applied.level, .bool r.1.applied.final, .slice A1 r.1.votes.length c1, .slice A2 r.1.next.length c2, .slice A3 r.1.mtch.length c3, .slice A4 r.1.caps.length c4], .slice A5 r.2.length c5]) ∧ (r.1.tuple.log.length ≤ c0 ∧ c0 ≤ maxLen) ∧ (r.1.votes.length ≤ c1 ∧ c1 ≤ maxLen) ∧ (r.1.next.length ≤ c2 ∧ c2 ≤ maxLen) ∧ (r.1.mtch.length ≤ c3 ∧ c3 ≤ maxLen) ∧ (r.1.caps.length ≤ c4 ∧ c4 ≤ maxLen) ∧ (r.2.length ≤ c5 ∧ c5 ≤ maxLen) ∧ q5.map Mq.m = r.2 ∧ (∀ y ∈ q5, okQ y) ∧ St0 All w0 w' [.rd A0 (encs enE r.1.tuple.log), .row (.slice A1 r.1.votes.length c1) 4 1 r.1.votes.length (encs enO r.1.votes), .row (.slice A2 r.1.next.length c2) 3 1 r.1.next.length (encs enI r.1.next), .row (.slice A3 r.1.mtch.length c3) 3 1 r.1.mtch.length (encs enI r.1.mtch), .row (.slice A4 r.1.caps.length c4) 3 1 r.1.caps.length (encs enI r.1.caps), .rd A5 (encs enQ q5), .rds (q5.map subQ)] := by
  unfold m_elect_Voted at H
  refine gw_enter2 Try.func19 rfl Try.ntmps19 rfl ?_
  have hS := St0.start All w0
  refine wpC_seq_k (fun K hK1 => ?_)
  refine wpC_region ?_
  refine wpS_box rfl rfl rfl CellsOf.agg hS (fun b2 w hS hB => ?_)
  refine wpS_box rfl rfl rfl CellsOf.agg hS (fun b4 w hS hB => ?_)
  refine wpS_alloc rfl rfl zc_30 hS (fun b6 w hS hB => ?_)
  refine wpS_quick 1 rfl ?_
  refine wpS_nil ?_
  refine QH_seq_k hK1 ?_
  refine wpC_scope1 0 rfl ?_
  refine wpC_seq_k (fun K hK8 => ?_)
  refine wpC_seq_k (fun K hK9 => ?_)
  refine wpC_region ?_
  refine wpS_put rfl rfl rfl (yv_load_boxA ag_30 rfl (RW.here _) hS hs2 trivial sg0_22) ?_
  refine wpS_put rfl rfl rfl (yv_load_boxA ag_36 rfl (RW.here _) hS hs1 trivial sg0_15) ?_
  obtain ⟨r10, hm11, H⟩ := bind_some H
  refine wpS_call rfl rfl rfl rfl (by kernel_rfl) rfl (c_elect_fits x0 x1 A0_ c0_ A1_ c1_ A2_ c2_ A3_ c3_ A4_ c4_ A5_ c5_ _ (SlI.of_rd s0_.k (hS.rd0 s0_.rd) (hS.blk0 s0_.blk)) (SlI.of_rd s1_.k (hS.rd0 s1_.rd) (hS.blk0 s1_.blk)) (SlI.of_rd s2_.k (hS.rd0 s2_.rd) (hS.blk0 s2_.blk)) (SlI.of_rd s3_.k (hS.rd0 s3_.rd) (hS.blk0 s3_.blk)) (SlI.of_rd s4_.k (hS.rd0 s4_.rd) (hS.blk0 s4_.blk)) (SlI.of_rd s5_.k (hS.rd0 s5_.rd) (hS.blk0 s5_.blk)) hm11) ?_
  rintro e w ⟨rfl, hN⟩; refine ⟨_, rfl, ?_⟩; have hB := hN.pure; have hS := hS.join hN; clear hN
  refine wpS_put rfl rfl rfl (yv_not rfl) ?_
  refine wpS_quick 1 rfl ?_
  refine wpS_case 10 rfl (fun hb => ?_) (fun hb => ?_)
  · replace H := cond_t H hb
    refine wpS_quick 4 rfl ?_
    refine wpS_nil ?_
    refine QH_seq_k hK9 ?_
    refine wpC_cond_t rfl rfl ?_
    refine wpC_seq_k (fun K hK12 => ?_)
    refine wpC_region ?_
    refine wpS_put rfl rfl rfl (yv_load_boxA ag_30 rfl (RW.here _) hS hs2 trivial sg0_22) ?_
    obtain ⟨r13, hm14, H⟩ := bind_some H
    refine wpS_call rfl rfl rfl rfl (by kernel_rfl) rfl (c_msg_Own x0 A0_ c0_ A1_ c1_ A2_ c2_ A3_ c3_ A4_ c4_ _ (SlI.of_rd s0_.k (hS.rd0 s0_.rd) (hS.blk0 s0_.blk)) (SlI.of_rd s1_.k (hS.rd0 s1_.rd) (hS.blk0 s1_.blk)) (SlI.of_rd s2_.k (hS.rd0 s2_.rd) (hS.blk0 s2_.blk)) (SlI.of_rd s3_.k (hS.rd0 s3_.rd) (hS.blk0 s3_.blk)) (SlI.of_rd s4_.k (hS.rd0 s4_.rd) (hS.blk0 s4_.blk)) hm14) ?_
    rintro e w ⟨A15, c16, A19, c20, A23, c24, A27, c28, A31, c32, rfl, k17, k21, k25, k29, k33, hN⟩; refine ⟨_, rfl, ?_⟩; have hB := hN.pure; have hS := hS.join hN; clear hN
    refine wpS_store rfl rfl rfl CellsOf.agg hS ps5 st0_22 (by kernel_rfl) rfl (fun w hS hB => ?_)
    refine wpS_quick 1 rfl ?_
    refine wpS_nil ?_
    refine QH_seq_k hK12 ?_
    refine wpC_ret ?_
    refine QH_then_ret ?_
    refine QH_jmp_ret ?_
    refine QH_ret rfl (RV.cell rfl (load_boxA ag_30 hS hs5 sg0_22) (RV.tmp rfl RV.nil)) rfl ?_
    obtain rfl := Option.some.inj H
    have hS := hS.nilRds
    replace hS := hS.nilRd
    have hS := hS.front 6 rfl
    have hS := hS.front 6 rfl
    have hS := hS.front 6 rfl
    have hS := hS.front 6 rfl
    have hS := hS.front 6 rfl
    replace hS := hS.weak Weak.rowRd
    replace hS := hS.cut 7
    exact ⟨A15, c16, A19, c20, A23, c24, A27, c28, A31, c32, none, 0, ([] : List Mq), rfl, k17, k21, k25, k29, k33, ⟨Nat.le_refl _, Nat.zero_le _⟩, rfl, okq_nil, hS⟩
  replace H := cond_f H hb
  refine wpS_put rfl rfl rfl (yv_fieldAddr fo_36_0 rfl) ?_
  refine wpS_put rfl rfl rfl (yv_load_box sc_5 rfl (RW.here _) hS hs1 trivial sg0_1) ?_
  refine wpS_put rfl rfl rfl (yv_neq rfl rfl) ?_
  refine wpS_quick 1 rfl ?_
  refine wpS_nil ?_
  refine QH_seq_k hK9 ?_
  refine wpC_cond rfl (fun hb => ?_) (fun hb => ?_)
  · replace H := cond_t H hb
    refine wpC_seq_k (fun K hK35 => ?_)
    refine wpC_region ?_
    refine wpS_put rfl rfl rfl (yv_load_boxA ag_30 rfl (RW.here _) hS hs2 trivial sg0_22) ?_
    obtain ⟨r36, hm37, H⟩ := bind_some H
    refine wpS_call rfl rfl rfl rfl (by kernel_rfl) rfl (c_msg_Own x0 A0_ c0_ A1_ c1_ A2_ c2_ A3_ c3_ A4_ c4_ _ (SlI.of_rd s0_.k (hS.rd0 s0_.rd) (hS.blk0 s0_.blk)) (SlI.of_rd s1_.k (hS.rd0 s1_.rd) (hS.blk0 s1_.blk)) (SlI.of_rd s2_.k (hS.rd0 s2_.rd) (hS.blk0 s2_.blk)) (SlI.of_rd s3_.k (hS.rd0 s3_.rd) (hS.blk0 s3_.blk)) (SlI.of_rd s4_.k (hS.rd0 s4_.rd) (hS.blk0 s4_.blk)) hm37) ?_
    rintro e w ⟨A38, c39, A42, c43, A46, c47, A50, c51, A54, c55, rfl, k40, k44, k48, k52, k56, hN⟩; refine ⟨_, rfl, ?_⟩; have hB := hN.pure; have hS := hS.join hN; clear hN
    refine wpS_store rfl rfl rfl CellsOf.agg hS ps5 st0_22 (by kernel_rfl) rfl (fun w hS hB => ?_)
    refine wpS_quick 1 rfl ?_
    refine wpS_nil ?_
    refine QH_seq_k hK35 ?_
    refine wpC_ret ?_
    refine QH_then_ret ?_
    refine QH_jmp_ret ?_
    refine QH_ret rfl (RV.cell rfl (load_boxA ag_30 hS hs5 sg0_22) (RV.tmp rfl RV.nil)) rfl ?_
    obtain rfl := Option.some.inj H
    have hS := hS.nilRds
    replace hS := hS.nilRd
    have hS := hS.front 6 rfl
    have hS := hS.front 6 rfl
    have hS := hS.front 6 rfl
    have hS := hS.front 6 rfl
    have hS := hS.front 6 rfl
    replace hS := hS.weak Weak.rowRd
    replace hS := hS.cut 7
    exact ⟨A38, c39, A42, c43, A46, c47, A50, c51, A54, c55, none, 0, ([] : List Mq), rfl, k40, k44, k48, k52, k56, ⟨Nat.le_refl _, Nat.zero_le _⟩, rfl, okq_nil, hS⟩
  replace H := cond_f H hb
  refine wpC_skip ?_
  refine QH_seq_k hK8 ?_
  refine wpC_seq_k (fun K hK58 => ?_)
  refine wpC_region ?_
  refine wpS_put rfl rfl rfl (yv_load_boxA ag_30 rfl (RW.here _) hS hs2 trivial sg0_22) ?_
  refine wpS_put rfl rfl rfl (yv_load_boxA ag_36 rfl (RW.here _) hS hs1 trivial sg0_15) ?_
  obtain ⟨r59, hm60, H⟩ := bind_some H
  refine wpS_call rfl rfl rfl rfl (by kernel_rfl) rfl (c_elect_Meet x0 x1 A0_ c0_ A1_ c1_ A2_ c2_ A3_ c3_ A4_ c4_ A5_ c5_ _ (SlI.of_rd s0_.k (hS.rd0 s0_.rd) (hS.blk0 s0_.blk)) (SlI.of_rd s1_.k (hS.rd0 s1_.rd) (hS.blk0 s1_.blk)) (SlI.of_rd s2_.k (hS.rd0 s2_.rd) (hS.blk0 s2_.blk)) (SlI.of_rd s3_.k (hS.rd0 s3_.rd) (hS.blk0 s3_.blk)) (SlI.of_rd s4_.k (hS.rd0 s4_.rd) (hS.blk0 s4_.blk)) (SlI.of_rd s5_.k (hS.rd0 s5_.rd) (hS.blk0 s5_.blk)) hm60) ?_
  rintro e w ⟨A61, c62, A65, c66, A69, c70, A73, c74, A77, c78, rfl, k63, k67, k71, k75, k79, hN⟩; refine ⟨_, rfl, ?_⟩; have hB := hN.pure; have hS := hS.join hN; clear hN
  refine wpS_store rfl rfl rfl CellsOf.agg hS ps7 st0_22 (by kernel_rfl) rfl (fun w hS hB => ?_)
  refine wpS_nil ?_
  refine QH_seq_k hK58 ?_
  refine wpC_seq_k (fun K hK81 => ?_)
  refine wpC_seq_k (fun K hK82 => ?_)
  refine wpC_region ?_
  refine wpS_put rfl rfl rfl (yv_fieldAddr fo_36_8 rfl) ?_
  refine wpS_put rfl rfl rfl (yv_load_box sc_4 rfl (RW.here _) hS hs6 trivial sg8_1) ?_
  refine wpS_put rfl rfl rfl (yv_not rfl) ?_
  refine wpS_quick 1 rfl ?_
  refine wpS_case 23 rfl (fun hb => ?_) (fun hb => ?_)
  · replace H := cond_t H hb
    refine wpS_quick 12 rfl ?_
    refine wpS_nil ?_
    refine QH_seq_k hK82 ?_
    refine wpC_cond_t rfl rfl ?_
    refine wpC_goto ?_
    refine QH_then_goto ?_
    refine QH_ahead ?_
    refine wpC_seq_k (fun K hK83 => ?_)
    refine wpC_skip ?_
    refine QH_seq_k hK83 ?_
    refine wpC_seq_k (fun K hK84 => ?_)
    refine wpC_region ?_
    refine wpS_put rfl rfl rfl (yv_load_boxA ag_30 rfl (RW.here _) hS hs7 trivial sg0_22) ?_
    refine wpS_store rfl rfl rfl CellsOf.agg hS ps5 st0_22 (by kernel_rfl) rfl (fun w hS hB => ?_)
    refine wpS_quick 1 rfl ?_
    refine wpS_nil ?_
    refine QH_seq_k hK84 ?_
    refine wpC_ret ?_
    refine QH_jmp_ret ?_
    refine QH_ret rfl (RV.cell rfl (load_boxA ag_30 hS hs5 sg0_22) (RV.tmp rfl RV.nil)) rfl ?_
    obtain rfl := Option.some.inj H
    have hS := hS.nilRds
    replace hS := hS.nilRd
    have hS := hS.front 6 rfl
    have hS := hS.front 6 rfl
    have hS := hS.front 6 rfl
    have hS := hS.front 6 rfl
    have hS := hS.front 6 rfl
    replace hS := hS.cut 7
    exact ⟨A61, c62, A65, c66, A69, c70, A73, c74, A77, c78, none, 0, ([] : List Mq), rfl, k63, k67, k71, k75, k79, ⟨Nat.le_refl _, Nat.zero_le _⟩, rfl, okq_nil, hS⟩
  replace H := cond_f H hb
  refine wpS_put rfl rfl rfl (yv_fieldAddr fo_30_2 rfl) ?_
  refine wpS_put rfl rfl rfl (yv_load_box sc_5 rfl (RW.here _) hS hs7 trivial sg2_1) ?_
  refine wpS_put rfl rfl rfl (yv_neq rfl rfl) ?_
  refine wpS_quick 2 rfl ?_
  refine wpS_case 28 rfl (fun hb => ?_) (fun hb => ?_)
  · replace H := cond_t H hb
    refine wpS_quick 7 rfl ?_
    refine wpS_nil ?_
    refine QH_seq_k hK82 ?_
    refine wpC_cond_t rfl rfl ?_
    refine wpC_goto ?_
    refine QH_then_goto ?_
    refine QH_ahead ?_
    refine wpC_seq_k (fun K hK85 => ?_)
    refine wpC_skip ?_
    refine QH_seq_k hK85 ?_
    refine wpC_seq_k (fun K hK86 => ?_)
    refine wpC_region ?_
    refine wpS_put rfl rfl rfl (yv_load_boxA ag_30 rfl (RW.here _) hS hs7 trivial sg0_22) ?_
    refine wpS_store rfl rfl rfl CellsOf.agg hS ps5 st0_22 (by kernel_rfl) rfl (fun w hS hB => ?_)
    refine wpS_quick 1 rfl ?_
    refine wpS_nil ?_
    refine QH_seq_k hK86 ?_
    refine wpC_ret ?_
    refine QH_jmp_ret ?_
    refine QH_ret rfl (RV.cell rfl (load_boxA ag_30 hS hs5 sg0_22) (RV.tmp rfl RV.nil)) rfl ?_
    obtain rfl := Option.some.inj H
    have hS := hS.nilRds
    replace hS := hS.nilRd
    have hS := hS.front 6 rfl
    have hS := hS.front 6 rfl
    have hS := hS.front 6 rfl
    have hS := hS.front 6 rfl
    have hS := hS.front 6 rfl
    replace hS := hS.cut 7
    exact ⟨A61, c62, A65, c66, A69, c70, A73, c74, A77, c78, none, 0, ([] : List Mq), rfl, k63, k67, k71, k75, k79, ⟨Nat.le_refl _, Nat.zero_le _⟩, rfl, okq_nil, hS⟩
  replace H := cond_f H hb
  refine wpS_put rfl rfl rfl (yv_fieldAddr fo_36_3 rfl) ?_
  refine wpS_put rfl rfl rfl (yv_load_box sc_3 rfl (RW.here _) hS hs6 trivial sg3_1) ?_
  refine wpS_put rfl rfl rfl (yv_fieldAddr fo_30_4 rfl) ?_
  refine wpS_put rfl rfl rfl (yv_fieldAddr fo_26_2 rfl) ?_
  refine wpS_put rfl rfl rfl (yv_load_box sc_3 rfl (RW.here _) hS hs7 trivial sg10_1) ?_
  refine wpS_put rfl rfl rfl (yv_neq rfl rfl) ?_
  refine wpS_quick 1 rfl ?_
  refine wpS_nil ?_
  refine QH_seq_k hK82 ?_
  refine wpC_cond rfl (fun hb => ?_) (fun hb => ?_)
  · replace H := cond_t H hb
    refine wpC_goto ?_
    refine QH_then_goto ?_
    refine QH_ahead ?_
    refine wpC_seq_k (fun K hK87 => ?_)
    refine wpC_skip ?_
    refine QH_seq_k hK87 ?_
    refine wpC_seq_k (fun K hK88 => ?_)
    refine wpC_region ?_
    refine wpS_put rfl rfl rfl (yv_load_boxA ag_30 rfl (RW.here _) hS hs7 trivial sg0_22) ?_
    refine wpS_store rfl rfl rfl CellsOf.agg hS ps5 st0_22 (by kernel_rfl) rfl (fun w hS hB => ?_)
    refine wpS_quick 1 rfl ?_
    refine wpS_nil ?_
    refine QH_seq_k hK88 ?_
    refine wpC_ret ?_
    refine QH_jmp_ret ?_
    refine QH_ret rfl (RV.cell rfl (load_boxA ag_30 hS hs5 sg0_22) (RV.tmp rfl RV.nil)) rfl ?_
    obtain rfl := Option.some.inj H
    have hS := hS.nilRds
    replace hS := hS.nilRd
    have hS := hS.front 6 rfl
    have hS := hS.front 6 rfl
    have hS := hS.front 6 rfl
    have hS := hS.front 6 rfl
    have hS := hS.front 6 rfl
    replace hS := hS.cut 7
    exact ⟨A61, c62, A65, c66, A69, c70, A73, c74, A77, c78, none, 0, ([] : List Mq), rfl, k63, k67, k71, k75, k79, ⟨Nat.le_refl _, Nat.zero_le _⟩, rfl, okq_nil, hS⟩
  replace H := cond_f H hb
  refine wpC_skip ?_
  refine QH_seq_k hK81 ?_
  refine wpC_seq_k (fun K hK89 => ?_)
  refine wpC_seq_k (fun K hK90 => ?_)
  refine wpC_region ?_
  refine wpS_put rfl rfl rfl (yv_fieldAddr fo_30_7 rfl) ?_
  refine wpS_put rfl rfl rfl (yv_load_box sc_27 rfl (RW.here _) hS hs7 trivial sg18_1) ?_
  refine wpS_put rfl rfl rfl (yv_fieldAddr fo_36_1 rfl) ?_
  refine wpS_put rfl rfl rfl (yv_load_box sc_3 rfl (RW.here _) hS hs6 trivial sg1_1) ?_
  refine wpS_put rfl rfl rfl (yx_sub rfl rfl) ?_
  obtain ⟨e91, hi93, H⟩ := bind_some H
  obtain ⟨j92, hi93a, hi93b, hi93c⟩ := idx_some hi93
  refine wpS_put rfl rfl rfl (yx_idx el_27 rfl rfl hi93a hi93c (Rd.el (hS.row_rd hs1) he_enO hi93b)) ?_
  refine wpX_storeR (a' := true) (zs := (setI r59.votes (IntKind.wrap .i64 (x1.frm - 1)) true)) he_enO rfl rfl rfl CellsOf.bool hS ps1 (Rd.el (hS.row_rd hs1) he_enO hi93b) hi93a hi93b rfl st0_1 (by kernel_rfl) rfl (fun w hS => ?_)
  refine wpS_nil ?_
  refine QH_seq_k hK90 ?_
  refine wpC_seq_k (fun K hK94 => ?_)
  refine wpC_region ?_
  refine wpS_put rfl rfl rfl (yv_fieldAddr fo_30_7 rfl) ?_
  refine wpS_put rfl rfl rfl (yv_load_box sc_27 rfl (RW.here _) hS hs7 trivial sg18_1) ?_
  obtain ⟨r95, hm96, H⟩ := bind_some H
  refine wpS_call rfl rfl rfl rfl (by kernel_rfl) (by rw [(setI_len rfl)]; rfl) (c_elect_Half (setI r59.votes (IntKind.wrap .i64 (x1.frm - 1)) true) A65 c66 _ (SlI.of_rd (k_set k67) (hS.row_rd hs1) (hS.row_blk hs1)) hm96) ?_
  rintro e w ⟨rfl, hN⟩; refine ⟨_, rfl, ?_⟩; have hB := hN.pure; have hS := hS.join hN; clear hN
  refine wpS_nil ?_
  refine QH_seq_k hK94 ?_
  refine wpC_cond rfl (fun hb => ?_) (fun hb => ?_)
  rotate_left
  · replace H := cond_f H hb
    refine wpC_skip ?_
    refine QH_seq_k hK89 ?_
    refine wpC_seq_k (fun K hK121 => ?_)
    refine wpC_label ?_
    refine QH_seq_k hK121 ?_
    refine wpC_seq_k (fun K hK122 => ?_)
    refine wpC_region ?_
    refine wpS_put rfl rfl rfl (yv_load_boxA ag_30 rfl (RW.here _) hS hs7 trivial sg0_22) ?_
    refine wpS_store rfl rfl rfl CellsOf.agg hS ps5 st0_22 (by kernel_rfl) rfl (fun w hS hB => ?_)
    refine wpS_quick 1 rfl ?_
    refine wpS_nil ?_
    refine QH_seq_k hK122 ?_
    refine wpC_ret ?_
    refine QH_jmp_ret ?_
    refine QH_ret rfl (RV.cell rfl (load_boxA ag_30 hS hs5 sg0_22) (RV.tmp rfl RV.nil)) rfl ?_
    obtain rfl := Option.some.inj H
    have hS := hS.nilRds
    replace hS := hS.nilRd
    have hS := hS.front 6 rfl
    have hS := hS.front 6 rfl
    have hS := hS.front 6 rfl
    have hS := hS.front 6 rfl
    have hS := hS.front 6 rfl
    replace hS := hS.cut 7
    exact ⟨A61, c62, A65, c66, A69, c70, A73, c74, A77, c78, none, 0, ([] : List Mq), by rw [(setI_len rfl)]; rfl, k63, (k_set k67), k71, k75, k79, ⟨Nat.le_refl _, Nat.zero_le _⟩, rfl, okq_nil, hS.eqv (by rw [(setI_len rfl)]; rfl)⟩
  replace H := cond_t H hb
  refine wpC_region ?_
  refine wpS_put rfl rfl rfl (yv_load_boxA ag_30 rfl (RW.here _) hS hs7 trivial sg0_22) ?_
  obtain ⟨r97, hm98, H⟩ := bind_some H
  refine wpS_call rfl rfl rfl rfl (by kernel_rfl) (by rw [(setI_len rfl)]; rfl) (c_elect_Lead (⟨r59.id, r59.n, r59.role, r59.binary, r59.tuple, r59.commit, r59.applied, (setI r59.votes (IntKind.wrap .i64 (x1.frm - 1)) true), r59.next, r59.mtch, r59.caps⟩ : Co) A61 c62 A65 c66 A69 c70 A73 c74 A77 c78 _ (SlI.of_rd k63 (hS.rd hs0) (hS.rd_blk hs0)) (SlI.of_rd (k_set k67) (hS.row_rd hs1) (hS.row_blk hs1)) (SlI.of_rd k71 (hS.row_rd hs2) (hS.row_blk hs2)) (SlI.of_rd k75 (hS.row_rd hs3) (hS.row_blk hs3)) (SlI.of_rd k79 (hS.row_rd hs4) (hS.row_blk hs4)) hm98) ?_
  rintro e w ⟨A99, c100, A103, c104, A107, c108, A111, c112, A115, c116, rfl, k101, k105, k109, k113, k117, hN⟩; refine ⟨_, rfl, ?_⟩; have hB := hN.pure; have hS := hS.join hN; clear hN
  refine wpS_store rfl rfl rfl CellsOf.agg hS ps12 st0_22 (by kernel_rfl) rfl (fun w hS hB => ?_)
  refine wpS_nil ?_
  refine QH_seq_k hK89 ?_
  refine wpC_seq_k (fun K hK119 => ?_)
  refine wpC_label ?_
  refine QH_seq_k hK119 ?_
  refine wpC_seq_k (fun K hK120 => ?_)
  refine wpC_region ?_
  refine wpS_put rfl rfl rfl (yv_load_boxA ag_30 rfl (RW.here _) hS hs12 trivial sg0_22) ?_
  refine wpS_store rfl rfl rfl CellsOf.agg hS ps10 st0_22 (by kernel_rfl) rfl (fun w hS hB => ?_)
  refine wpS_quick 1 rfl ?_
  refine wpS_nil ?_
  refine QH_seq_k hK120 ?_
  refine wpC_ret ?_
  refine QH_jmp_ret ?_
  refine QH_ret rfl (RV.cell rfl (load_boxA ag_30 hS hs10 sg0_22) (RV.tmp rfl RV.nil)) rfl ?_
  obtain rfl := Option.some.inj H
  have hS := hS.nilRds
  replace hS := hS.nilRd
  have hS := hS.front 6 rfl
  have hS := hS.front 6 rfl
  have hS := hS.front 6 rfl
  have hS := hS.front 6 rfl
  have hS := hS.front 6 rfl
  replace hS := hS.cut 7
  exact ⟨A99, c100, A103, c104, A107, c108, A111, c112, A115, c116, none, 0, ([] : List Mq), rfl, k101, k105, k109, k113, k117, ⟨Nat.le_refl _, Nat.zero_le _⟩, rfl, okq_nil, hS⟩
theorem c_law22_wakes (w0 : World) {r : Bool} (H : m_law22_wakes = some r) : Calls Try.prog 11 #[] w0 fun e w' => e = .returned (.bool r) ∧ St0 All w0 w' [] := by
  unfold m_law22_wakes at H
  refine gw_enter0 Try.func11 rfl Try.ntmps11 rfl ?_
  have hS := St0.start All w0
  refine wpC_seq_k (fun K hK1 => ?_)
  refine wpC_region ?_
  refine wpS_quick 1 rfl ?_
  refine wpS_nil ?_
  refine QH_seq_k hK1 ?_
  refine wpC_seq_k (fun K hK2 => ?_)
  refine wpC_region ?_
  obtain ⟨r3, hm4, H⟩ := bind_some H
  refine wpS_call rfl rfl rfl rfl (by kernel_rfl) rfl (c_ref12_First _ hm4) ?_
  rintro e w ⟨A5, c6, rfl, k7, hN⟩; refine ⟨_, rfl, ?_⟩; have hB := hN.pure; have hS := hS.join hN; clear hN
  obtain ⟨r9, hm10, H⟩ := bind_some H
  refine wpS_call rfl rfl rfl rfl (by kernel_rfl) rfl (c_ref20_New 1 1 1 r3 A5 c6 _ (SlI.of_rd k7 (hS.rd hs0) (hS.rd_blk hs0)) hm10) ?_
  rintro e w ⟨A11, c12, A15, c16, A19, c20, A23, c24, A27, c28, rfl, k13, k17, k21, k25, k29, hN⟩; refine ⟨_, rfl, ?_⟩; have hB := hN.pure; have hS := hS.join hN; clear hN
  obtain ⟨r31, hm32, H⟩ := bind_some H
  refine wpS_call rfl rfl rfl rfl (by kernel_rfl) rfl (c_elect_Timeout r9 A11 c12 A15 c16 A19 c20 A23 c24 A27 c28 _ (SlI.of_rd k13 (hS.row_rd hs0) (hS.row_blk hs0)) (SlI.of_rd k17 (hS.row_rd hs1) (hS.row_blk hs1)) (SlI.of_rd k21 (hS.row_rd hs2) (hS.row_blk hs2)) (SlI.of_rd k25 (hS.row_rd hs3) (hS.row_blk hs3)) (SlI.of_rd k29 (hS.row_rd hs4) (hS.row_blk hs4)) hm32) ?_
  rintro e w ⟨A33, c34, A37, c38, A41, c42, A45, c46, A49, c50, A53, c54, q57, rfl, k35, k39, k43, k47, k51, k55, hq58, okq59, hN⟩; refine ⟨_, rfl, ?_⟩; have hB := hN.pure; have hS := hS.join hN; clear hN
  refine wpS_quick 1 rfl ?_
  refine wpS_put rfl rfl rfl (yv_extract rfl rfl) ?_
  refine wpS_put rfl rfl rfl (yv_extract rfl rfl) ?_
  refine wpS_alloc rfl rfl zc_30 hS (fun b61 w hS hB => ?_)
  refine wpS_store rfl rfl rfl CellsOf.agg hS ps0 st0_22 (by kernel_rfl) rfl (fun w hS hB => ?_)
  refine wpS_quick 1 rfl ?_
  refine wpS_nil ?_
  refine QH_seq_k hK2 ?_
  refine wpC_seq_k (fun K hK63 => ?_)
  refine wpC_region ?_
  obtain ⟨r64, hm65, H⟩ := bind_some H
  refine wpS_call rfl rfl rfl rfl (by kernel_rfl) rfl (c_ref12_First _ hm65) ?_
  rintro e w ⟨A66, c67, rfl, k68, hN⟩; refine ⟨_, rfl, ?_⟩; have hB := hN.pure; have hS := hS.join hN; clear hN
  obtain ⟨r70, hm71, H⟩ := bind_some H
  refine wpS_call rfl rfl rfl rfl (by kernel_rfl) rfl (c_ref20_New 1 3 1 r64 A66 c67 _ (SlI.of_rd k68 (hS.rd hs0) (hS.rd_blk hs0)) hm71) ?_
  rintro e w ⟨A72, c73, A76, c77, A80, c81, A84, c85, A88, c89, rfl, k74, k78, k82, k86, k90, hN⟩; refine ⟨_, rfl, ?_⟩; have hB := hN.pure; have hS := hS.join hN; clear hN
  obtain ⟨r92, hm93, H⟩ := bind_some H
  refine wpS_call rfl rfl rfl rfl (by kernel_rfl) rfl (c_elect_Timeout r70 A72 c73 A76 c77 A80 c81 A84 c85 A88 c89 _ (SlI.of_rd k74 (hS.row_rd hs0) (hS.row_blk hs0)) (SlI.of_rd k78 (hS.row_rd hs1) (hS.row_blk hs1)) (SlI.of_rd k82 (hS.row_rd hs2) (hS.row_blk hs2)) (SlI.of_rd k86 (hS.row_rd hs3) (hS.row_blk hs3)) (SlI.of_rd k90 (hS.row_rd hs4) (hS.row_blk hs4)) hm93) ?_
  rintro e w ⟨A94, c95, A98, c99, A102, c103, A106, c107, A110, c111, A114, c115, q118, rfl, k96, k100, k104, k108, k112, k116, hq119, okq120, hN⟩; refine ⟨_, rfl, ?_⟩; have hB := hN.pure; have hS := hS.join hN; clear hN
  refine wpS_quick 1 rfl ?_
  refine wpS_put rfl rfl rfl (yv_extract rfl rfl) ?_
  refine wpS_put rfl rfl rfl (yv_extract rfl rfl) ?_
  refine wpS_alloc rfl rfl zc_30 hS (fun b122 w hS hB => ?_)
  refine wpS_store rfl rfl rfl CellsOf.agg hS ps0 st0_22 (by kernel_rfl) rfl (fun w hS hB => ?_)
  refine wpS_quick 1 rfl ?_
  refine wpS_nil ?_
  refine QH_seq_k hK63 ?_
  refine wpC_seq_k (fun K hK124 => ?_)
  refine wpC_seq_k (fun K hK125 => ?_)
  refine wpC_region ?_
  refine wpS_quick 1 rfl ?_
  refine wpS_put rfl rfl rfl (yv_len el_32 rfl) ?_
  refine wpS_put rfl rfl rfl (yv_neq rfl rfl) ?_
  refine wpS_quick 1 rfl ?_
  refine wpS_case 26 rfl (fun hb => ?_) (fun hb => ?_)
  · replace H := cond_t H hb
    refine wpS_quick 5 rfl ?_
    refine wpS_nil ?_
    refine QH_seq_k hK125 ?_
    refine wpC_cond_t rfl rfl ?_
    refine wpC_seq_k (fun K hK126 => ?_)
    refine wpC_region ?_
    refine wpS_quick 1 rfl ?_
    refine wpS_nil ?_
    refine QH_seq_k hK126 ?_
    refine wpC_ret ?_
    refine QH_then_ret ?_
    refine QH_ret rfl (RV.tmp rfl RV.nil) rfl ?_
    obtain rfl := Option.some.inj H
    replace hS := hS.cut 0
    exact ⟨rfl, hS⟩
  replace H := cond_f H hb
  refine wpS_put rfl rfl rfl (yv_fieldAddr fo_30_7 rfl) ?_
  refine wpS_put rfl rfl rfl (yv_load_box sc_27 rfl (RW.here _) hS hs0 trivial sg18_1) ?_
  refine wpS_put rfl rfl rfl (yv_len el_27 rfl) ?_
  refine wpS_put rfl rfl rfl (yv_neq rfl rfl) ?_
  refine wpS_quick 1 rfl ?_
  refine wpS_nil ?_
  refine QH_seq_k hK125 ?_
  refine wpC_cond rfl (fun hb => ?_) (fun hb => ?_)
  · replace H := cond_t H hb
    refine wpC_seq_k (fun K hK127 => ?_)
    refine wpC_region ?_
    refine wpS_quick 1 rfl ?_
    refine wpS_nil ?_
    refine QH_seq_k hK127 ?_
    refine wpC_ret ?_
    refine QH_then_ret ?_
    refine QH_ret rfl (RV.tmp rfl RV.nil) rfl ?_
    obtain rfl := Option.some.inj H
    replace hS := hS.cut 0
    exact ⟨rfl, hS⟩
  replace H := cond_f H hb
  refine wpC_skip ?_
  refine QH_seq_k hK124 ?_
  refine wpC_seq_k (fun K hK128 => ?_)
  refine wpC_draw 12 [10] (fun i b => (i = 10 → b = b122 ∨ b = b61)) ⟨by kernel_rfl, by kernel_rfl⟩ hS (fun w hS hB => ?_)
  refine wpRF_start [⟨9, 5, 30, [.int .i64 0, .int .i64 0, .int .u8 0, .int .i64 0, .int .i64 0, .int .i64 0, .int .i64 0, .int .i64 0, .bool false, .slice none 0 0, .int .i64 0, .int .i64 0, .int .i64 0, .int .i64 0, .int .i64 0, .int .i64 0, .int .i64 0, .bool false, .slice none 0 0, .slice none 0 0, .slice none 0 0, .slice none 0 0]⟩] (.cons rfl zc_30 rfl rfl rfl .nil) hS (fun hok => ?_)
  dsimp only [List.cons_append, List.nil_append]
  refine wpRF_batch [false, false, true, true, true] [] (fun _ => True) (by decide +kernel) (fun _ h => by cases h) (by repeat (first | exact PF.body | exact PF.round | apply PF.then | apply PF.inBlock | apply PF.jump)) (fun X Y tk ht w hS => ?_)
  refine LtK.put rfl rfl rfl (yv_move rfl) ?_
  obtain ⟨e129, hi131, H⟩ := bind_some H
  obtain ⟨j130, A132, c133, hi131a, hi131b, hi131c⟩ := idxQ (q := q118) hq119 hi131
  refine LtK.put rfl rfl rfl (yx_idx el_32 rfl rfl hi131a hi131c (Rd.el (hS.rd hs6) he_enQ hi131b)) ?_
  refine LtK.put rfl rfl rfl (yx_ldA0 ag_36 rfl (RW.keepB _ _) (Rd.el (hS.rd hs6) he_enQ hi131b) sg0_15) ?_
  refine LtK_F' ht hS (by repeat (first | exact App.nil | apply App.cons)) (by repeat (first | exact App.nil | apply App.cons)) ?_
  dsimp only [List.cons_append, List.nil_append]
  refine wpRF_call [true] 0 hok ⟨by decide, by decide +kernel, by decide, by decide⟩ rfl rfl (fun _ => rfl) (fun _ => rfl) rfl (hend_of (by decide +kernel)) (fun X Y tk ht w hS => ?_)
  try dsimp only [pickL]
  obtain ⟨r134, hm135, H⟩ := bind_some H
  refine wpS_call rfl rfl rfl rfl (by kernel_rfl) rfl (c_ref12_First _ hm135) ?_
  rintro e w ⟨A136, c137, rfl, k138, hN⟩; refine ⟨_, rfl, ?_⟩; have hB := hN.pure; have hS := hS.join hN; clear hN
  refine wpS_nil ?_
  refine QH_stepF' ht hS hB (by repeat (first | exact App.nil | apply App.cons)) (by repeat (first | exact App.nil | apply App.cons)) ?_
  dsimp only [List.cons_append, List.nil_append]
  refine wpRF_call [false, true] 1 hok ⟨by decide, by decide +kernel, by decide, by decide⟩ rfl rfl (fun _ => rfl) (fun _ => rfl) rfl (hend_of (by decide +kernel)) (fun X Y tk ht w hS => ?_)
  try dsimp only [pickL]
  obtain ⟨r140, hm141, H⟩ := bind_some H
  refine wpS_call rfl rfl rfl rfl (by kernel_rfl) rfl (c_ref20_New 2 3 2 r134 A136 c137 _ (SlI.of_rd k138 (hS.rd hs0) (hS.rd_blk hs0)) hm141) ?_
  rintro e w ⟨A142, c143, A146, c147, A150, c151, A154, c155, A158, c159, rfl, k144, k148, k152, k156, k160, hN⟩; refine ⟨_, rfl, ?_⟩; have hB := hN.pure; have hS := hS.join hN; clear hN
  refine wpS_nil ?_
  refine QH_stepF' ht hS hB (by repeat (first | exact App.nil | apply App.cons)) (by repeat (first | exact App.nil | apply App.cons)) ?_
  dsimp only [List.cons_append, List.nil_append]
  refine wpRF_call [false, false, false, false, false, true] 5 hok ⟨by decide, by decide +kernel, by decide, by decide⟩ rfl rfl (fun _ => rfl) (fun _ => rfl) rfl (hend_of (by decide +kernel)) (fun X Y tk ht w hS => ?_)
  try dsimp only [pickL]
  obtain ⟨r162, hm163, H⟩ := bind_some H
  refine wpS_call rfl rfl rfl rfl (by kernel_rfl) rfl (c_elect_Vote r140 e129 A142 c143 A146 c147 A150 c151 A154 c155 A158 c159 A132 c133 _ (SlI.of_rd k144 (hS.row_rd hs0) (hS.row_blk hs0)) (SlI.of_rd k148 (hS.row_rd hs1) (hS.row_blk hs1)) (SlI.of_rd k152 (hS.row_rd hs2) (hS.row_blk hs2)) (SlI.of_rd k156 (hS.row_rd hs3) (hS.row_blk hs3)) (SlI.of_rd k160 (hS.row_rd hs4) (hS.row_blk hs4)) (SlI.of_rd (okq120 _ (List.mem_of_getElem? hi131b)) (hS.rds_rd hs13 hi131b) (hS.rds_blk hs13 hi131b)) hm163) ?_
  rintro e w ⟨A164, c165, A168, c169, A172, c173, A176, c177, A180, c181, A184, c185, q188, rfl, k166, k170, k174, k178, k182, k186, hq189, okq190, hN⟩; refine ⟨_, rfl, ?_⟩; have hB := hN.pure; have hS := hS.join hN; clear hN
  refine wpS_nil ?_
  refine QH_stepF' ht hS hB (by repeat (first | exact App.nil | apply App.cons)) (by repeat (first | exact App.nil | apply App.cons)) ?_
  dsimp only [List.cons_append, List.nil_append]
  refine wpRF_batch [false, false, false, false, false, false, true, true] [] (fun _ => True) (by decide +kernel) (fun _ h => by cases h) (by repeat (first | exact PF.body | exact PF.round | apply PF.then | apply PF.inBlock | apply PF.jump)) (fun X Y tk ht w hS => ?_)
  refine LtK.put rfl rfl rfl (yv_move rfl) ?_
  refine LtK.put rfl rfl rfl (yv_extract rfl rfl) ?_
  refine LtK_F' ht hS (by repeat (first | exact App.nil | apply App.cons)) (by repeat (first | exact App.nil | apply App.cons)) ?_
  dsimp only [List.cons_append, List.nil_append]
  refine wpRF_batch [false, false, false, false, false, false, false, false, true] [10] (fun b => (b = b122 ∨ b = b61)) (by decide +kernel) (by intro j hj b hb; simp only [List.mem_cons, List.not_mem_nil, or_false] at hj; (try rcases hj with rfl | rfl | rfl | rfl | rfl) <;> first | (simp [hb]; done) | simp_all) (by repeat (first | exact PF.body | exact PF.round | apply PF.then | apply PF.inBlock | apply PF.jump)) (fun X Y tk ht w hS => ?_)
  refine LtK.put rfl rfl rfl (yv_extract rfl rfl) ?_
  refine LtK_F' ht hS (by repeat (first | exact App.nil | apply App.cons)) (by repeat (first | exact App.nil | apply App.cons)) ?_
  dsimp only [List.cons_append, List.nil_append]
  refine wpRF_done hok (by decide) (by decide +kernel) (fun _ => rfl) (fun _ => rfl) rfl (fun tk htk w hS => ?_)
  obtain ⟨b192, tkb192, rfl, htk194⟩ := tk_cons htk
  obtain rfl := tk_nil htk194
  dsimp only [tkH, tkL, List.map] at hS ⊢
  refine wpR_seal [false, false, false, false, false, false, false, false, false, false, true] 10 ⟨by decide, by kernel_rfl, by kernel_rfl⟩ rfl rfl ?_
  try dsimp only [pickL]
  refine wpS_store rfl rfl rfl CellsOf.agg hS ps41 st0_22 (by kernel_rfl) rfl (fun w hS hB => ?_)
  refine wpS_nil ?_
  refine QH_stepG (hB.sub (fun b _ h => by have h0 : b = b122 ∨ b = b61 := (by simpa using h); rcases h0 with h0 | h0; (rw [h0]; exact hS.ne 13 41 rfl rfl rfl); (rw [h0]; exact hS.ne 27 41 rfl rfl rfl))) ?_
  refine wpR_batch [false, false, false, false, false, false, false, false, false, false, false, true] (by decide +kernel) (by repeat (first | exact PF.body | exact PF.round | apply PF.then | apply PF.inBlock | apply PF.jump)) ?_
  refine LtK.put rfl rfl rfl (yv_assign rfl) ?_
  refine LtK.nil ?_
  refine wpR_end (by kernel_rfl) ?_
  refine QH_seq_k hK128 ?_
  refine wpC_seq_k (fun K hK195 => ?_)
  refine wpC_seq_k (fun K hK196 => ?_)
  refine wpC_region ?_
  refine wpS_quick 1 rfl ?_
  refine wpS_put rfl rfl rfl (yv_len el_32 rfl) ?_
  refine wpS_put rfl rfl rfl (yv_neq rfl rfl) ?_
  refine wpS_nil ?_
  refine QH_seq_k hK196 ?_
  refine wpC_cond rfl (fun hb => ?_) (fun hb => ?_)
  · replace H := cond_t H hb
    refine wpC_seq_k (fun K hK197 => ?_)
    refine wpC_region ?_
    refine wpS_quick 1 rfl ?_
    refine wpS_nil ?_
    refine QH_seq_k hK197 ?_
    refine wpC_ret ?_
    refine QH_then_ret ?_
    refine QH_ret rfl (RV.tmp rfl RV.nil) rfl ?_
    obtain rfl := Option.some.inj H
    replace hS := hS.cut 0
    exact ⟨rfl, hS⟩
  replace H := cond_f H hb
  refine wpC_skip ?_
  refine QH_seq_k hK195 ?_
  refine wpC_seq_k (fun K hK198 => ?_)
  refine wpC_draw 11 [9] (fun i b => (i = 9 → b = b122 ∨ b = b61 ∨ b = b192)) ⟨by kernel_rfl, by kernel_rfl⟩ hS (fun w hS hB => ?_)
  refine wpRF_start [⟨8, 7, 30, [.int .i64 0, .int .i64 0, .int .u8 0, .int .i64 0, .int .i64 0, .int .i64 0, .int .i64 0, .int .i64 0, .bool false, .slice none 0 0, .int .i64 0, .int .i64 0, .int .i64 0, .int .i64 0, .int .i64 0, .int .i64 0, .int .i64 0, .bool false, .slice none 0 0, .slice none 0 0, .slice none 0 0, .slice none 0 0]⟩] (.cons rfl zc_30 rfl rfl rfl .nil) hS (fun hok => ?_)
  dsimp only [List.cons_append, List.nil_append]
  refine wpRF_batch [true, true, true, true] [] (fun _ => True) (by decide +kernel) (fun _ h => by cases h) (by repeat (first | exact PF.body | exact PF.round | apply PF.then | apply PF.inBlock | apply PF.jump)) (fun X Y tk ht w hS => ?_)
  refine LtK.put rfl rfl rfl (yv_load_boxA ag_30 rfl (RW.keepB _ _) hS hs13 trivial sg0_22) ?_
  refine LtK.put rfl rfl rfl (yv_move rfl) ?_
  obtain ⟨e199, hi201, H⟩ := bind_some H
  obtain ⟨j200, A202, c203, hi201a, hi201b, hi201c⟩ := idxQ (q := q188) hq189 hi201
  refine LtK.put rfl rfl rfl (yx_idx el_32 rfl rfl hi201a hi201c (Rd.el (hS.rd hs5) he_enQ hi201b)) ?_
  refine LtK.put rfl rfl rfl (yx_ldA0 ag_36 rfl (RW.keepB _ _) (Rd.el (hS.rd hs5) he_enQ hi201b) sg0_15) ?_
  refine LtK_F' ht hS (by repeat (first | exact App.nil | apply App.cons)) (by repeat (first | exact App.nil | apply App.cons)) ?_
  dsimp only [List.cons_append, List.nil_append]
  refine wpRF_call [false, false, false, false, true] 4 hok ⟨by decide, by decide +kernel, by decide, by decide⟩ rfl rfl (fun _ => rfl) (fun _ => rfl) rfl (hend_of (by decide +kernel)) (fun X Y tk ht w hS => ?_)
  try dsimp only [pickL]
  obtain ⟨r204, hm205, H⟩ := bind_some H
  refine wpS_call rfl rfl rfl rfl (by kernel_rfl) rfl (c_elect_Voted r92.1 e199 A94 c95 A98 c99 A102 c103 A106 c107 A110 c111 A202 c203 _ (SlI.of_rd k96 (hS.rd hs14) (hS.rd_blk hs14)) (SlI.of_rd k100 (hS.row_rd hs15) (hS.row_blk hs15)) (SlI.of_rd k104 (hS.row_rd hs16) (hS.row_blk hs16)) (SlI.of_rd k108 (hS.row_rd hs17) (hS.row_blk hs17)) (SlI.of_rd k112 (hS.row_rd hs18) (hS.row_blk hs18)) (SlI.of_rd (okq190 _ (List.mem_of_getElem? hi201b)) (hS.rds_rd hs6 hi201b) (hS.rds_blk hs6 hi201b)) hm205) ?_
  rintro e w ⟨A206, c207, A210, c211, A214, c215, A218, c219, A222, c223, A226, c227, q230, rfl, k208, k212, k216, k220, k224, k228, hq231, okq232, hN⟩; refine ⟨_, rfl, ?_⟩; have hB := hN.pure; have hS := hS.join hN; clear hN
  refine wpS_nil ?_
  refine QH_stepF' ht hS hB (by repeat (first | exact App.nil | apply App.cons)) (by repeat (first | exact App.nil | apply App.cons)) ?_
  dsimp only [List.cons_append, List.nil_append]
  refine wpRF_batch [false, false, false, false, false, true, true] [] (fun _ => True) (by decide +kernel) (fun _ h => by cases h) (by repeat (first | exact PF.body | exact PF.round | apply PF.then | apply PF.inBlock | apply PF.jump)) (fun X Y tk ht w hS => ?_)
  refine LtK.put rfl rfl rfl (yv_move rfl) ?_
  refine LtK.put rfl rfl rfl (yv_extract rfl rfl) ?_
  refine LtK_F' ht hS (by repeat (first | exact App.nil | apply App.cons)) (by repeat (first | exact App.nil | apply App.cons)) ?_
  dsimp only [List.cons_append, List.nil_append]
  refine wpRF_batch [false, false, false, false, false, false, false, true] [9] (fun b => (b = b122 ∨ b = b61 ∨ b = b192)) (by decide +kernel) (by intro j hj b hb; simp only [List.mem_cons, List.not_mem_nil, or_false] at hj; (try rcases hj with rfl | rfl | rfl | rfl | rfl) <;> first | (simp [hb]; done) | simp_all) (by repeat (first | exact PF.body | exact PF.round | apply PF.then | apply PF.inBlock | apply PF.jump)) (fun X Y tk ht w hS => ?_)
  refine LtK.put rfl rfl rfl (yv_extract rfl rfl) ?_
  refine LtK_F' ht hS (by repeat (first | exact App.nil | apply App.cons)) (by repeat (first | exact App.nil | apply App.cons)) ?_
  dsimp only [List.cons_append, List.nil_append]
  refine wpRF_done hok (by decide) (by decide +kernel) (fun _ => rfl) (fun _ => rfl) rfl (fun tk htk w hS => ?_)
  obtain ⟨b234, tkb234, rfl, htk236⟩ := tk_cons htk
  obtain rfl := tk_nil htk236
  dsimp only [tkH, tkL, List.map] at hS ⊢
  refine wpR_seal [false, false, false, false, false, false, false, false, false, true] 9 ⟨by decide, by kernel_rfl, by kernel_rfl⟩ rfl rfl ?_
  try dsimp only [pickL]
  refine wpS_store rfl rfl rfl CellsOf.agg hS ps49 st0_22 (by kernel_rfl) rfl (fun w hS hB => ?_)
  refine wpS_nil ?_
  refine QH_stepG (hB.sub (fun b _ h => by have h0 : b = b122 ∨ b = b61 ∨ b = b192 := (by simpa using h); rcases h0 with h0 | h0 | h0; (rw [h0]; exact hS.ne 20 49 rfl rfl rfl); (rw [h0]; exact hS.ne 34 49 rfl rfl rfl); (rw [h0]; exact hS.ne 48 49 rfl rfl rfl))) ?_
  refine wpR_batch [false, false, false, false, false, false, false, false, false, false, true] (by decide +kernel) (by repeat (first | exact PF.body | exact PF.round | apply PF.then | apply PF.inBlock | apply PF.jump)) ?_
  refine LtK.put rfl rfl rfl (yv_assign rfl) ?_
  refine LtK.nil ?_
  refine wpR_end (by kernel_rfl) ?_
  refine QH_seq_k hK198 ?_
  refine wpC_seq_k (fun K hK237 => ?_)
  refine wpC_region ?_
  refine wpS_put rfl rfl rfl (yv_load_boxA ag_30 rfl (RW.here _) hS hs48 trivial sg0_22) ?_
  refine wpS_put rfl rfl rfl (yv_build (cells := [.int .u8 1, .int .i64 3, .int .i64 2, .int .i64 1, .int .i64 1, .int .i64 0, .int .i64 0, .int .i64 0, .bool false, .slice none 0 0, .int .i64 0, .int .i64 0, .int .i64 0, .int .i64 0, .bool false]) rfl (by kernel_rfl)) ?_
  obtain ⟨r238, hm239, H⟩ := bind_some H
  refine wpS_call rfl rfl rfl rfl (by kernel_rfl) rfl (c_elect_Vote r162.1 (⟨1, 3, 2, 1, 1, 0, 0, 0, false, [], (⟨0, 0, 0, 0, false⟩ : St)⟩ : Ms) A164 c165 A168 c169 A172 c173 A176 c177 A180 c181 none 0 _ (SlI.of_rd k166 (hS.rd hs7) (hS.rd_blk hs7)) (SlI.of_rd k170 (hS.row_rd hs8) (hS.row_blk hs8)) (SlI.of_rd k174 (hS.row_rd hs9) (hS.row_blk hs9)) (SlI.of_rd k178 (hS.row_rd hs10) (hS.row_blk hs10)) (SlI.of_rd k182 (hS.row_rd hs11) (hS.row_blk hs11)) (SlI.nil _ _) hm239) ?_
  rintro e w ⟨A240, c241, A244, c245, A248, c249, A252, c253, A256, c257, A260, c261, q264, rfl, k242, k246, k250, k254, k258, k262, hq265, okq266, hN⟩; refine ⟨_, rfl, ?_⟩; have hB := hN.pure; have hS := hS.join hN; clear hN
  refine wpS_quick 1 rfl ?_
  refine wpS_put rfl rfl rfl (yv_extract rfl rfl) ?_
  refine wpS_put rfl rfl rfl (yv_extract rfl rfl) ?_
  refine wpS_alloc rfl rfl zc_30 hS (fun b268 w hS hB => ?_)
  refine wpS_store rfl rfl rfl CellsOf.agg hS ps0 st0_22 (by kernel_rfl) rfl (fun w hS hB => ?_)
  refine wpS_quick 1 rfl ?_
  refine wpS_nil ?_
  refine QH_seq_k hK237 ?_
  refine wpC_seq_k (fun K hK270 => ?_)
  refine wpC_seq_k (fun K hK271 => ?_)
  refine wpC_region ?_
  refine wpS_quick 1 rfl ?_
  refine wpS_put rfl rfl rfl (yv_len el_32 rfl) ?_
  refine wpS_put rfl rfl rfl (yv_neq rfl rfl) ?_
  refine wpS_nil ?_
  refine QH_seq_k hK271 ?_
  refine wpC_cond rfl (fun hb => ?_) (fun hb => ?_)
  · replace H := cond_t H hb
    refine wpC_seq_k (fun K hK272 => ?_)
    refine wpC_region ?_
    refine wpS_quick 1 rfl ?_
    refine wpS_nil ?_
    refine QH_seq_k hK272 ?_
    refine wpC_ret ?_
    refine QH_then_ret ?_
    refine QH_ret rfl (RV.tmp rfl RV.nil) rfl ?_
    obtain rfl := Option.some.inj H
    replace hS := hS.cut 0
    exact ⟨rfl, hS⟩
  replace H := cond_f H hb
  refine wpC_skip ?_
  refine QH_seq_k hK270 ?_
  refine wpC_seq_k (fun K hK273 => ?_)
  refine wpC_region ?_
  refine wpS_put rfl rfl rfl (yv_fieldAddr fo_30_2 rfl) ?_
  refine wpS_put rfl rfl rfl (yv_load_box sc_5 rfl (RW.here _) hS hs42 trivial sg2_1) ?_
  refine wpS_put rfl rfl rfl (yv_eql rfl rfl) ?_
  refine wpS_quick 1 rfl ?_
  refine wpS_case 64 rfl (fun hb => ?_) (fun hb => ?_)
  rotate_left
  · replace H := cond_f H hb
    refine wpS_quick 83 rfl ?_
    refine wpS_nil ?_
    refine QH_seq_k hK273 ?_
    refine wpC_ret ?_
    refine QH_ret rfl (RV.tmp rfl RV.nil) rfl ?_
    obtain rfl := Option.some.inj H
    replace hS := hS.cut 0
    exact ⟨rfl, hS⟩
  replace H := cond_t H hb
  refine wpS_quick 1 rfl ?_
  refine wpS_put rfl rfl rfl (yv_len el_32 rfl) ?_
  refine wpS_put rfl rfl rfl (yv_eql rfl rfl) ?_
  refine wpS_quick 2 rfl ?_
  refine wpS_case 69 rfl (fun hb => ?_) (fun hb => ?_)
  rotate_left
  · replace H := cond_f H hb
    refine wpS_quick 78 rfl ?_
    refine wpS_nil ?_
    refine QH_seq_k hK273 ?_
    refine wpC_ret ?_
    refine QH_ret rfl (RV.tmp rfl RV.nil) rfl ?_
    obtain rfl := Option.some.inj H
    replace hS := hS.cut 0
    exact ⟨rfl, hS⟩
  replace H := cond_t H hb
  refine wpS_put rfl rfl rfl (yv_fieldAddr fo_30_4 rfl) ?_
  refine wpS_put rfl rfl rfl (yv_fieldAddr fo_26_2 rfl) ?_
  refine wpS_put rfl rfl rfl (yv_load_box sc_3 rfl (RW.here _) hS hs42 trivial sg10_1) ?_
  refine wpS_put rfl rfl rfl (yv_eql rfl rfl) ?_
  refine wpS_quick 2 rfl ?_
  refine wpS_case 75 rfl (fun hb => ?_) (fun hb => ?_)
  rotate_left
  · replace H := cond_f H hb
    refine wpS_quick 72 rfl ?_
    refine wpS_nil ?_
    refine QH_seq_k hK273 ?_
    refine wpC_ret ?_
    refine QH_ret rfl (RV.tmp rfl RV.nil) rfl ?_
    obtain rfl := Option.some.inj H
    replace hS := hS.cut 0
    exact ⟨rfl, hS⟩
  replace H := cond_t H hb
  refine wpS_put rfl rfl rfl (yv_fieldAddr fo_30_4 rfl) ?_
  refine wpS_put rfl rfl rfl (yv_fieldAddr fo_26_1 rfl) ?_
  refine wpS_put rfl rfl rfl (yv_load_box sc_24 rfl (RW.here _) hS hs42 trivial sg9_1) ?_
  refine wpS_put rfl rfl rfl (yv_len el_24 rfl) ?_
  refine wpS_put rfl rfl rfl (yv_eql rfl rfl) ?_
  refine wpS_quick 2 rfl ?_
  refine wpS_case 82 rfl (fun hb => ?_) (fun hb => ?_)
  rotate_left
  · replace H := cond_f H hb
    refine wpS_quick 65 rfl ?_
    refine wpS_nil ?_
    refine QH_seq_k hK273 ?_
    refine wpC_ret ?_
    refine QH_ret rfl (RV.tmp rfl RV.nil) rfl ?_
    obtain rfl := Option.some.inj H
    replace hS := hS.cut 0
    exact ⟨rfl, hS⟩
  replace H := cond_t H hb
  refine wpS_put rfl rfl rfl (yv_fieldAddr fo_30_2 rfl) ?_
  refine wpS_put rfl rfl rfl (yv_load_box sc_5 rfl (RW.here _) hS hs28 trivial sg2_1) ?_
  refine wpS_put rfl rfl rfl (yv_eql rfl rfl) ?_
  refine wpS_quick 2 rfl ?_
  refine wpS_case 87 rfl (fun hb => ?_) (fun hb => ?_)
  rotate_left
  · replace H := cond_f H hb
    refine wpS_quick 60 rfl ?_
    refine wpS_nil ?_
    refine QH_seq_k hK273 ?_
    refine wpC_ret ?_
    refine QH_ret rfl (RV.tmp rfl RV.nil) rfl ?_
    obtain rfl := Option.some.inj H
    replace hS := hS.cut 0
    exact ⟨rfl, hS⟩
  replace H := cond_t H hb
  refine wpS_quick 1 rfl ?_
  obtain ⟨e274, hi276, H⟩ := bind_some H
  obtain ⟨j275, A277, c278, hi276a, hi276b, hi276c⟩ := idxQ (q := q188) hq189 hi276
  refine wpS_put rfl rfl rfl (yx_idx el_32 rfl rfl hi276a hi276c (Rd.el (hS.rd hs20) he_enQ hi276b)) ?_
  refine wpS_put rfl rfl rfl (yx_fieldAddr fo_36_8 rfl (Rd.el (hS.rd hs20) he_enQ hi276b)) ?_
  refine wpS_put rfl rfl rfl (yx_ld sc_4 rfl (RW.here _) (Rd.el (hS.rd hs20) he_enQ hi276b) rfl) ?_
  refine wpS_quick 2 rfl ?_
  refine wpS_case 93 rfl (fun hb => ?_) (fun hb => ?_)
  rotate_left
  · replace H := cond_f H hb
    refine wpS_quick 54 rfl ?_
    refine wpS_nil ?_
    refine QH_seq_k hK273 ?_
    refine wpC_ret ?_
    refine QH_ret rfl (RV.tmp rfl RV.nil) rfl ?_
    obtain rfl := Option.some.inj H
    replace hS := hS.cut 0
    exact ⟨rfl, hS⟩
  replace H := cond_t H hb
  refine wpS_put rfl rfl rfl (yv_fieldAddr fo_30_4 rfl) ?_
  refine wpS_put rfl rfl rfl (yv_fieldAddr fo_26_3 rfl) ?_
  refine wpS_put rfl rfl rfl (yv_load_box sc_3 rfl (RW.here _) hS hs56 trivial sg11_1) ?_
  refine wpS_put rfl rfl rfl (yv_eql rfl rfl) ?_
  refine wpS_quick 2 rfl ?_
  refine wpS_case 99 rfl (fun hb => ?_) (fun hb => ?_)
  rotate_left
  · replace H := cond_f H hb
    refine wpS_quick 48 rfl ?_
    refine wpS_nil ?_
    refine QH_seq_k hK273 ?_
    refine wpC_ret ?_
    refine QH_ret rfl (RV.tmp rfl RV.nil) rfl ?_
    obtain rfl := Option.some.inj H
    replace hS := hS.cut 0
    exact ⟨rfl, hS⟩
  replace H := cond_t H hb
  refine wpS_put rfl rfl rfl (yv_fieldAddr fo_30_2 rfl) ?_
  refine wpS_put rfl rfl rfl (yv_load_box sc_5 rfl (RW.here _) hS hs57 trivial sg2_1) ?_
  refine wpS_put rfl rfl rfl (yv_eql rfl rfl) ?_
  refine wpS_quick 2 rfl ?_
  refine wpS_case 104 rfl (fun hb => ?_) (fun hb => ?_)
  rotate_left
  · replace H := cond_f H hb
    refine wpS_quick 43 rfl ?_
    refine wpS_nil ?_
    refine QH_seq_k hK273 ?_
    refine wpC_ret ?_
    refine QH_ret rfl (RV.tmp rfl RV.nil) rfl ?_
    obtain rfl := Option.some.inj H
    replace hS := hS.cut 0
    exact ⟨rfl, hS⟩
  replace H := cond_t H hb
  refine wpS_quick 1 rfl ?_
  refine wpS_put rfl rfl rfl (yv_len el_32 rfl) ?_
  refine wpS_put rfl rfl rfl (yv_eql rfl rfl) ?_
  refine wpS_quick 2 rfl ?_
  refine wpS_case 109 rfl (fun hb => ?_) (fun hb => ?_)
  rotate_left
  · replace H := cond_f H hb
    refine wpS_quick 38 rfl ?_
    refine wpS_nil ?_
    refine QH_seq_k hK273 ?_
    refine wpC_ret ?_
    refine QH_ret rfl (RV.tmp rfl RV.nil) rfl ?_
    obtain rfl := Option.some.inj H
    replace hS := hS.cut 0
    exact ⟨rfl, hS⟩
  replace H := cond_t H hb
  refine wpS_put rfl rfl rfl (yv_fieldAddr fo_30_10 rfl) ?_
  refine wpS_put rfl rfl rfl (yv_load_box sc_28 rfl (RW.here _) hS hs57 trivial sg21_1) ?_
  obtain ⟨e279, hi281, H⟩ := bind_some H
  obtain ⟨j280, hi281a, hi281b, hi281c⟩ := idx_some hi281
  refine wpS_put rfl rfl rfl (yx_idx el_28 rfl rfl hi281a hi281c (Rd.el (hS.row_rd hs12) he_enI hi281b)) ?_
  refine wpS_put rfl rfl rfl (yx_ld0 sc_3 rfl (RW.here _) (Rd.el (hS.row_rd hs12) he_enI hi281b) rfl) ?_
  refine wpS_put rfl rfl rfl (yv_eql rfl rfl) ?_
  refine wpS_quick 2 rfl ?_
  refine wpS_case 116 rfl (fun hb => ?_) (fun hb => ?_)
  rotate_left
  · replace H := cond_f H hb
    refine wpS_quick 31 rfl ?_
    refine wpS_nil ?_
    refine QH_seq_k hK273 ?_
    refine wpC_ret ?_
    refine QH_ret rfl (RV.tmp rfl RV.nil) rfl ?_
    obtain rfl := Option.some.inj H
    replace hS := hS.cut 0
    exact ⟨rfl, hS⟩
  replace H := cond_t H hb
  refine wpS_quick 1 rfl ?_
  obtain ⟨e282, hi284, H⟩ := bind_some H
  obtain ⟨j283, A285, c286, hi284a, hi284b, hi284c⟩ := idxQ (q := q264) hq265 hi284
  refine wpS_put rfl rfl rfl (yx_idx el_32 rfl rfl hi284a hi284c (Rd.el (hS.rd hs6) he_enQ hi284b)) ?_
  refine wpS_put rfl rfl rfl (yx_fieldAddr fo_36_8 rfl (Rd.el (hS.rd hs6) he_enQ hi284b)) ?_
  refine wpS_put rfl rfl rfl (yx_ld sc_4 rfl (RW.here _) (Rd.el (hS.rd hs6) he_enQ hi284b) rfl) ?_
  refine wpS_put rfl rfl rfl (yv_not rfl) ?_
  refine wpS_quick 2 rfl ?_
  refine wpS_case 123 rfl (fun hb => ?_) (fun hb => ?_)
  rotate_left
  · replace H := cond_f H hb
    refine wpS_quick 24 rfl ?_
    refine wpS_nil ?_
    refine QH_seq_k hK273 ?_
    refine wpC_ret ?_
    refine QH_ret rfl (RV.tmp rfl RV.nil) rfl ?_
    obtain rfl := Option.some.inj H
    replace hS := hS.cut 0
    exact ⟨rfl, hS⟩
  replace H := cond_t H hb
  refine wpS_put rfl rfl rfl (yv_fieldAddr fo_30_4 rfl) ?_
  refine wpS_put rfl rfl rfl (yv_fieldAddr fo_26_3 rfl) ?_
  refine wpS_put rfl rfl rfl (yv_load_box sc_3 rfl (RW.here _) hS hs0 trivial sg11_1) ?_
  refine wpS_put rfl rfl rfl (yv_eql rfl rfl) ?_
  refine wpS_quick 2 rfl ?_
  refine wpS_case 129 rfl (fun hb => ?_) (fun hb => ?_)
  rotate_left
  · replace H := cond_f H hb
    refine wpS_quick 18 rfl ?_
    refine wpS_nil ?_
    refine QH_seq_k hK273 ?_
    refine wpC_ret ?_
    refine QH_ret rfl (RV.tmp rfl RV.nil) rfl ?_
    obtain rfl := Option.some.inj H
    replace hS := hS.cut 0
    exact ⟨rfl, hS⟩
  replace H := cond_t H hb
  refine wpS_sliceM (ps := [(0, .const (.bool true)), (1, .const (.bool true)), (2, .const (.bool false))]) [.bool true, .bool true, .bool false] el_27 zc_4 rfl rfl rfl rfl rfl (by kernel_rfl) hS (fun b287 w hS hB => ?_)
  obtain ⟨r289, hm290, H⟩ := bind_some H
  refine wpS_call rfl rfl rfl rfl (by kernel_rfl) rfl (c_elect_Half ([true, true, false] : List Bool) (some ⟨b287, 0, none⟩) 3 _ (SlI.of_rd ⟨Nat.le_refl 3, by decide⟩ (hS.box_rd hs0) (hS.box_blk hs0)) hm290) ?_
  rintro e w ⟨rfl, hN⟩; refine ⟨_, rfl, ?_⟩; have hB := hN.pure; have hS := hS.join hN; clear hN
  refine wpS_quick 2 rfl ?_
  refine wpS_case 133 rfl (fun hb => ?_) (fun hb => ?_)
  rotate_left
  · replace H := cond_f H hb
    refine wpS_quick 14 rfl ?_
    refine wpS_nil ?_
    refine QH_seq_k hK273 ?_
    refine wpC_ret ?_
    refine QH_ret rfl (RV.tmp rfl RV.nil) rfl ?_
    obtain rfl := Option.some.inj H
    replace hS := hS.cut 0
    exact ⟨rfl, hS⟩
  replace H := cond_t H hb
  refine wpS_sliceM (ps := [(0, .const (.bool true)), (1, .const (.bool false))]) [.bool true, .bool false] el_27 zc_4 rfl rfl rfl rfl rfl (by kernel_rfl) hS (fun b291 w hS hB => ?_)
  obtain ⟨r293, hm294, H⟩ := bind_some H
  refine wpS_call rfl rfl rfl rfl (by kernel_rfl) rfl (c_elect_Half ([true, false] : List Bool) (some ⟨b291, 0, none⟩) 2 _ (SlI.of_rd ⟨Nat.le_refl 2, by decide⟩ (hS.box_rd hs0) (hS.box_blk hs0)) hm294) ?_
  rintro e w ⟨rfl, hN⟩; refine ⟨_, rfl, ?_⟩; have hB := hN.pure; have hS := hS.join hN; clear hN
  refine wpS_put rfl rfl rfl (yv_not rfl) ?_
  refine wpS_quick 2 rfl ?_
  refine wpS_case 138 rfl (fun hb => ?_) (fun hb => ?_)
  rotate_left
  · replace H := cond_f H hb
    refine wpS_quick 9 rfl ?_
    refine wpS_nil ?_
    refine QH_seq_k hK273 ?_
    refine wpC_ret ?_
    refine QH_ret rfl (RV.tmp rfl RV.nil) rfl ?_
    obtain rfl := Option.some.inj H
    replace hS := hS.cut 0
    exact ⟨rfl, hS⟩
  replace H := cond_t H hb
  refine wpS_put rfl rfl rfl (yv_load_boxA ag_30 rfl (RW.here _) hS hs30 trivial sg0_22) ?_
  obtain ⟨r295, hm296, H⟩ := bind_some H
  refine wpS_call rfl rfl rfl rfl (by kernel_rfl) rfl (c_elect_Newer r92.1 0 0 A94 c95 A98 c99 A102 c103 A106 c107 A110 c111 _ (SlI.of_rd k96 (hS.rd hs31) (hS.rd_blk hs31)) (SlI.of_rd k100 (hS.row_rd hs32) (hS.row_blk hs32)) (SlI.of_rd k104 (hS.row_rd hs33) (hS.row_blk hs33)) (SlI.of_rd k108 (hS.row_rd hs34) (hS.row_blk hs34)) (SlI.of_rd k112 (hS.row_rd hs35) (hS.row_blk hs35)) hm296) ?_
  rintro e w ⟨rfl, hN⟩; refine ⟨_, rfl, ?_⟩; have hB := hN.pure; have hS := hS.join hN; clear hN
  refine wpS_quick 2 rfl ?_
  refine wpS_case 142 rfl (fun hb => ?_) (fun hb => ?_)
  rotate_left
  · replace H := cond_f H hb
    refine wpS_quick 5 rfl ?_
    refine wpS_nil ?_
    refine QH_seq_k hK273 ?_
    refine wpC_ret ?_
    refine QH_ret rfl (RV.tmp rfl RV.nil) rfl ?_
    obtain rfl := Option.some.inj H
    replace hS := hS.cut 0
    exact ⟨rfl, hS⟩
  replace H := cond_t H hb
  refine wpS_put rfl rfl rfl (yv_load_boxA ag_30 rfl (RW.here _) hS hs59 trivial sg0_22) ?_
  obtain ⟨r297, hm298, H⟩ := bind_some H
  refine wpS_call rfl rfl rfl rfl (by kernel_rfl) rfl (c_elect_Newer r204.1 0 9 A206 c207 A210 c211 A214 c215 A218 c219 A222 c223 _ (SlI.of_rd k208 (hS.rd hs10) (hS.rd_blk hs10)) (SlI.of_rd k212 (hS.row_rd hs11) (hS.row_blk hs11)) (SlI.of_rd k216 (hS.row_rd hs12) (hS.row_blk hs12)) (SlI.of_rd k220 (hS.row_rd hs13) (hS.row_blk hs13)) (SlI.of_rd k224 (hS.row_rd hs14) (hS.row_blk hs14)) hm298) ?_
  rintro e w ⟨rfl, hN⟩; refine ⟨_, rfl, ?_⟩; have hB := hN.pure; have hS := hS.join hN; clear hN
  refine wpS_put rfl rfl rfl (yv_not rfl) ?_
  refine wpS_quick 2 rfl ?_
  refine wpS_nil ?_
  refine QH_seq_k hK273 ?_
  refine wpC_ret ?_
  refine QH_ret rfl (RV.tmp rfl RV.nil) rfl ?_
  obtain rfl := Option.some.inj H
  replace hS := hS.cut 0
  exact ⟨rfl, hS⟩
theorem c_ref06_Same (x0 : List En) (x1 : List En) (A0_ : Option Addr) (c0_ : Nat) (A1_ : Option Addr) (c1_ : Nat) (w0 : World) (s0_ : SlI w0 enE A0_ c0_ x0) (s1_ : SlI w0 enE A1_ c1_ x1) {r : Bool} (H : m_ref06_Same x0 x1 = some r) : Calls Try.prog 13 #[.slice A0_ x0.length c0_, .slice A1_ x1.length c1_] w0 fun e w' => e = .returned (.bool r) ∧ St0 All w0 w' [] := by
  unfold m_ref06_Same at H
  refine gw_enter2 Try.func13 rfl Try.ntmps13 rfl ?_
  have hS := St0.start All w0
  refine wpC_seq_k (fun K hK1 => ?_)
  refine wpC_region ?_
  refine wpS_quick 1 rfl ?_
  refine wpS_nil ?_
  refine QH_seq_k hK1 ?_
  refine wpC_seq_k (fun K hK2 => ?_)
  refine wpC_seq_k (fun K hK3 => ?_)
  refine wpC_region ?_
  refine wpS_quick 1 rfl ?_
  refine wpS_put rfl rfl rfl (yv_len el_24 rfl) ?_
  refine wpS_quick 1 rfl ?_
  refine wpS_put rfl rfl rfl (yv_len el_24 rfl) ?_
  refine wpS_put rfl rfl rfl (yv_neq rfl rfl) ?_
  refine wpS_nil ?_
  refine QH_seq_k hK3 ?_
  refine wpC_cond rfl (fun hb => ?_) (fun hb => ?_)
  · replace H := cond_t H hb
    refine wpC_seq_k (fun K hK4 => ?_)
    refine wpC_region ?_
    refine wpS_quick 1 rfl ?_
    refine wpS_nil ?_
    refine QH_seq_k hK4 ?_
    refine wpC_ret ?_
    refine QH_then_ret ?_
    refine QH_ret rfl (RV.tmp rfl RV.nil) rfl ?_
    obtain rfl := Option.some.inj H
    replace hS := hS.cut 0
    exact ⟨rfl, hS⟩
  replace H := cond_f H hb
  refine wpC_skip ?_
  refine QH_seq_k hK2 ?_
  refine wpC_seq_k (fun K hK5 => ?_)
  refine wpC_seq_k (fun K hK6 => ?_)
  refine wpC_region ?_
  refine wpS_quick 1 rfl ?_
  refine wpS_nil ?_
  refine QH_seq_k hK6 ?_
  refine wpC_block ?_
  refine wpC_loop (X := Nat × Bool × Int) (fun x => (0, .slice A0_ x0.length c0_) :: (1, .slice A1_ x1.length c1_) :: (4, .bool x.2.1) :: (5, .int .i64 x.2.2) :: []) (fun x w => St0 All w0 w ([]) ∧ m_ref06_Same_l1 x0 x1 x.1 x.2.1 x.2.2 = some r) (fun x => x.1) (fuelN, false, 0) (by repeat (first | exact Sub.nil | refine Sub.cons rfl ?_)) ⟨hS, H⟩ ?_
  rintro ⟨n, v7, v8⟩ w ⟨hS, H⟩
  dsimp only at hS H ⊢
  obtain _ | n := n
  · have H0 : none = some r := H
    cases H0
  rw [m_ref06_Same_l1] at H
  refine wpC_seq_k (fun K hK9 => ?_)
  refine wpC_seq_k (fun K hK10 => ?_)
  refine wpC_region ?_
  refine wpS_quick 2 rfl ?_
  refine wpS_put rfl rfl rfl (yv_len el_24 rfl) ?_
  refine wpS_put rfl rfl rfl (yv_lss rfl rfl) ?_
  refine wpS_nil ?_
  refine QH_seq_k hK10 ?_
  refine wpC_cond rfl (fun hb => ?_) (fun hb => ?_)
  rotate_left
  · replace H := cond_f H hb
    refine wpC_exit ?_
    refine QH_then_exit ?_
    refine QH_then_exit ?_
    refine QH_block_hit ?_
    refine QH_seq_k hK5 ?_
    refine wpC_seq_k (fun K hK20 => ?_)
    refine wpC_region ?_
    refine wpS_quick 1 rfl ?_
    refine wpS_nil ?_
    refine QH_seq_k hK20 ?_
    refine wpC_ret ?_
    refine QH_ret rfl (RV.tmp rfl RV.nil) rfl ?_
    obtain rfl := Option.some.inj H
    replace hS := hS.cut 0
    exact ⟨rfl, hS⟩
  replace H := cond_t H hb
  refine wpC_skip ?_
  refine QH_seq_k hK9 ?_
  refine wpC_seq_k (fun K hK11 => ?_)
  refine wpC_block ?_
  refine wpC_seq_k (fun K hK12 => ?_)
  refine wpC_draw 9 [] (fun _ _ => True) ⟨by kernel_rfl, by kernel_rfl⟩ hS (fun w hS hB => ?_)
  refine wpR_batch [true, true, true, true, true, true, true, true, true] (by decide +kernel) (by repeat (first | exact PF.body | exact PF.round | apply PF.then | apply PF.inBlock | apply PF.jump)) ?_
  refine LtK.put rfl rfl rfl (yv_move rfl) ?_
  refine LtK.put rfl rfl rfl (yv_move rfl) ?_
  obtain ⟨e13, hi15, H⟩ := bind_some H
  obtain ⟨j14, hi15a, hi15b, hi15c⟩ := idx_some hi15
  refine LtK.put rfl rfl rfl (yx_idx el_24 rfl rfl hi15a hi15c (Rd.el (hS.rd0 s0_.rd) he_enE hi15b)) ?_
  refine LtK.put rfl rfl rfl (yx_ldA0 ag_56 rfl (RW.below _) (Rd.el (hS.rd0 s0_.rd) he_enE hi15b) sg0_3) ?_
  refine LtK.put rfl rfl rfl (yv_move rfl) ?_
  refine LtK.put rfl rfl rfl (yv_move rfl) ?_
  obtain ⟨e16, hi18, H⟩ := bind_some H
  obtain ⟨j17, hi18a, hi18b, hi18c⟩ := idx_some hi18
  refine LtK.put rfl rfl rfl (yx_idx el_24 rfl rfl hi18a hi18c (Rd.el (hS.rd0 s1_.rd) he_enE hi18b)) ?_
  refine LtK.put rfl rfl rfl (yx_ldA0 ag_56 rfl (RW.below _) (Rd.el (hS.rd0 s1_.rd) he_enE hi18b) sg0_3) ?_
  refine LtK.put rfl rfl rfl (yv_neqS (by kernel_rfl) rfl rfl (eqT_56 _ _ _ _ _ _)) ?_
  refine LtK.nil ?_
  refine wpR_end (by kernel_rfl) ?_
  refine QH_seq_k hK12 ?_
  refine wpC_cond rfl (fun hb => ?_) (fun hb => ?_)
  rotate_left
  · replace H := cond_f H hb
    refine wpC_skip ?_
    refine QH_block_normal ?_
    refine QH_seq_k hK11 ?_
    refine wpC_region ?_
    refine wpS_quick 1 rfl ?_
    refine wpS_put rfl rfl rfl (yx_add rfl rfl) ?_
    refine wpS_quick 1 rfl ?_
    refine wpS_nil ?_
    exact QH_again (n, v7, (IntKind.wrap .i64 (v8 + 1))) (by repeat (first | exact Sub.nil | refine Sub.cons rfl ?_)) ⟨hS, H⟩ (Nat.lt_succ_self _)
  replace H := cond_t H hb
  refine wpC_seq_k (fun K hK19 => ?_)
  refine wpC_region ?_
  refine wpS_quick 1 rfl ?_
  refine wpS_nil ?_
  refine QH_seq_k hK19 ?_
  refine wpC_ret ?_
  refine QH_block_ret ?_
  refine QH_then_ret ?_
  refine QH_then_ret ?_
  refine QH_block_ret ?_
  refine QH_then_ret ?_
  refine QH_ret rfl (RV.tmp rfl RV.nil) rfl ?_
  obtain rfl := Option.some.inj H
  replace hS := hS.cut 0
  exact ⟨rfl, hS⟩
theorem c_ref20_number (x0 : Int) (w0 : World) {r : Bool} (H : m_ref20_number x0 = some r) : Calls Try.prog 38 #[.int .i64 x0] w0 fun e w' => e = .returned (.bool r) ∧ St0 All w0 w' [] := by
  unfold m_ref20_number at H
  refine gw_enter1 Try.func38 rfl Try.ntmps38 rfl ?_
  have hS := St0.start All w0
  refine wpC_seq_k (fun K hK1 => ?_)
  refine wpC_region ?_
  refine wpS_quick 1 rfl ?_
  refine wpS_nil ?_
  refine QH_seq_k hK1 ?_
  refine wpC_seq_k (fun K hK2 => ?_)
  refine wpC_region ?_
  refine wpS_quick 1 rfl ?_
  refine wpS_put rfl rfl rfl (yv_geq rfl rfl) ?_
  refine wpS_quick 1 rfl ?_
  refine wpS_case 5 rfl (fun hb => ?_) (fun hb => ?_)
  rotate_left
  · replace H := cond_f H hb
    refine wpS_quick 4 rfl ?_
    refine wpS_nil ?_
    refine QH_seq_k hK2 ?_
    refine wpC_ret ?_
    refine QH_ret rfl (RV.tmp rfl RV.nil) rfl ?_
    obtain rfl := Option.some.inj H
    replace hS := hS.cut 0
    exact ⟨rfl, hS⟩
  replace H := cond_t H hb
  refine wpS_quick 1 rfl ?_
  refine wpS_put rfl rfl rfl (yv_leq rfl rfl) ?_
  refine wpS_quick 2 rfl ?_
  refine wpS_nil ?_
  refine QH_seq_k hK2 ?_
  refine wpC_ret ?_
  refine QH_ret rfl (RV.tmp rfl RV.nil) rfl ?_
  obtain rfl := Option.some.inj H
  replace hS := hS.cut 0
  exact ⟨rfl, hS⟩
theorem c_ref20_entries (x0 : Ms) (A0_ : Option Addr) (c0_ : Nat) (w0 : World) (s0_ : SlI w0 enE A0_ c0_ x0.entries) {r : Bool} (H : m_ref20_entries x0 = some r) : Calls Try.prog 39 #[.agg #[.int .u8 x0.kind, .int .i64 x0.frm, .int .i64 x0.dst, .int .i64 x0.term, .int .i64 x0.cap, .int .i64 x0.last, .int .i64 x0.lastTerm, .int .i64 x0.commit, .bool x0.okk, .slice A0_ x0.entries.length c0_, .int .i64 x0.snap.index, .int .i64 x0.snap.term, .int .i64 x0.snap.sum, .int .i64 x0.snap.level, .bool x0.snap.final]] w0 fun e w' => e = .returned (.bool r) ∧ St0 All w0 w' [] := by
  unfold m_ref20_entries at H
  refine gw_enter1 Try.func39 rfl Try.ntmps39 rfl ?_
  have hS := St0.start All w0
  refine wpC_seq_k (fun K hK1 => ?_)
  refine wpC_region ?_
  refine wpS_box rfl rfl rfl CellsOf.agg hS (fun b2 w hS hB => ?_)
  refine wpS_quick 1 rfl ?_
  refine wpS_nil ?_
  refine QH_seq_k hK1 ?_
  refine wpC_seq_k (fun K hK4 => ?_)
  refine wpC_region ?_
  refine wpS_put rfl rfl rfl (yv_fieldAddr fo_36_6 rfl) ?_
  refine wpS_put rfl rfl rfl (yv_load_box sc_3 rfl (RW.here _) hS hs0 trivial sg6_1) ?_
  refine wpS_quick 1 rfl ?_
  refine wpS_nil ?_
  refine QH_seq_k hK4 ?_
  refine wpC_seq_k (fun K hK5 => ?_)
  refine wpC_seq_k (fun K hK6 => ?_)
  refine wpC_region ?_
  refine wpS_quick 1 rfl ?_
  refine wpS_nil ?_
  refine QH_seq_k hK6 ?_
  refine wpC_block ?_
  refine wpC_loop (X := Nat × Bool × Int × Int) (fun x => (1, .pointer (some ⟨b2, 0, none⟩)) :: (2, .bool x.2.1) :: (3, .int .i64 x.2.2.1) :: (4, .int .i64 x.2.2.2) :: []) (fun x w => St0 All w0 w (.box b2 [.int .u8 x0.kind, .int .i64 x0.frm, .int .i64 x0.dst, .int .i64 x0.term, .int .i64 x0.cap, .int .i64 x0.last, .int .i64 x0.lastTerm, .int .i64 x0.commit, .bool x0.okk, .slice A0_ x0.entries.length c0_, .int .i64 x0.snap.index, .int .i64 x0.snap.term, .int .i64 x0.snap.sum, .int .i64 x0.snap.level, .bool x0.snap.final] 36 :: []) ∧ m_ref20_entries_l1 x0 x.1 x.2.1 x.2.2.1 x.2.2.2 = some r) (fun x => x.1) (fuelN, false, x0.lastTerm, 0) (by repeat (first | exact Sub.nil | refine Sub.cons rfl ?_)) ⟨hS, H⟩ ?_
  rintro ⟨n, v7, v8, v9⟩ w ⟨hS, H⟩
  dsimp only at hS H ⊢
  obtain _ | n := n
  · have H0 : none = some r := H
    cases H0
  rw [m_ref20_entries_l1] at H
  refine wpC_seq_k (fun K hK10 => ?_)
  refine wpC_seq_k (fun K hK11 => ?_)
  refine wpC_region ?_
  refine wpS_quick 1 rfl ?_
  refine wpS_put rfl rfl rfl (yv_fieldAddr fo_36_9 rfl) ?_
  refine wpS_put rfl rfl rfl (yv_load_box sc_24 rfl (RW.here _) hS hs0 trivial sg9_1) ?_
  refine wpS_put rfl rfl rfl (yv_len el_24 rfl) ?_
  refine wpS_put rfl rfl rfl (yv_lss rfl rfl) ?_
  refine wpS_nil ?_
  refine QH_seq_k hK11 ?_
  refine wpC_cond rfl (fun hb => ?_) (fun hb => ?_)
  rotate_left
  · replace H := cond_f H hb
    refine wpC_exit ?_
    refine QH_then_exit ?_
    refine QH_then_exit ?_
    refine QH_block_hit ?_
    refine QH_seq_k hK5 ?_
    refine wpC_seq_k (fun K hK32 => ?_)
    refine wpC_region ?_
    refine wpS_put rfl rfl rfl (yv_fieldAddr fo_36_9 rfl) ?_
    refine wpS_put rfl rfl rfl (yv_load_box sc_24 rfl (RW.here _) hS hs0 trivial sg9_1) ?_
    refine wpS_put rfl rfl rfl (yv_len el_24 rfl) ?_
    refine wpS_put rfl rfl rfl (yv_leq rfl rfl) ?_
    refine wpS_quick 1 rfl ?_
    refine wpS_nil ?_
    refine QH_seq_k hK32 ?_
    refine wpC_ret ?_
    refine QH_ret rfl (RV.tmp rfl RV.nil) rfl ?_
    obtain rfl := Option.some.inj H
    replace hS := hS.cut 0
    exact ⟨rfl, hS⟩
  replace H := cond_t H hb
  refine wpC_skip ?_
  refine QH_seq_k hK10 ?_
  refine wpC_seq_k (fun K hK12 => ?_)
  refine wpC_block ?_
  refine wpC_seq_k (fun K hK13 => ?_)
  refine wpC_seq_k (fun K hK14 => ?_)
  refine wpC_draw 28 [] (fun _ _ => True) ⟨by kernel_rfl, by kernel_rfl⟩ hS (fun w hS hB => ?_)
  refine wpR_batch [true, true, true, true, true] (by decide +kernel) (by repeat (first | exact PF.body | exact PF.round | apply PF.then | apply PF.inBlock | apply PF.jump)) ?_
  refine LtK.put rfl rfl rfl (yv_fieldAddr fo_36_9 rfl) ?_
  refine LtK.put rfl rfl rfl (yv_load_box sc_24 rfl (RW.below _) hS hs0 trivial sg9_1) ?_
  refine LtK.put rfl rfl rfl (yv_move rfl) ?_
  obtain ⟨e15, hi17, H⟩ := bind_some H
  obtain ⟨j16, hi17a, hi17b, hi17c⟩ := idx_some hi17
  refine LtK.put rfl rfl rfl (yx_idx el_24 rfl rfl hi17a hi17c (Rd.el (hS.rd0 s0_.rd) he_enE hi17b)) ?_
  refine LtK.put rfl rfl rfl (yx_ldA0 ag_56 rfl (RW.below _) (Rd.el (hS.rd0 s0_.rd) he_enE hi17b) sg0_3) ?_
  refine LtK.nil ?_
  refine wpR_call [false, false, false, false, false, true] 5 ⟨by decide, by kernel_rfl, by kernel_rfl⟩ rfl rfl ?_
  try dsimp only [pickL]
  obtain ⟨r18, hm19, H⟩ := bind_some H
  refine wpS_call rfl rfl rfl rfl (by kernel_rfl) rfl (c_ref06_Right e15 _ hm19) ?_
  rintro e w ⟨rfl, hN⟩; refine ⟨_, rfl, ?_⟩; have hB := hN.pure; have hS := hS.join hN; clear hN
  refine wpS_nil ?_
  refine QH_step hB ?_
  refine wpR_batch [false, false, false, false, false, false, true, true] (by decide +kernel) (by repeat (first | exact PF.body | exact PF.round | apply PF.then | apply PF.inBlock | apply PF.jump)) ?_
  refine LtK.put rfl rfl rfl (yv_not rfl) ?_
  refine LtK.put rfl rfl rfl (yv_move rfl) ?_
  refine LtK.nil ?_
  refine wpR_case 21 rfl (fun hb => ?_) (fun hb => ?_)
  · replace H := cond_t H hb
    refine wpR_batch [false, false, false, false, false, false, false, false, true, true, true, true, true, true, true, true, true, true, true, true, true, true, true, true, true, true, true, true] (by decide +kernel) (by repeat (first | exact PF.body | exact PF.round | apply PF.then | apply PF.inBlock | apply PF.jump)) ?_
    refine LtK.skip rfl rfl rfl ?_
    refine LtK.skip rfl rfl rfl ?_
    refine LtK.skip rfl rfl rfl ?_
    refine LtK.skip rfl rfl rfl ?_
    refine LtK.skip rfl rfl rfl ?_
    refine LtK.skip rfl rfl rfl ?_
    refine LtK.skip rfl rfl rfl ?_
    refine LtK.skip rfl rfl rfl ?_
    refine LtK.put rfl rfl rfl (yv_pick_t rfl rfl rfl) ?_
    refine LtK.put rfl rfl rfl (yv_move rfl) ?_
    refine LtK.skip rfl rfl rfl ?_
    refine LtK.skip rfl rfl rfl ?_
    refine LtK.skip rfl rfl rfl ?_
    refine LtK.skip rfl rfl rfl ?_
    refine LtK.skip rfl rfl rfl ?_
    refine LtK.skip rfl rfl rfl ?_
    refine LtK.skip rfl rfl rfl ?_
    refine LtK.skip rfl rfl rfl ?_
    refine LtK.skip rfl rfl rfl ?_
    refine LtK.put rfl rfl rfl (yv_pick_t rfl rfl rfl) ?_
    refine LtK.nil ?_
    refine wpR_end (by kernel_rfl) ?_
    refine QH_seq_k hK14 ?_
    refine wpC_cond_t rfl rfl ?_
    refine wpC_seq_k (fun K hK20 => ?_)
    refine wpC_region ?_
    refine wpS_quick 1 rfl ?_
    refine wpS_nil ?_
    refine QH_seq_k hK20 ?_
    refine wpC_ret ?_
    refine QH_then_ret ?_
    refine QH_block_ret ?_
    refine QH_then_ret ?_
    refine QH_then_ret ?_
    refine QH_block_ret ?_
    refine QH_then_ret ?_
    refine QH_ret rfl (RV.tmp rfl RV.nil) rfl ?_
    obtain rfl := Option.some.inj H
    replace hS := hS.cut 0
    exact ⟨rfl, hS⟩
  replace H := cond_f H hb
  refine wpR_batch [false, false, false, false, false, false, false, false, true, true, true, true, true, true, true, true, true, true] (by decide +kernel) (by repeat (first | exact PF.body | exact PF.round | apply PF.then | apply PF.inBlock | apply PF.jump)) ?_
  refine LtK.put rfl rfl rfl (yv_fieldAddr fo_36_9 rfl) ?_
  refine LtK.put rfl rfl rfl (yv_load_box sc_24 rfl (RW.below _) hS hs0 trivial sg9_1) ?_
  refine LtK.put rfl rfl rfl (yv_move rfl) ?_
  obtain ⟨e21, hi23, H⟩ := bind_some H
  obtain ⟨j22, hi23a, hi23b, hi23c⟩ := idx_some hi23
  refine LtK.put rfl rfl rfl (yx_idx el_24 rfl rfl hi23a hi23c (Rd.el (hS.rd0 s0_.rd) he_enE hi23b)) ?_
  refine LtK.put rfl rfl rfl (yx_fieldAddr fo_56_0 rfl (Rd.el (hS.rd0 s0_.rd) he_enE hi23b)) ?_
  refine LtK.put rfl rfl rfl (yx_ld0 sc_3 rfl (RW.below _) (Rd.el (hS.rd0 s0_.rd) he_enE hi23b) rfl) ?_
  refine LtK.put rfl rfl rfl (yv_move rfl) ?_
  refine LtK.put rfl rfl rfl (yv_lss rfl rfl) ?_
  refine LtK.put rfl rfl rfl (yv_pick_f rfl rfl rfl) ?_
  refine LtK.put rfl rfl rfl (yv_move rfl) ?_
  refine LtK.nil ?_
  refine wpR_case 31 rfl (fun hb => ?_) (fun hb => ?_)
  · replace H := cond_t H hb
    refine wpR_batch [false, false, false, false, false, false, false, false, false, false, false, false, false, false, false, false, false, false, true, true, true, true, true, true, true, true, true, true] (by decide +kernel) (by repeat (first | exact PF.body | exact PF.round | apply PF.then | apply PF.inBlock | apply PF.jump)) ?_
    refine LtK.skip rfl rfl rfl ?_
    refine LtK.skip rfl rfl rfl ?_
    refine LtK.skip rfl rfl rfl ?_
    refine LtK.skip rfl rfl rfl ?_
    refine LtK.skip rfl rfl rfl ?_
    refine LtK.skip rfl rfl rfl ?_
    refine LtK.skip rfl rfl rfl ?_
    refine LtK.skip rfl rfl rfl ?_
    refine LtK.skip rfl rfl rfl ?_
    refine LtK.put rfl rfl rfl (yv_pick_t rfl rfl rfl) ?_
    refine LtK.nil ?_
    refine wpR_end (by kernel_rfl) ?_
    refine QH_seq_k hK14 ?_
    refine wpC_cond_t rfl rfl ?_
    refine wpC_seq_k (fun K hK24 => ?_)
    refine wpC_region ?_
    refine wpS_quick 1 rfl ?_
    refine wpS_nil ?_
    refine QH_seq_k hK24 ?_
    refine wpC_ret ?_
    refine QH_then_ret ?_
    refine QH_block_ret ?_
    refine QH_then_ret ?_
    refine QH_then_ret ?_
    refine QH_block_ret ?_
    refine QH_then_ret ?_
    refine QH_ret rfl (RV.tmp rfl RV.nil) rfl ?_
    obtain rfl := Option.some.inj H
    replace hS := hS.cut 0
    exact ⟨rfl, hS⟩
  replace H := cond_f H hb
  refine wpR_batch [false, false, false, false, false, false, false, false, false, false, false, false, false, false, false, false, false, false, true, true, true, true, true, true, true, true, true, true] (by decide +kernel) (by repeat (first | exact PF.body | exact PF.round | apply PF.then | apply PF.inBlock | apply PF.jump)) ?_
  refine LtK.put rfl rfl rfl (yv_fieldAddr fo_36_9 rfl) ?_
  refine LtK.put rfl rfl rfl (yv_load_box sc_24 rfl (RW.below _) hS hs0 trivial sg9_1) ?_
  refine LtK.put rfl rfl rfl (yv_move rfl) ?_
  obtain ⟨e25, hi27, H⟩ := bind_some H
  obtain ⟨j26, hi27a, hi27b, hi27c⟩ := idx_some hi27
  refine LtK.put rfl rfl rfl (yx_idx el_24 rfl rfl hi27a hi27c (Rd.el (hS.rd0 s0_.rd) he_enE hi27b)) ?_
  refine LtK.put rfl rfl rfl (yx_fieldAddr fo_56_0 rfl (Rd.el (hS.rd0 s0_.rd) he_enE hi27b)) ?_
  refine LtK.put rfl rfl rfl (yx_ld0 sc_3 rfl (RW.below _) (Rd.el (hS.rd0 s0_.rd) he_enE hi27b) rfl) ?_
  refine LtK.put rfl rfl rfl (yv_fieldAddr fo_36_3 rfl) ?_
  refine LtK.put rfl rfl rfl (yv_load_box sc_3 rfl (RW.below _) hS hs0 trivial sg3_1) ?_
  refine LtK.put rfl rfl rfl (yv_gtr rfl rfl) ?_
  refine LtK.put rfl rfl rfl (yv_pick_f rfl rfl rfl) ?_
  refine LtK.nil ?_
  refine wpR_end (by kernel_rfl) ?_
  refine QH_seq_k hK14 ?_
  refine wpC_cond rfl (fun hb => ?_) (fun hb => ?_)
  · replace H := cond_t H hb
    refine wpC_seq_k (fun K hK28 => ?_)
    refine wpC_region ?_
    refine wpS_quick 1 rfl ?_
    refine wpS_nil ?_
    refine QH_seq_k hK28 ?_
    refine wpC_ret ?_
    refine QH_then_ret ?_
    refine QH_block_ret ?_
    refine QH_then_ret ?_
    refine QH_then_ret ?_
    refine QH_block_ret ?_
    refine QH_then_ret ?_
    refine QH_ret rfl (RV.tmp rfl RV.nil) rfl ?_
    obtain rfl := Option.some.inj H
    replace hS := hS.cut 0
    exact ⟨rfl, hS⟩
  replace H := cond_f H hb
  refine wpC_skip ?_
  refine QH_seq_k hK13 ?_
  refine wpC_region ?_
  refine wpS_put rfl rfl rfl (yv_fieldAddr fo_36_9 rfl) ?_
  refine wpS_put rfl rfl rfl (yv_load_box sc_24 rfl (RW.here _) hS hs0 trivial sg9_1) ?_
  refine wpS_quick 1 rfl ?_
  obtain ⟨e29, hi31, H⟩ := bind_some H
  obtain ⟨j30, hi31a, hi31b, hi31c⟩ := idx_some hi31
  refine wpS_put rfl rfl rfl (yx_idx el_24 rfl rfl hi31a hi31c (Rd.el (hS.rd0 s0_.rd) he_enE hi31b)) ?_
  refine wpS_put rfl rfl rfl (yx_fieldAddr fo_56_0 rfl (Rd.el (hS.rd0 s0_.rd) he_enE hi31b)) ?_
  refine wpS_put rfl rfl rfl (yx_ld0 sc_3 rfl (RW.here _) (Rd.el (hS.rd0 s0_.rd) he_enE hi31b) rfl) ?_
  refine wpS_quick 1 rfl ?_
  refine wpS_nil ?_
  refine QH_block_normal ?_
  refine QH_seq_k hK12 ?_
  refine wpC_region ?_
  refine wpS_quick 1 rfl ?_
  refine wpS_put rfl rfl rfl (yx_add rfl rfl) ?_
  refine wpS_quick 1 rfl ?_
  refine wpS_nil ?_
  exact QH_again (n, v7, e29.term, (IntKind.wrap .i64 (v9 + 1))) (by repeat (first | exact Sub.nil | refine Sub.cons rfl ?_)) ⟨hS, H⟩ (Nat.lt_succ_self _)
theorem c_ref20_Fine (x0 : Ms) (x1 : Int) (A0_ : Option Addr) (c0_ : Nat) (w0 : World) (s0_ : SlI w0 enE A0_ c0_ x0.entries) {r : Bool} (H : m_ref20_Fine x0 x1 = some r) : Calls Try.prog 14 #[.agg #[.int .u8 x0.kind, .int .i64 x0.frm, .int .i64 x0.dst, .int .i64 x0.term, .int .i64 x0.cap, .int .i64 x0.last, .int .i64 x0.lastTerm, .int .i64 x0.commit, .bool x0.okk, .slice A0_ x0.entries.length c0_, .int .i64 x0.snap.index, .int .i64 x0.snap.term, .int .i64 x0.snap.sum, .int .i64 x0.snap.level, .bool x0.snap.final], .int .i64 x1] w0 fun e w' => e = .returned (.bool r) ∧ St0 All w0 w' [] := by
  unfold m_ref20_Fine at H
  refine gw_enter2 Try.func14 rfl Try.ntmps14 rfl ?_
  have hS := St0.start All w0
  refine wpC_seq_k (fun K hK1 => ?_)
  refine wpC_region ?_
  refine wpS_box rfl rfl rfl CellsOf.agg hS (fun b2 w hS hB => ?_)
  refine wpS_quick 1 rfl ?_
  refine wpS_nil ?_
  refine QH_seq_k hK1 ?_
  refine wpC_seq_k (fun K hK4 => ?_)
  refine wpC_seq_k (fun K hK5 => ?_)
  refine wpC_region ?_
  refine wpS_quick 1 rfl ?_
  refine wpS_put rfl rfl rfl (yv_lss rfl rfl) ?_
  refine wpS_quick 1 rfl ?_
  refine wpS_case 7 rfl (fun hb => ?_) (fun hb => ?_)
  · replace H := cond_t H hb
    refine wpS_quick 62 rfl ?_
    refine wpS_nil ?_
    refine QH_seq_k hK5 ?_
    refine wpC_cond_t rfl rfl ?_
    refine wpC_seq_k (fun K hK6 => ?_)
    refine wpC_region ?_
    refine wpS_quick 1 rfl ?_
    refine wpS_nil ?_
    refine QH_seq_k hK6 ?_
    refine wpC_ret ?_
    refine QH_then_ret ?_
    refine QH_ret rfl (RV.tmp rfl RV.nil) rfl ?_
    obtain rfl := Option.some.inj H
    replace hS := hS.cut 0
    exact ⟨rfl, hS⟩
  replace H := cond_f H hb
  refine wpS_quick 1 rfl ?_
  refine wpS_put rfl rfl rfl (yv_gtr rfl rfl) ?_
  refine wpS_quick 2 rfl ?_
  refine wpS_case 11 rfl (fun hb => ?_) (fun hb => ?_)
  · replace H := cond_t H hb
    refine wpS_quick 58 rfl ?_
    refine wpS_nil ?_
    refine QH_seq_k hK5 ?_
    refine wpC_cond_t rfl rfl ?_
    refine wpC_seq_k (fun K hK7 => ?_)
    refine wpC_region ?_
    refine wpS_quick 1 rfl ?_
    refine wpS_nil ?_
    refine QH_seq_k hK7 ?_
    refine wpC_ret ?_
    refine QH_then_ret ?_
    refine QH_ret rfl (RV.tmp rfl RV.nil) rfl ?_
    obtain rfl := Option.some.inj H
    replace hS := hS.cut 0
    exact ⟨rfl, hS⟩
  replace H := cond_f H hb
  refine wpS_put rfl rfl rfl (yv_fieldAddr fo_36_1 rfl) ?_
  refine wpS_put rfl rfl rfl (yv_load_box sc_3 rfl (RW.here _) hS hs0 trivial sg1_1) ?_
  refine wpS_put rfl rfl rfl (yv_lss rfl rfl) ?_
  refine wpS_quick 2 rfl ?_
  refine wpS_case 16 rfl (fun hb => ?_) (fun hb => ?_)
  · replace H := cond_t H hb
    refine wpS_quick 53 rfl ?_
    refine wpS_nil ?_
    refine QH_seq_k hK5 ?_
    refine wpC_cond_t rfl rfl ?_
    refine wpC_seq_k (fun K hK8 => ?_)
    refine wpC_region ?_
    refine wpS_quick 1 rfl ?_
    refine wpS_nil ?_
    refine QH_seq_k hK8 ?_
    refine wpC_ret ?_
    refine QH_then_ret ?_
    refine QH_ret rfl (RV.tmp rfl RV.nil) rfl ?_
    obtain rfl := Option.some.inj H
    replace hS := hS.cut 0
    exact ⟨rfl, hS⟩
  replace H := cond_f H hb
  refine wpS_put rfl rfl rfl (yv_fieldAddr fo_36_1 rfl) ?_
  refine wpS_put rfl rfl rfl (yv_load_box sc_3 rfl (RW.here _) hS hs0 trivial sg1_1) ?_
  refine wpS_quick 1 rfl ?_
  refine wpS_put rfl rfl rfl (yv_gtr rfl rfl) ?_
  refine wpS_quick 2 rfl ?_
  refine wpS_case 22 rfl (fun hb => ?_) (fun hb => ?_)
  · replace H := cond_t H hb
    refine wpS_quick 47 rfl ?_
    refine wpS_nil ?_
    refine QH_seq_k hK5 ?_
    refine wpC_cond_t rfl rfl ?_
    refine wpC_seq_k (fun K hK9 => ?_)
    refine wpC_region ?_
    refine wpS_quick 1 rfl ?_
    refine wpS_nil ?_
    refine QH_seq_k hK9 ?_
    refine wpC_ret ?_
    refine QH_then_ret ?_
    refine QH_ret rfl (RV.tmp rfl RV.nil) rfl ?_
    obtain rfl := Option.some.inj H
    replace hS := hS.cut 0
    exact ⟨rfl, hS⟩
  replace H := cond_f H hb
  refine wpS_put rfl rfl rfl (yv_fieldAddr fo_36_2 rfl) ?_
  refine wpS_put rfl rfl rfl (yv_load_box sc_3 rfl (RW.here _) hS hs0 trivial sg2_1) ?_
  refine wpS_put rfl rfl rfl (yv_lss rfl rfl) ?_
  refine wpS_quick 2 rfl ?_
  refine wpS_case 27 rfl (fun hb => ?_) (fun hb => ?_)
  · replace H := cond_t H hb
    refine wpS_quick 42 rfl ?_
    refine wpS_nil ?_
    refine QH_seq_k hK5 ?_
    refine wpC_cond_t rfl rfl ?_
    refine wpC_seq_k (fun K hK10 => ?_)
    refine wpC_region ?_
    refine wpS_quick 1 rfl ?_
    refine wpS_nil ?_
    refine QH_seq_k hK10 ?_
    refine wpC_ret ?_
    refine QH_then_ret ?_
    refine QH_ret rfl (RV.tmp rfl RV.nil) rfl ?_
    obtain rfl := Option.some.inj H
    replace hS := hS.cut 0
    exact ⟨rfl, hS⟩
  replace H := cond_f H hb
  refine wpS_put rfl rfl rfl (yv_fieldAddr fo_36_2 rfl) ?_
  refine wpS_put rfl rfl rfl (yv_load_box sc_3 rfl (RW.here _) hS hs0 trivial sg2_1) ?_
  refine wpS_quick 1 rfl ?_
  refine wpS_put rfl rfl rfl (yv_gtr rfl rfl) ?_
  refine wpS_quick 2 rfl ?_
  refine wpS_case 33 rfl (fun hb => ?_) (fun hb => ?_)
  · replace H := cond_t H hb
    refine wpS_quick 36 rfl ?_
    refine wpS_nil ?_
    refine QH_seq_k hK5 ?_
    refine wpC_cond_t rfl rfl ?_
    refine wpC_seq_k (fun K hK11 => ?_)
    refine wpC_region ?_
    refine wpS_quick 1 rfl ?_
    refine wpS_nil ?_
    refine QH_seq_k hK11 ?_
    refine wpC_ret ?_
    refine QH_then_ret ?_
    refine QH_ret rfl (RV.tmp rfl RV.nil) rfl ?_
    obtain rfl := Option.some.inj H
    replace hS := hS.cut 0
    exact ⟨rfl, hS⟩
  replace H := cond_f H hb
  refine wpS_put rfl rfl rfl (yv_fieldAddr fo_36_1 rfl) ?_
  refine wpS_put rfl rfl rfl (yv_load_box sc_3 rfl (RW.here _) hS hs0 trivial sg1_1) ?_
  refine wpS_put rfl rfl rfl (yv_fieldAddr fo_36_2 rfl) ?_
  refine wpS_put rfl rfl rfl (yv_load_box sc_3 rfl (RW.here _) hS hs0 trivial sg2_1) ?_
  refine wpS_put rfl rfl rfl (yv_eql rfl rfl) ?_
  refine wpS_quick 2 rfl ?_
  refine wpS_case 40 rfl (fun hb => ?_) (fun hb => ?_)
  · replace H := cond_t H hb
    refine wpS_quick 29 rfl ?_
    refine wpS_nil ?_
    refine QH_seq_k hK5 ?_
    refine wpC_cond_t rfl rfl ?_
    refine wpC_seq_k (fun K hK12 => ?_)
    refine wpC_region ?_
    refine wpS_quick 1 rfl ?_
    refine wpS_nil ?_
    refine QH_seq_k hK12 ?_
    refine wpC_ret ?_
    refine QH_then_ret ?_
    refine QH_ret rfl (RV.tmp rfl RV.nil) rfl ?_
    obtain rfl := Option.some.inj H
    replace hS := hS.cut 0
    exact ⟨rfl, hS⟩
  replace H := cond_f H hb
  refine wpS_put rfl rfl rfl (yv_fieldAddr fo_36_0 rfl) ?_
  refine wpS_put rfl rfl rfl (yv_load_box sc_5 rfl (RW.here _) hS hs0 trivial sg0_1) ?_
  refine wpS_put rfl rfl rfl (yv_lss rfl rfl) ?_
  refine wpS_quick 2 rfl ?_
  refine wpS_case 45 rfl (fun hb => ?_) (fun hb => ?_)
  · replace H := cond_t H hb
    refine wpS_quick 24 rfl ?_
    refine wpS_nil ?_
    refine QH_seq_k hK5 ?_
    refine wpC_cond_t rfl rfl ?_
    refine wpC_seq_k (fun K hK13 => ?_)
    refine wpC_region ?_
    refine wpS_quick 1 rfl ?_
    refine wpS_nil ?_
    refine QH_seq_k hK13 ?_
    refine wpC_ret ?_
    refine QH_then_ret ?_
    refine QH_ret rfl (RV.tmp rfl RV.nil) rfl ?_
    obtain rfl := Option.some.inj H
    replace hS := hS.cut 0
    exact ⟨rfl, hS⟩
  replace H := cond_f H hb
  refine wpS_put rfl rfl rfl (yv_fieldAddr fo_36_0 rfl) ?_
  refine wpS_put rfl rfl rfl (yv_load_box sc_5 rfl (RW.here _) hS hs0 trivial sg0_1) ?_
  refine wpS_put rfl rfl rfl (yv_geq rfl rfl) ?_
  refine wpS_quick 2 rfl ?_
  refine wpS_case 50 rfl (fun hb => ?_) (fun hb => ?_)
  · replace H := cond_t H hb
    refine wpS_quick 19 rfl ?_
    refine wpS_nil ?_
    refine QH_seq_k hK5 ?_
    refine wpC_cond_t rfl rfl ?_
    refine wpC_seq_k (fun K hK14 => ?_)
    refine wpC_region ?_
    refine wpS_quick 1 rfl ?_
    refine wpS_nil ?_
    refine QH_seq_k hK14 ?_
    refine wpC_ret ?_
    refine QH_then_ret ?_
    refine QH_ret rfl (RV.tmp rfl RV.nil) rfl ?_
    obtain rfl := Option.some.inj H
    replace hS := hS.cut 0
    exact ⟨rfl, hS⟩
  replace H := cond_f H hb
  refine wpS_put rfl rfl rfl (yv_fieldAddr fo_36_3 rfl) ?_
  refine wpS_put rfl rfl rfl (yv_load_box sc_3 rfl (RW.here _) hS hs0 trivial sg3_1) ?_
  refine wpS_put rfl rfl rfl (yv_lss rfl rfl) ?_
  refine wpS_quick 2 rfl ?_
  refine wpS_case 55 rfl (fun hb => ?_) (fun hb => ?_)
  · replace H := cond_t H hb
    refine wpS_quick 14 rfl ?_
    refine wpS_nil ?_
    refine QH_seq_k hK5 ?_
    refine wpC_cond_t rfl rfl ?_
    refine wpC_seq_k (fun K hK15 => ?_)
    refine wpC_region ?_
    refine wpS_quick 1 rfl ?_
    refine wpS_nil ?_
    refine QH_seq_k hK15 ?_
    refine wpC_ret ?_
    refine QH_then_ret ?_
    refine QH_ret rfl (RV.tmp rfl RV.nil) rfl ?_
    obtain rfl := Option.some.inj H
    replace hS := hS.cut 0
    exact ⟨rfl, hS⟩
  replace H := cond_f H hb
  refine wpS_put rfl rfl rfl (yv_fieldAddr fo_36_3 rfl) ?_
  refine wpS_put rfl rfl rfl (yv_load_box sc_3 rfl (RW.here _) hS hs0 trivial sg3_1) ?_
  refine wpS_put rfl rfl rfl (yv_gtr rfl rfl) ?_
  refine wpS_quick 2 rfl ?_
  refine wpS_case 60 rfl (fun hb => ?_) (fun hb => ?_)
  · replace H := cond_t H hb
    refine wpS_quick 9 rfl ?_
    refine wpS_nil ?_
    refine QH_seq_k hK5 ?_
    refine wpC_cond_t rfl rfl ?_
    refine wpC_seq_k (fun K hK16 => ?_)
    refine wpC_region ?_
    refine wpS_quick 1 rfl ?_
    refine wpS_nil ?_
    refine QH_seq_k hK16 ?_
    refine wpC_ret ?_
    refine QH_then_ret ?_
    refine QH_ret rfl (RV.tmp rfl RV.nil) rfl ?_
    obtain rfl := Option.some.inj H
    replace hS := hS.cut 0
    exact ⟨rfl, hS⟩
  replace H := cond_f H hb
  refine wpS_put rfl rfl rfl (yv_fieldAddr fo_36_4 rfl) ?_
  refine wpS_put rfl rfl rfl (yv_load_box sc_3 rfl (RW.here _) hS hs0 trivial sg4_1) ?_
  refine wpS_put rfl rfl rfl (yv_lss rfl rfl) ?_
  refine wpS_quick 2 rfl ?_
  refine wpS_case 65 rfl (fun hb => ?_) (fun hb => ?_)
  · replace H := cond_t H hb
    refine wpS_quick 4 rfl ?_
    refine wpS_nil ?_
    refine QH_seq_k hK5 ?_
    refine wpC_cond_t rfl rfl ?_
    refine wpC_seq_k (fun K hK17 => ?_)
    refine wpC_region ?_
    refine wpS_quick 1 rfl ?_
    refine wpS_nil ?_
    refine QH_seq_k hK17 ?_
    refine wpC_ret ?_
    refine QH_then_ret ?_
    refine QH_ret rfl (RV.tmp rfl RV.nil) rfl ?_
    obtain rfl := Option.some.inj H
    replace hS := hS.cut 0
    exact ⟨rfl, hS⟩
  replace H := cond_f H hb
  refine wpS_put rfl rfl rfl (yv_fieldAddr fo_36_4 rfl) ?_
  refine wpS_put rfl rfl rfl (yv_load_box sc_3 rfl (RW.here _) hS hs0 trivial sg4_1) ?_
  refine wpS_put rfl rfl rfl (yv_gtr rfl rfl) ?_
  refine wpS_quick 1 rfl ?_
  refine wpS_nil ?_
  refine QH_seq_k hK5 ?_
  refine wpC_cond rfl (fun hb => ?_) (fun hb => ?_)
  · replace H := cond_t H hb
    refine wpC_seq_k (fun K hK18 => ?_)
    refine wpC_region ?_
    refine wpS_quick 1 rfl ?_
    refine wpS_nil ?_
    refine QH_seq_k hK18 ?_
    refine wpC_ret ?_
    refine QH_then_ret ?_
    refine QH_ret rfl (RV.tmp rfl RV.nil) rfl ?_
    obtain rfl := Option.some.inj H
    replace hS := hS.cut 0
    exact ⟨rfl, hS⟩
  replace H := cond_f H hb
  refine wpC_skip ?_
  refine QH_seq_k hK4 ?_
  refine wpC_seq_k (fun K hK19 => ?_)
  refine wpC_seq_k (fun K hK20 => ?_)
  refine wpC_region ?_
  refine wpS_put rfl rfl rfl (yv_fieldAddr fo_36_5 rfl) ?_
  refine wpS_put rfl rfl rfl (yv_load_box sc_3 rfl (RW.here _) hS hs0 trivial sg5_1) ?_
  obtain ⟨r21, hm22, H⟩ := bind_some H
  refine wpS_call rfl rfl rfl rfl (by kernel_rfl) rfl (c_ref20_number x0.last _ hm22) ?_
  rintro e w ⟨rfl, hN⟩; refine ⟨_, rfl, ?_⟩; have hB := hN.pure; have hS := hS.join hN; clear hN
  refine wpS_put rfl rfl rfl (yv_not rfl) ?_
  refine wpS_quick 1 rfl ?_
  refine wpS_case 74 rfl (fun hb => ?_) (fun hb => ?_)
  · replace H := cond_t H hb
    refine wpS_quick 16 rfl ?_
    refine wpS_nil ?_
    refine QH_seq_k hK20 ?_
    refine wpC_cond_t rfl rfl ?_
    refine wpC_seq_k (fun K hK23 => ?_)
    refine wpC_region ?_
    refine wpS_quick 1 rfl ?_
    refine wpS_nil ?_
    refine QH_seq_k hK23 ?_
    refine wpC_ret ?_
    refine QH_then_ret ?_
    refine QH_ret rfl (RV.tmp rfl RV.nil) rfl ?_
    obtain rfl := Option.some.inj H
    replace hS := hS.cut 0
    exact ⟨rfl, hS⟩
  replace H := cond_f H hb
  refine wpS_put rfl rfl rfl (yv_fieldAddr fo_36_6 rfl) ?_
  refine wpS_put rfl rfl rfl (yv_load_box sc_3 rfl (RW.here _) hS hs0 trivial sg6_1) ?_
  obtain ⟨r24, hm25, H⟩ := bind_some H
  refine wpS_call rfl rfl rfl rfl (by kernel_rfl) rfl (c_ref20_number x0.lastTerm _ hm25) ?_
  rintro e w ⟨rfl, hN⟩; refine ⟨_, rfl, ?_⟩; have hB := hN.pure; have hS := hS.join hN; clear hN
  refine wpS_put rfl rfl rfl (yv_not rfl) ?_
  refine wpS_quick 2 rfl ?_
  refine wpS_case 80 rfl (fun hb => ?_) (fun hb => ?_)
  · replace H := cond_t H hb
    refine wpS_quick 10 rfl ?_
    refine wpS_nil ?_
    refine QH_seq_k hK20 ?_
    refine wpC_cond_t rfl rfl ?_
    refine wpC_seq_k (fun K hK26 => ?_)
    refine wpC_region ?_
    refine wpS_quick 1 rfl ?_
    refine wpS_nil ?_
    refine QH_seq_k hK26 ?_
    refine wpC_ret ?_
    refine QH_then_ret ?_
    refine QH_ret rfl (RV.tmp rfl RV.nil) rfl ?_
    obtain rfl := Option.some.inj H
    replace hS := hS.cut 0
    exact ⟨rfl, hS⟩
  replace H := cond_f H hb
  refine wpS_put rfl rfl rfl (yv_fieldAddr fo_36_7 rfl) ?_
  refine wpS_put rfl rfl rfl (yv_load_box sc_3 rfl (RW.here _) hS hs0 trivial sg7_1) ?_
  obtain ⟨r27, hm28, H⟩ := bind_some H
  refine wpS_call rfl rfl rfl rfl (by kernel_rfl) rfl (c_ref20_number x0.commit _ hm28) ?_
  rintro e w ⟨rfl, hN⟩; refine ⟨_, rfl, ?_⟩; have hB := hN.pure; have hS := hS.join hN; clear hN
  refine wpS_put rfl rfl rfl (yv_not rfl) ?_
  refine wpS_quick 2 rfl ?_
  refine wpS_case 86 rfl (fun hb => ?_) (fun hb => ?_)
  · replace H := cond_t H hb
    refine wpS_quick 4 rfl ?_
    refine wpS_nil ?_
    refine QH_seq_k hK20 ?_
    refine wpC_cond_t rfl rfl ?_
    refine wpC_seq_k (fun K hK29 => ?_)
    refine wpC_region ?_
    refine wpS_quick 1 rfl ?_
    refine wpS_nil ?_
    refine QH_seq_k hK29 ?_
    refine wpC_ret ?_
    refine QH_then_ret ?_
    refine QH_ret rfl (RV.tmp rfl RV.nil) rfl ?_
    obtain rfl := Option.some.inj H
    replace hS := hS.cut 0
    exact ⟨rfl, hS⟩
  replace H := cond_f H hb
  refine wpS_put rfl rfl rfl (yv_load_boxA ag_36 rfl (RW.here _) hS hs0 trivial sg0_15) ?_
  obtain ⟨r30, hm31, H⟩ := bind_some H
  refine wpS_call rfl rfl rfl rfl (by kernel_rfl) rfl (c_ref20_entries x0 A0_ c0_ _ (SlI.of_rd s0_.k (hS.rd0 s0_.rd) (hS.blk0 s0_.blk)) hm31) ?_
  rintro e w ⟨rfl, hN⟩; refine ⟨_, rfl, ?_⟩; have hB := hN.pure; have hS := hS.join hN; clear hN
  refine wpS_put rfl rfl rfl (yv_not rfl) ?_
  refine wpS_quick 1 rfl ?_
  refine wpS_nil ?_
  refine QH_seq_k hK20 ?_
  refine wpC_cond rfl (fun hb => ?_) (fun hb => ?_)
  · replace H := cond_t H hb
    refine wpC_seq_k (fun K hK32 => ?_)
    refine wpC_region ?_
    refine wpS_quick 1 rfl ?_
    refine wpS_nil ?_
    refine QH_seq_k hK32 ?_
    refine wpC_ret ?_
    refine QH_then_ret ?_
    refine QH_ret rfl (RV.tmp rfl RV.nil) rfl ?_
    obtain rfl := Option.some.inj H
    replace hS := hS.cut 0
    exact ⟨rfl, hS⟩
  replace H := cond_f H hb
  refine wpC_skip ?_
  refine QH_seq_k hK19 ?_
  refine wpC_seq_k (fun K hK33 => ?_)
  refine wpC_seq_k (fun K hK34 => ?_)
  refine wpC_region ?_
  refine wpS_put rfl rfl rfl (yv_fieldAddr fo_36_0 rfl) ?_
  refine wpS_put rfl rfl rfl (yv_load_box sc_5 rfl (RW.here _) hS hs0 trivial sg0_1) ?_
  refine wpS_put rfl rfl rfl (yv_neq rfl rfl) ?_
  refine wpS_quick 1 rfl ?_
  refine wpS_case 94 rfl (fun hb => ?_) (fun hb => ?_)
  rotate_left
  · replace H := cond_f H hb
    refine wpS_quick 11 rfl ?_
    refine wpS_put rfl rfl rfl (yv_fieldAddr fo_36_8 rfl) ?_
    refine wpS_put rfl rfl rfl (yv_load_box sc_4 rfl (RW.here _) hS hs0 trivial sg8_1) ?_
    refine wpS_quick 1 rfl ?_
    refine wpS_case 108 rfl (fun hb => ?_) (fun hb => ?_)
    rotate_left
    · replace H := cond_f H hb
      refine wpS_quick 10 rfl ?_
      refine wpS_nil ?_
      refine QH_seq_k hK34 ?_
      refine wpC_cond_f rfl rfl ?_
      refine wpC_skip ?_
      refine QH_seq_k hK33 ?_
      refine wpC_seq_k (fun K hK69 => ?_)
      refine wpC_seq_k (fun K hK70 => ?_)
      refine wpC_region ?_
      refine wpS_put rfl rfl rfl (yv_fieldAddr fo_36_0 rfl) ?_
      refine wpS_put rfl rfl rfl (yv_load_box sc_5 rfl (RW.here _) hS hs0 trivial sg0_1) ?_
      refine wpS_put rfl rfl rfl (yv_eql rfl rfl) ?_
      refine wpS_nil ?_
      refine QH_seq_k hK70 ?_
      refine wpC_cond rfl (fun hb => ?_) (fun hb => ?_)
      rotate_left
      · replace H := cond_f H hb
        refine wpC_skip ?_
        refine QH_seq_k hK69 ?_
        refine wpC_seq_k (fun K hK74 => ?_)
        refine wpC_region ?_
        refine wpS_put rfl rfl rfl (yv_fieldAddr fo_36_10 rfl) ?_
        refine wpS_put rfl rfl rfl (yv_load_boxA ag_23 rfl (RW.here _) hS hs0 trivial sg10_5) ?_
        refine wpS_put rfl rfl rfl (yv_build (cells := [.int .i64 0, .int .i64 0, .int .i64 0, .int .i64 0, .bool false]) rfl (by kernel_rfl)) ?_
        refine wpS_put rfl rfl rfl (yv_eqlS (by kernel_rfl) rfl rfl (eqT_23 _ _ _ _ _ _ _ _ _ _)) ?_
        refine wpS_quick 1 rfl ?_
        refine wpS_nil ?_
        refine QH_seq_k hK74 ?_
        refine wpC_ret ?_
        refine QH_ret rfl (RV.tmp rfl RV.nil) rfl ?_
        obtain rfl := Option.some.inj H
        replace hS := hS.cut 0
        exact ⟨rfl, hS⟩
      replace H := cond_t H hb
      refine wpC_seq_k (fun K hK71 => ?_)
      refine wpC_region ?_
      refine wpS_put rfl rfl rfl (yv_fieldAddr fo_36_10 rfl) ?_
      refine wpS_put rfl rfl rfl (yv_load_boxA ag_23 rfl (RW.here _) hS hs0 trivial sg10_5) ?_
      obtain ⟨r72, hm73, H⟩ := bind_some H
      refine wpS_call rfl rfl rfl rfl (by kernel_rfl) rfl (c_ref06_Fine x0.snap _ hm73) ?_
      rintro e w ⟨rfl, hN⟩; refine ⟨_, rfl, ?_⟩; have hB := hN.pure; have hS := hS.join hN; clear hN
      refine wpS_quick 1 rfl ?_
      refine wpS_case 125 rfl (fun hb => ?_) (fun hb => ?_)
      rotate_left
      · replace H := cond_f H hb
        refine wpS_quick 6 rfl ?_
        refine wpS_nil ?_
        refine QH_seq_k hK71 ?_
        refine wpC_ret ?_
        refine QH_then_ret ?_
        refine QH_ret rfl (RV.tmp rfl RV.nil) rfl ?_
        obtain rfl := Option.some.inj H
        replace hS := hS.cut 0
        exact ⟨rfl, hS⟩
      replace H := cond_t H hb
      refine wpS_put rfl rfl rfl (yv_fieldAddr fo_36_10 rfl) ?_
      refine wpS_put rfl rfl rfl (yv_fieldAddr fo_23_0 rfl) ?_
      refine wpS_put rfl rfl rfl (yv_load_box sc_3 rfl (RW.here _) hS hs0 trivial sg10_1) ?_
      refine wpS_put rfl rfl rfl (yv_gtr rfl rfl) ?_
      refine wpS_quick 2 rfl ?_
      refine wpS_nil ?_
      refine QH_seq_k hK71 ?_
      refine wpC_ret ?_
      refine QH_then_ret ?_
      refine QH_ret rfl (RV.tmp rfl RV.nil) rfl ?_
      obtain rfl := Option.some.inj H
      replace hS := hS.cut 0
      exact ⟨rfl, hS⟩
    replace H := cond_t H hb
    refine wpS_put rfl rfl rfl (yv_fieldAddr fo_36_0 rfl) ?_
    refine wpS_put rfl rfl rfl (yv_load_box sc_5 rfl (RW.here _) hS hs0 trivial sg0_1) ?_
    refine wpS_put rfl rfl rfl (yv_neq rfl rfl) ?_
    refine wpS_quick 2 rfl ?_
    refine wpS_case 113 rfl (fun hb => ?_) (fun hb => ?_)
    rotate_left
    · replace H := cond_f H hb
      refine wpS_quick 5 rfl ?_
      refine wpS_nil ?_
      refine QH_seq_k hK34 ?_
      refine wpC_cond_f rfl rfl ?_
      refine wpC_skip ?_
      refine QH_seq_k hK33 ?_
      refine wpC_seq_k (fun K hK63 => ?_)
      refine wpC_seq_k (fun K hK64 => ?_)
      refine wpC_region ?_
      refine wpS_put rfl rfl rfl (yv_fieldAddr fo_36_0 rfl) ?_
      refine wpS_put rfl rfl rfl (yv_load_box sc_5 rfl (RW.here _) hS hs0 trivial sg0_1) ?_
      refine wpS_put rfl rfl rfl (yv_eql rfl rfl) ?_
      refine wpS_nil ?_
      refine QH_seq_k hK64 ?_
      refine wpC_cond rfl (fun hb => ?_) (fun hb => ?_)
      rotate_left
      · replace H := cond_f H hb
        refine wpC_skip ?_
        refine QH_seq_k hK63 ?_
        refine wpC_seq_k (fun K hK68 => ?_)
        refine wpC_region ?_
        refine wpS_put rfl rfl rfl (yv_fieldAddr fo_36_10 rfl) ?_
        refine wpS_put rfl rfl rfl (yv_load_boxA ag_23 rfl (RW.here _) hS hs0 trivial sg10_5) ?_
        refine wpS_put rfl rfl rfl (yv_build (cells := [.int .i64 0, .int .i64 0, .int .i64 0, .int .i64 0, .bool false]) rfl (by kernel_rfl)) ?_
        refine wpS_put rfl rfl rfl (yv_eqlS (by kernel_rfl) rfl rfl (eqT_23 _ _ _ _ _ _ _ _ _ _)) ?_
        refine wpS_quick 1 rfl ?_
        refine wpS_nil ?_
        refine QH_seq_k hK68 ?_
        refine wpC_ret ?_
        refine QH_ret rfl (RV.tmp rfl RV.nil) rfl ?_
        obtain rfl := Option.some.inj H
        replace hS := hS.cut 0
        exact ⟨rfl, hS⟩
      replace H := cond_t H hb
      refine wpC_seq_k (fun K hK65 => ?_)
      refine wpC_region ?_
      refine wpS_put rfl rfl rfl (yv_fieldAddr fo_36_10 rfl) ?_
      refine wpS_put rfl rfl rfl (yv_load_boxA ag_23 rfl (RW.here _) hS hs0 trivial sg10_5) ?_
      obtain ⟨r66, hm67, H⟩ := bind_some H
      refine wpS_call rfl rfl rfl rfl (by kernel_rfl) rfl (c_ref06_Fine x0.snap _ hm67) ?_
      rintro e w ⟨rfl, hN⟩; refine ⟨_, rfl, ?_⟩; have hB := hN.pure; have hS := hS.join hN; clear hN
      refine wpS_quick 1 rfl ?_
      refine wpS_case 125 rfl (fun hb => ?_) (fun hb => ?_)
      rotate_left
      · replace H := cond_f H hb
        refine wpS_quick 6 rfl ?_
        refine wpS_nil ?_
        refine QH_seq_k hK65 ?_
        refine wpC_ret ?_
        refine QH_then_ret ?_
        refine QH_ret rfl (RV.tmp rfl RV.nil) rfl ?_
        obtain rfl := Option.some.inj H
        replace hS := hS.cut 0
        exact ⟨rfl, hS⟩
      replace H := cond_t H hb
      refine wpS_put rfl rfl rfl (yv_fieldAddr fo_36_10 rfl) ?_
      refine wpS_put rfl rfl rfl (yv_fieldAddr fo_23_0 rfl) ?_
      refine wpS_put rfl rfl rfl (yv_load_box sc_3 rfl (RW.here _) hS hs0 trivial sg10_1) ?_
      refine wpS_put rfl rfl rfl (yv_gtr rfl rfl) ?_
      refine wpS_quick 2 rfl ?_
      refine wpS_nil ?_
      refine QH_seq_k hK65 ?_
      refine wpC_ret ?_
      refine QH_then_ret ?_
      refine QH_ret rfl (RV.tmp rfl RV.nil) rfl ?_
      obtain rfl := Option.some.inj H
      replace hS := hS.cut 0
      exact ⟨rfl, hS⟩
    replace H := cond_t H hb
    refine wpS_put rfl rfl rfl (yv_fieldAddr fo_36_0 rfl) ?_
    refine wpS_put rfl rfl rfl (yv_load_box sc_5 rfl (RW.here _) hS hs0 trivial sg0_1) ?_
    refine wpS_put rfl rfl rfl (yv_neq rfl rfl) ?_
    refine wpS_quick 2 rfl ?_
    refine wpS_nil ?_
    refine QH_seq_k hK34 ?_
    refine wpC_cond rfl (fun hb => ?_) (fun hb => ?_)
    · replace H := cond_t H hb
      refine wpC_seq_k (fun K hK56 => ?_)
      refine wpC_region ?_
      refine wpS_quick 1 rfl ?_
      refine wpS_nil ?_
      refine QH_seq_k hK56 ?_
      refine wpC_ret ?_
      refine QH_then_ret ?_
      refine QH_ret rfl (RV.tmp rfl RV.nil) rfl ?_
      obtain rfl := Option.some.inj H
      replace hS := hS.cut 0
      exact ⟨rfl, hS⟩
    replace H := cond_f H hb
    refine wpC_skip ?_
    refine QH_seq_k hK33 ?_
    refine wpC_seq_k (fun K hK57 => ?_)
    refine wpC_seq_k (fun K hK58 => ?_)
    refine wpC_region ?_
    refine wpS_put rfl rfl rfl (yv_fieldAddr fo_36_0 rfl) ?_
    refine wpS_put rfl rfl rfl (yv_load_box sc_5 rfl (RW.here _) hS hs0 trivial sg0_1) ?_
    refine wpS_put rfl rfl rfl (yv_eql rfl rfl) ?_
    refine wpS_nil ?_
    refine QH_seq_k hK58 ?_
    refine wpC_cond rfl (fun hb => ?_) (fun hb => ?_)
    rotate_left
    · replace H := cond_f H hb
      refine wpC_skip ?_
      refine QH_seq_k hK57 ?_
      refine wpC_seq_k (fun K hK62 => ?_)
      refine wpC_region ?_
      refine wpS_put rfl rfl rfl (yv_fieldAddr fo_36_10 rfl) ?_
      refine wpS_put rfl rfl rfl (yv_load_boxA ag_23 rfl (RW.here _) hS hs0 trivial sg10_5) ?_
      refine wpS_put rfl rfl rfl (yv_build (cells := [.int .i64 0, .int .i64 0, .int .i64 0, .int .i64 0, .bool false]) rfl (by kernel_rfl)) ?_
      refine wpS_put rfl rfl rfl (yv_eqlS (by kernel_rfl) rfl rfl (eqT_23 _ _ _ _ _ _ _ _ _ _)) ?_
      refine wpS_quick 1 rfl ?_
      refine wpS_nil ?_
      refine QH_seq_k hK62 ?_
      refine wpC_ret ?_
      refine QH_ret rfl (RV.tmp rfl RV.nil) rfl ?_
      obtain rfl := Option.some.inj H
      replace hS := hS.cut 0
      exact ⟨rfl, hS⟩
    replace H := cond_t H hb
    refine wpC_seq_k (fun K hK59 => ?_)
    refine wpC_region ?_
    refine wpS_put rfl rfl rfl (yv_fieldAddr fo_36_10 rfl) ?_
    refine wpS_put rfl rfl rfl (yv_load_boxA ag_23 rfl (RW.here _) hS hs0 trivial sg10_5) ?_
    obtain ⟨r60, hm61, H⟩ := bind_some H
    refine wpS_call rfl rfl rfl rfl (by kernel_rfl) rfl (c_ref06_Fine x0.snap _ hm61) ?_
    rintro e w ⟨rfl, hN⟩; refine ⟨_, rfl, ?_⟩; have hB := hN.pure; have hS := hS.join hN; clear hN
    refine wpS_quick 1 rfl ?_
    refine wpS_case 125 rfl (fun hb => ?_) (fun hb => ?_)
    rotate_left
    · replace H := cond_f H hb
      refine wpS_quick 6 rfl ?_
      refine wpS_nil ?_
      refine QH_seq_k hK59 ?_
      refine wpC_ret ?_
      refine QH_then_ret ?_
      refine QH_ret rfl (RV.tmp rfl RV.nil) rfl ?_
      obtain rfl := Option.some.inj H
      replace hS := hS.cut 0
      exact ⟨rfl, hS⟩
    replace H := cond_t H hb
    refine wpS_put rfl rfl rfl (yv_fieldAddr fo_36_10 rfl) ?_
    refine wpS_put rfl rfl rfl (yv_fieldAddr fo_23_0 rfl) ?_
    refine wpS_put rfl rfl rfl (yv_load_box sc_3 rfl (RW.here _) hS hs0 trivial sg10_1) ?_
    refine wpS_put rfl rfl rfl (yv_gtr rfl rfl) ?_
    refine wpS_quick 2 rfl ?_
    refine wpS_nil ?_
    refine QH_seq_k hK59 ?_
    refine wpC_ret ?_
    refine QH_then_ret ?_
    refine QH_ret rfl (RV.tmp rfl RV.nil) rfl ?_
    obtain rfl := Option.some.inj H
    replace hS := hS.cut 0
    exact ⟨rfl, hS⟩
  replace H := cond_t H hb
  refine wpS_put rfl rfl rfl (yv_fieldAddr fo_36_9 rfl) ?_
  refine wpS_put rfl rfl rfl (yv_load_box sc_24 rfl (RW.here _) hS hs0 trivial sg9_1) ?_
  refine wpS_put rfl rfl rfl (yv_len el_24 rfl) ?_
  refine wpS_put rfl rfl rfl (yv_gtr rfl rfl) ?_
  refine wpS_quick 1 rfl ?_
  refine wpS_case 99 rfl (fun hb => ?_) (fun hb => ?_)
  · replace H := cond_t H hb
    refine wpS_quick 19 rfl ?_
    refine wpS_nil ?_
    refine QH_seq_k hK34 ?_
    refine wpC_cond_t rfl rfl ?_
    refine wpC_seq_k (fun K hK35 => ?_)
    refine wpC_region ?_
    refine wpS_quick 1 rfl ?_
    refine wpS_nil ?_
    refine QH_seq_k hK35 ?_
    refine wpC_ret ?_
    refine QH_then_ret ?_
    refine QH_ret rfl (RV.tmp rfl RV.nil) rfl ?_
    obtain rfl := Option.some.inj H
    replace hS := hS.cut 0
    exact ⟨rfl, hS⟩
  replace H := cond_f H hb
  refine wpS_put rfl rfl rfl (yv_fieldAddr fo_36_7 rfl) ?_
  refine wpS_put rfl rfl rfl (yv_load_box sc_3 rfl (RW.here _) hS hs0 trivial sg7_1) ?_
  refine wpS_put rfl rfl rfl (yv_gtr rfl rfl) ?_
  refine wpS_quick 3 rfl ?_
  refine wpS_case 105 rfl (fun hb => ?_) (fun hb => ?_)
  · replace H := cond_t H hb
    refine wpS_quick 13 rfl ?_
    refine wpS_nil ?_
    refine QH_seq_k hK34 ?_
    refine wpC_cond_t rfl rfl ?_
    refine wpC_seq_k (fun K hK36 => ?_)
    refine wpC_region ?_
    refine wpS_quick 1 rfl ?_
    refine wpS_nil ?_
    refine QH_seq_k hK36 ?_
    refine wpC_ret ?_
    refine QH_then_ret ?_
    refine QH_ret rfl (RV.tmp rfl RV.nil) rfl ?_
    obtain rfl := Option.some.inj H
    replace hS := hS.cut 0
    exact ⟨rfl, hS⟩
  replace H := cond_f H hb
  refine wpS_put rfl rfl rfl (yv_fieldAddr fo_36_8 rfl) ?_
  refine wpS_put rfl rfl rfl (yv_load_box sc_4 rfl (RW.here _) hS hs0 trivial sg8_1) ?_
  refine wpS_quick 1 rfl ?_
  refine wpS_case 108 rfl (fun hb => ?_) (fun hb => ?_)
  rotate_left
  · replace H := cond_f H hb
    refine wpS_quick 10 rfl ?_
    refine wpS_nil ?_
    refine QH_seq_k hK34 ?_
    refine wpC_cond_f rfl rfl ?_
    refine wpC_skip ?_
    refine QH_seq_k hK33 ?_
    refine wpC_seq_k (fun K hK50 => ?_)
    refine wpC_seq_k (fun K hK51 => ?_)
    refine wpC_region ?_
    refine wpS_put rfl rfl rfl (yv_fieldAddr fo_36_0 rfl) ?_
    refine wpS_put rfl rfl rfl (yv_load_box sc_5 rfl (RW.here _) hS hs0 trivial sg0_1) ?_
    refine wpS_put rfl rfl rfl (yv_eql rfl rfl) ?_
    refine wpS_nil ?_
    refine QH_seq_k hK51 ?_
    refine wpC_cond rfl (fun hb => ?_) (fun hb => ?_)
    rotate_left
    · replace H := cond_f H hb
      refine wpC_skip ?_
      refine QH_seq_k hK50 ?_
      refine wpC_seq_k (fun K hK55 => ?_)
      refine wpC_region ?_
      refine wpS_put rfl rfl rfl (yv_fieldAddr fo_36_10 rfl) ?_
      refine wpS_put rfl rfl rfl (yv_load_boxA ag_23 rfl (RW.here _) hS hs0 trivial sg10_5) ?_
      refine wpS_put rfl rfl rfl (yv_build (cells := [.int .i64 0, .int .i64 0, .int .i64 0, .int .i64 0, .bool false]) rfl (by kernel_rfl)) ?_
      refine wpS_put rfl rfl rfl (yv_eqlS (by kernel_rfl) rfl rfl (eqT_23 _ _ _ _ _ _ _ _ _ _)) ?_
      refine wpS_quick 1 rfl ?_
      refine wpS_nil ?_
      refine QH_seq_k hK55 ?_
      refine wpC_ret ?_
      refine QH_ret rfl (RV.tmp rfl RV.nil) rfl ?_
      obtain rfl := Option.some.inj H
      replace hS := hS.cut 0
      exact ⟨rfl, hS⟩
    replace H := cond_t H hb
    refine wpC_seq_k (fun K hK52 => ?_)
    refine wpC_region ?_
    refine wpS_put rfl rfl rfl (yv_fieldAddr fo_36_10 rfl) ?_
    refine wpS_put rfl rfl rfl (yv_load_boxA ag_23 rfl (RW.here _) hS hs0 trivial sg10_5) ?_
    obtain ⟨r53, hm54, H⟩ := bind_some H
    refine wpS_call rfl rfl rfl rfl (by kernel_rfl) rfl (c_ref06_Fine x0.snap _ hm54) ?_
    rintro e w ⟨rfl, hN⟩; refine ⟨_, rfl, ?_⟩; have hB := hN.pure; have hS := hS.join hN; clear hN
    refine wpS_quick 1 rfl ?_
    refine wpS_case 125 rfl (fun hb => ?_) (fun hb => ?_)
    rotate_left
    · replace H := cond_f H hb
      refine wpS_quick 6 rfl ?_
      refine wpS_nil ?_
      refine QH_seq_k hK52 ?_
      refine wpC_ret ?_
      refine QH_then_ret ?_
      refine QH_ret rfl (RV.tmp rfl RV.nil) rfl ?_
      obtain rfl := Option.some.inj H
      replace hS := hS.cut 0
      exact ⟨rfl, hS⟩
    replace H := cond_t H hb
    refine wpS_put rfl rfl rfl (yv_fieldAddr fo_36_10 rfl) ?_
    refine wpS_put rfl rfl rfl (yv_fieldAddr fo_23_0 rfl) ?_
    refine wpS_put rfl rfl rfl (yv_load_box sc_3 rfl (RW.here _) hS hs0 trivial sg10_1) ?_
    refine wpS_put rfl rfl rfl (yv_gtr rfl rfl) ?_
    refine wpS_quick 2 rfl ?_
    refine wpS_nil ?_
    refine QH_seq_k hK52 ?_
    refine wpC_ret ?_
    refine QH_then_ret ?_
    refine QH_ret rfl (RV.tmp rfl RV.nil) rfl ?_
    obtain rfl := Option.some.inj H
    replace hS := hS.cut 0
    exact ⟨rfl, hS⟩
  replace H := cond_t H hb
  refine wpS_put rfl rfl rfl (yv_fieldAddr fo_36_0 rfl) ?_
  refine wpS_put rfl rfl rfl (yv_load_box sc_5 rfl (RW.here _) hS hs0 trivial sg0_1) ?_
  refine wpS_put rfl rfl rfl (yv_neq rfl rfl) ?_
  refine wpS_quick 2 rfl ?_
  refine wpS_case 113 rfl (fun hb => ?_) (fun hb => ?_)
  rotate_left
  · replace H := cond_f H hb
    refine wpS_quick 5 rfl ?_
    refine wpS_nil ?_
    refine QH_seq_k hK34 ?_
    refine wpC_cond_f rfl rfl ?_
    refine wpC_skip ?_
    refine QH_seq_k hK33 ?_
    refine wpC_seq_k (fun K hK44 => ?_)
    refine wpC_seq_k (fun K hK45 => ?_)
    refine wpC_region ?_
    refine wpS_put rfl rfl rfl (yv_fieldAddr fo_36_0 rfl) ?_
    refine wpS_put rfl rfl rfl (yv_load_box sc_5 rfl (RW.here _) hS hs0 trivial sg0_1) ?_
    refine wpS_put rfl rfl rfl (yv_eql rfl rfl) ?_
    refine wpS_nil ?_
    refine QH_seq_k hK45 ?_
    refine wpC_cond rfl (fun hb => ?_) (fun hb => ?_)
    rotate_left
    · replace H := cond_f H hb
      refine wpC_skip ?_
      refine QH_seq_k hK44 ?_
      refine wpC_seq_k (fun K hK49 => ?_)
      refine wpC_region ?_
      refine wpS_put rfl rfl rfl (yv_fieldAddr fo_36_10 rfl) ?_
      refine wpS_put rfl rfl rfl (yv_load_boxA ag_23 rfl (RW.here _) hS hs0 trivial sg10_5) ?_
      refine wpS_put rfl rfl rfl (yv_build (cells := [.int .i64 0, .int .i64 0, .int .i64 0, .int .i64 0, .bool false]) rfl (by kernel_rfl)) ?_
      refine wpS_put rfl rfl rfl (yv_eqlS (by kernel_rfl) rfl rfl (eqT_23 _ _ _ _ _ _ _ _ _ _)) ?_
      refine wpS_quick 1 rfl ?_
      refine wpS_nil ?_
      refine QH_seq_k hK49 ?_
      refine wpC_ret ?_
      refine QH_ret rfl (RV.tmp rfl RV.nil) rfl ?_
      obtain rfl := Option.some.inj H
      replace hS := hS.cut 0
      exact ⟨rfl, hS⟩
    replace H := cond_t H hb
    refine wpC_seq_k (fun K hK46 => ?_)
    refine wpC_region ?_
    refine wpS_put rfl rfl rfl (yv_fieldAddr fo_36_10 rfl) ?_
    refine wpS_put rfl rfl rfl (yv_load_boxA ag_23 rfl (RW.here _) hS hs0 trivial sg10_5) ?_
    obtain ⟨r47, hm48, H⟩ := bind_some H
    refine wpS_call rfl rfl rfl rfl (by kernel_rfl) rfl (c_ref06_Fine x0.snap _ hm48) ?_
    rintro e w ⟨rfl, hN⟩; refine ⟨_, rfl, ?_⟩; have hB := hN.pure; have hS := hS.join hN; clear hN
    refine wpS_quick 1 rfl ?_
    refine wpS_case 125 rfl (fun hb => ?_) (fun hb => ?_)
    rotate_left
    · replace H := cond_f H hb
      refine wpS_quick 6 rfl ?_
      refine wpS_nil ?_
      refine QH_seq_k hK46 ?_
      refine wpC_ret ?_
      refine QH_then_ret ?_
      refine QH_ret rfl (RV.tmp rfl RV.nil) rfl ?_
      obtain rfl := Option.some.inj H
      replace hS := hS.cut 0
      exact ⟨rfl, hS⟩
    replace H := cond_t H hb
    refine wpS_put rfl rfl rfl (yv_fieldAddr fo_36_10 rfl) ?_
    refine wpS_put rfl rfl rfl (yv_fieldAddr fo_23_0 rfl) ?_
    refine wpS_put rfl rfl rfl (yv_load_box sc_3 rfl (RW.here _) hS hs0 trivial sg10_1) ?_
    refine wpS_put rfl rfl rfl (yv_gtr rfl rfl) ?_
    refine wpS_quick 2 rfl ?_
    refine wpS_nil ?_
    refine QH_seq_k hK46 ?_
    refine wpC_ret ?_
    refine QH_then_ret ?_
    refine QH_ret rfl (RV.tmp rfl RV.nil) rfl ?_
    obtain rfl := Option.some.inj H
    replace hS := hS.cut 0
    exact ⟨rfl, hS⟩
  replace H := cond_t H hb
  refine wpS_put rfl rfl rfl (yv_fieldAddr fo_36_0 rfl) ?_
  refine wpS_put rfl rfl rfl (yv_load_box sc_5 rfl (RW.here _) hS hs0 trivial sg0_1) ?_
  refine wpS_put rfl rfl rfl (yv_neq rfl rfl) ?_
  refine wpS_quick 2 rfl ?_
  refine wpS_nil ?_
  refine QH_seq_k hK34 ?_
  refine wpC_cond rfl (fun hb => ?_) (fun hb => ?_)
  · replace H := cond_t H hb
    refine wpC_seq_k (fun K hK37 => ?_)
    refine wpC_region ?_
    refine wpS_quick 1 rfl ?_
    refine wpS_nil ?_
    refine QH_seq_k hK37 ?_
    refine wpC_ret ?_
    refine QH_then_ret ?_
    refine QH_ret rfl (RV.tmp rfl RV.nil) rfl ?_
    obtain rfl := Option.some.inj H
    replace hS := hS.cut 0
    exact ⟨rfl, hS⟩
  replace H := cond_f H hb
  refine wpC_skip ?_
  refine QH_seq_k hK33 ?_
  refine wpC_seq_k (fun K hK38 => ?_)
  refine wpC_seq_k (fun K hK39 => ?_)
  refine wpC_region ?_
  refine wpS_put rfl rfl rfl (yv_fieldAddr fo_36_0 rfl) ?_
  refine wpS_put rfl rfl rfl (yv_load_box sc_5 rfl (RW.here _) hS hs0 trivial sg0_1) ?_
  refine wpS_put rfl rfl rfl (yv_eql rfl rfl) ?_
  refine wpS_nil ?_
  refine QH_seq_k hK39 ?_
  refine wpC_cond rfl (fun hb => ?_) (fun hb => ?_)
  rotate_left
  · replace H := cond_f H hb
    refine wpC_skip ?_
    refine QH_seq_k hK38 ?_
    refine wpC_seq_k (fun K hK43 => ?_)
    refine wpC_region ?_
    refine wpS_put rfl rfl rfl (yv_fieldAddr fo_36_10 rfl) ?_
    refine wpS_put rfl rfl rfl (yv_load_boxA ag_23 rfl (RW.here _) hS hs0 trivial sg10_5) ?_
    refine wpS_put rfl rfl rfl (yv_build (cells := [.int .i64 0, .int .i64 0, .int .i64 0, .int .i64 0, .bool false]) rfl (by kernel_rfl)) ?_
    refine wpS_put rfl rfl rfl (yv_eqlS (by kernel_rfl) rfl rfl (eqT_23 _ _ _ _ _ _ _ _ _ _)) ?_
    refine wpS_quick 1 rfl ?_
    refine wpS_nil ?_
    refine QH_seq_k hK43 ?_
    refine wpC_ret ?_
    refine QH_ret rfl (RV.tmp rfl RV.nil) rfl ?_
    obtain rfl := Option.some.inj H
    replace hS := hS.cut 0
    exact ⟨rfl, hS⟩
  replace H := cond_t H hb
  refine wpC_seq_k (fun K hK40 => ?_)
  refine wpC_region ?_
  refine wpS_put rfl rfl rfl (yv_fieldAddr fo_36_10 rfl) ?_
  refine wpS_put rfl rfl rfl (yv_load_boxA ag_23 rfl (RW.here _) hS hs0 trivial sg10_5) ?_
  obtain ⟨r41, hm42, H⟩ := bind_some H
  refine wpS_call rfl rfl rfl rfl (by kernel_rfl) rfl (c_ref06_Fine x0.snap _ hm42) ?_
  rintro e w ⟨rfl, hN⟩; refine ⟨_, rfl, ?_⟩; have hB := hN.pure; have hS := hS.join hN; clear hN
  refine wpS_quick 1 rfl ?_
  refine wpS_case 125 rfl (fun hb => ?_) (fun hb => ?_)
  rotate_left
  · replace H := cond_f H hb
    refine wpS_quick 6 rfl ?_
    refine wpS_nil ?_
    refine QH_seq_k hK40 ?_
    refine wpC_ret ?_
    refine QH_then_ret ?_
    refine QH_ret rfl (RV.tmp rfl RV.nil) rfl ?_
    obtain rfl := Option.some.inj H
    replace hS := hS.cut 0
    exact ⟨rfl, hS⟩
  replace H := cond_t H hb
  refine wpS_put rfl rfl rfl (yv_fieldAddr fo_36_10 rfl) ?_
  refine wpS_put rfl rfl rfl (yv_fieldAddr fo_23_0 rfl) ?_
  refine wpS_put rfl rfl rfl (yv_load_box sc_3 rfl (RW.here _) hS hs0 trivial sg10_1) ?_
  refine wpS_put rfl rfl rfl (yv_gtr rfl rfl) ?_
  refine wpS_quick 2 rfl ?_
  refine wpS_nil ?_
  refine QH_seq_k hK40 ?_
  refine wpC_ret ?_
  refine QH_then_ret ?_
  refine QH_ret rfl (RV.tmp rfl RV.nil) rfl ?_
  obtain rfl := Option.some.inj H
  replace hS := hS.cut 0
  exact ⟨rfl, hS⟩
theorem c_ref12_Same (x0 : Tu) (x1 : Tu) (A0_ : Option Addr) (c0_ : Nat) (A1_ : Option Addr) (c1_ : Nat) (w0 : World) (s0_ : SlI w0 enE A0_ c0_ x0.log) (s1_ : SlI w0 enE A1_ c1_ x1.log) {r : Bool} (H : m_ref12_Same x0 x1 = some r) : Calls Try.prog 23 #[.agg #[.int .i64 x0.snap.index, .int .i64 x0.snap.term, .int .i64 x0.snap.sum, .int .i64 x0.snap.level, .bool x0.snap.final, .slice A0_ x0.log.length c0_, .int .i64 x0.term, .int .i64 x0.vote], .agg #[.int .i64 x1.snap.index, .int .i64 x1.snap.term, .int .i64 x1.snap.sum, .int .i64 x1.snap.level, .bool x1.snap.final, .slice A1_ x1.log.length c1_, .int .i64 x1.term, .int .i64 x1.vote]] w0 fun e w' => e = .returned (.bool r) ∧ St0 All w0 w' [] := by
  unfold m_ref12_Same at H
  refine gw_enter2 Try.func23 rfl Try.ntmps23 rfl ?_
  have hS := St0.start All w0
  refine wpC_seq_k (fun K hK1 => ?_)
  refine wpC_region ?_
  refine wpS_box rfl rfl rfl CellsOf.agg hS (fun b2 w hS hB => ?_)
  refine wpS_box rfl rfl rfl CellsOf.agg hS (fun b4 w hS hB => ?_)
  refine wpS_quick 1 rfl ?_
  refine wpS_nil ?_
  refine QH_seq_k hK1 ?_
  refine wpC_seq_k (fun K hK6 => ?_)
  refine wpC_region ?_
  refine wpS_put rfl rfl rfl (yv_fieldAddr fo_26_0 rfl) ?_
  refine wpS_put rfl rfl rfl (yv_load_boxA ag_23 rfl (RW.here _) hS hs1 trivial sg0_5) ?_
  refine wpS_put rfl rfl rfl (yv_fieldAddr fo_26_0 rfl) ?_
  refine wpS_put rfl rfl rfl (yv_load_boxA ag_23 rfl (RW.here _) hS hs0 trivial sg0_5) ?_
  refine wpS_put rfl rfl rfl (yv_eqlS (by kernel_rfl) rfl rfl (eqT_23 _ _ _ _ _ _ _ _ _ _)) ?_
  refine wpS_quick 1 rfl ?_
  refine wpS_case 10 rfl (fun hb => ?_) (fun hb => ?_)
  rotate_left
  · replace H := cond_f H hb
    refine wpS_quick 21 rfl ?_
    refine wpS_nil ?_
    refine QH_seq_k hK6 ?_
    refine wpC_ret ?_
    refine QH_ret rfl (RV.tmp rfl RV.nil) rfl ?_
    obtain rfl := Option.some.inj H
    replace hS := hS.cut 0
    exact ⟨rfl, hS⟩
  replace H := cond_t H hb
  refine wpS_put rfl rfl rfl (yv_fieldAddr fo_26_2 rfl) ?_
  refine wpS_put rfl rfl rfl (yv_load_box sc_3 rfl (RW.here _) hS hs1 trivial sg6_1) ?_
  refine wpS_put rfl rfl rfl (yv_fieldAddr fo_26_2 rfl) ?_
  refine wpS_put rfl rfl rfl (yv_load_box sc_3 rfl (RW.here _) hS hs0 trivial sg6_1) ?_
  refine wpS_put rfl rfl rfl (yv_eql rfl rfl) ?_
  refine wpS_quick 2 rfl ?_
  refine wpS_case 17 rfl (fun hb => ?_) (fun hb => ?_)
  rotate_left
  · replace H := cond_f H hb
    refine wpS_quick 14 rfl ?_
    refine wpS_nil ?_
    refine QH_seq_k hK6 ?_
    refine wpC_ret ?_
    refine QH_ret rfl (RV.tmp rfl RV.nil) rfl ?_
    obtain rfl := Option.some.inj H
    replace hS := hS.cut 0
    exact ⟨rfl, hS⟩
  replace H := cond_t H hb
  refine wpS_put rfl rfl rfl (yv_fieldAddr fo_26_3 rfl) ?_
  refine wpS_put rfl rfl rfl (yv_load_box sc_3 rfl (RW.here _) hS hs1 trivial sg7_1) ?_
  refine wpS_put rfl rfl rfl (yv_fieldAddr fo_26_3 rfl) ?_
  refine wpS_put rfl rfl rfl (yv_load_box sc_3 rfl (RW.here _) hS hs0 trivial sg7_1) ?_
  refine wpS_put rfl rfl rfl (yv_eql rfl rfl) ?_
  refine wpS_quick 2 rfl ?_
  refine wpS_case 24 rfl (fun hb => ?_) (fun hb => ?_)
  rotate_left
  · replace H := cond_f H hb
    refine wpS_quick 7 rfl ?_
    refine wpS_nil ?_
    refine QH_seq_k hK6 ?_
    refine wpC_ret ?_
    refine QH_ret rfl (RV.tmp rfl RV.nil) rfl ?_
    obtain rfl := Option.some.inj H
    replace hS := hS.cut 0
    exact ⟨rfl, hS⟩
  replace H := cond_t H hb
  refine wpS_put rfl rfl rfl (yv_fieldAddr fo_26_1 rfl) ?_
  refine wpS_put rfl rfl rfl (yv_load_box sc_24 rfl (RW.here _) hS hs1 trivial sg5_1) ?_
  refine wpS_put rfl rfl rfl (yv_fieldAddr fo_26_1 rfl) ?_
  refine wpS_put rfl rfl rfl (yv_load_box sc_24 rfl (RW.here _) hS hs0 trivial sg5_1) ?_
  obtain ⟨r7, hm8, H⟩ := bind_some H
  refine wpS_call rfl rfl rfl rfl (by kernel_rfl) rfl (c_ref06_Same x0.log x1.log A0_ c0_ A1_ c1_ _ (SlI.of_rd s0_.k (hS.rd0 s0_.rd) (hS.blk0 s0_.blk)) (SlI.of_rd s1_.k (hS.rd0 s1_.rd) (hS.blk0 s1_.blk)) hm8) ?_
  rintro e w ⟨rfl, hN⟩; refine ⟨_, rfl, ?_⟩; have hB := hN.pure; have hS := hS.join hN; clear hN
  refine wpS_quick 2 rfl ?_
  refine wpS_nil ?_
  refine QH_seq_k hK6 ?_
  refine wpC_ret ?_
  refine QH_ret rfl (RV.tmp rfl RV.nil) rfl ?_
  obtain rfl := Option.some.inj H
  replace hS := hS.cut 0
  exact ⟨rfl, hS⟩
theorem c_ref20_ints (x0 : List Int) (x1 : List Int) (A0_ : Option Addr) (c0_ : Nat) (A1_ : Option Addr) (c1_ : Nat) (w0 : World) (s0_ : SlI w0 enI A0_ c0_ x0) (s1_ : SlI w0 enI A1_ c1_ x1) {r : Bool} (H : m_ref20_ints x0 x1 = some r) : Calls Try.prog 51 #[.slice A0_ x0.length c0_, .slice A1_ x1.length c1_] w0 fun e w' => e = .returned (.bool r) ∧ St0 All w0 w' [] := by
  unfold m_ref20_ints at H
  refine gw_enter2 Try.func51 rfl Try.ntmps51 rfl ?_
  have hS := St0.start All w0
  refine wpC_seq_k (fun K hK1 => ?_)
  refine wpC_region ?_
  refine wpS_quick 1 rfl ?_
  refine wpS_nil ?_
  refine QH_seq_k hK1 ?_
  refine wpC_seq_k (fun K hK2 => ?_)
  refine wpC_seq_k (fun K hK3 => ?_)
  refine wpC_region ?_
  refine wpS_quick 1 rfl ?_
  refine wpS_put rfl rfl rfl (yv_len el_28 rfl) ?_
  refine wpS_quick 1 rfl ?_
  refine wpS_put rfl rfl rfl (yv_len el_28 rfl) ?_
  refine wpS_put rfl rfl rfl (yv_neq rfl rfl) ?_
  refine wpS_nil ?_
  refine QH_seq_k hK3 ?_
  refine wpC_cond rfl (fun hb => ?_) (fun hb => ?_)
  · replace H := cond_t H hb
    refine wpC_seq_k (fun K hK4 => ?_)
    refine wpC_region ?_
    refine wpS_quick 1 rfl ?_
    refine wpS_nil ?_
    refine QH_seq_k hK4 ?_
    refine wpC_ret ?_
    refine QH_then_ret ?_
    refine QH_ret rfl (RV.tmp rfl RV.nil) rfl ?_
    obtain rfl := Option.some.inj H
    replace hS := hS.cut 0
    exact ⟨rfl, hS⟩
  replace H := cond_f H hb
  refine wpC_skip ?_
  refine QH_seq_k hK2 ?_
  refine wpC_seq_k (fun K hK5 => ?_)
  refine wpC_seq_k (fun K hK6 => ?_)
  refine wpC_region ?_
  refine wpS_quick 1 rfl ?_
  refine wpS_nil ?_
  refine QH_seq_k hK6 ?_
  refine wpC_block ?_
  refine wpC_loop (X := Nat × Bool × Int) (fun x => (0, .slice A0_ x0.length c0_) :: (1, .slice A1_ x1.length c1_) :: (4, .bool x.2.1) :: (5, .int .i64 x.2.2) :: []) (fun x w => St0 All w0 w ([]) ∧ m_ref20_ints_l1 x0 x1 x.1 x.2.1 x.2.2 = some r) (fun x => x.1) (fuelN, false, 0) (by repeat (first | exact Sub.nil | refine Sub.cons rfl ?_)) ⟨hS, H⟩ ?_
  rintro ⟨n, v7, v8⟩ w ⟨hS, H⟩
  dsimp only at hS H ⊢
  obtain _ | n := n
  · have H0 : none = some r := H
    cases H0
  rw [m_ref20_ints_l1] at H
  refine wpC_seq_k (fun K hK9 => ?_)
  refine wpC_seq_k (fun K hK10 => ?_)
  refine wpC_region ?_
  refine wpS_quick 2 rfl ?_
  refine wpS_put rfl rfl rfl (yv_len el_28 rfl) ?_
  refine wpS_put rfl rfl rfl (yv_lss rfl rfl) ?_
  refine wpS_nil ?_
  refine QH_seq_k hK10 ?_
  refine wpC_cond rfl (fun hb => ?_) (fun hb => ?_)
  rotate_left
  · replace H := cond_f H hb
    refine wpC_exit ?_
    refine QH_then_exit ?_
    refine QH_then_exit ?_
    refine QH_block_hit ?_
    refine QH_seq_k hK5 ?_
    refine wpC_seq_k (fun K hK20 => ?_)
    refine wpC_region ?_
    refine wpS_quick 1 rfl ?_
    refine wpS_nil ?_
    refine QH_seq_k hK20 ?_
    refine wpC_ret ?_
    refine QH_ret rfl (RV.tmp rfl RV.nil) rfl ?_
    obtain rfl := Option.some.inj H
    replace hS := hS.cut 0
    exact ⟨rfl, hS⟩
  replace H := cond_t H hb
  refine wpC_skip ?_
  refine QH_seq_k hK9 ?_
  refine wpC_seq_k (fun K hK11 => ?_)
  refine wpC_block ?_
  refine wpC_seq_k (fun K hK12 => ?_)
  refine wpC_draw 9 [] (fun _ _ => True) ⟨by kernel_rfl, by kernel_rfl⟩ hS (fun w hS hB => ?_)
  refine wpR_batch [true, true, true, true, true, true, true, true, true] (by decide +kernel) (by repeat (first | exact PF.body | exact PF.round | apply PF.then | apply PF.inBlock | apply PF.jump)) ?_
  refine LtK.put rfl rfl rfl (yv_move rfl) ?_
  refine LtK.put rfl rfl rfl (yv_move rfl) ?_
  obtain ⟨e13, hi15, H⟩ := bind_some H
  obtain ⟨j14, hi15a, hi15b, hi15c⟩ := idx_some hi15
  refine LtK.put rfl rfl rfl (yx_idx el_28 rfl rfl hi15a hi15c (Rd.el (hS.rd0 s0_.rd) he_enI hi15b)) ?_
  refine LtK.put rfl rfl rfl (yx_ld0 sc_3 rfl (RW.below _) (Rd.el (hS.rd0 s0_.rd) he_enI hi15b) rfl) ?_
  refine LtK.put rfl rfl rfl (yv_move rfl) ?_
  refine LtK.put rfl rfl rfl (yv_move rfl) ?_
  obtain ⟨e16, hi18, H⟩ := bind_some H
  obtain ⟨j17, hi18a, hi18b, hi18c⟩ := idx_some hi18
  refine LtK.put rfl rfl rfl (yx_idx el_28 rfl rfl hi18a hi18c (Rd.el (hS.rd0 s1_.rd) he_enI hi18b)) ?_
  refine LtK.put rfl rfl rfl (yx_ld0 sc_3 rfl (RW.below _) (Rd.el (hS.rd0 s1_.rd) he_enI hi18b) rfl) ?_
  refine LtK.put rfl rfl rfl (yv_neq rfl rfl) ?_
  refine LtK.nil ?_
  refine wpR_end (by kernel_rfl) ?_
  refine QH_seq_k hK12 ?_
  refine wpC_cond rfl (fun hb => ?_) (fun hb => ?_)
  rotate_left
  · replace H := cond_f H hb
    refine wpC_skip ?_
    refine QH_block_normal ?_
    refine QH_seq_k hK11 ?_
    refine wpC_region ?_
    refine wpS_quick 1 rfl ?_
    refine wpS_put rfl rfl rfl (yx_add rfl rfl) ?_
    refine wpS_quick 1 rfl ?_
    refine wpS_nil ?_
    exact QH_again (n, v7, (IntKind.wrap .i64 (v8 + 1))) (by repeat (first | exact Sub.nil | refine Sub.cons rfl ?_)) ⟨hS, H⟩ (Nat.lt_succ_self _)
  replace H := cond_t H hb
  refine wpC_seq_k (fun K hK19 => ?_)
  refine wpC_region ?_
  refine wpS_quick 1 rfl ?_
  refine wpS_nil ?_
  refine QH_seq_k hK19 ?_
  refine wpC_ret ?_
  refine QH_block_ret ?_
  refine QH_then_ret ?_
  refine QH_then_ret ?_
  refine QH_block_ret ?_
  refine QH_then_ret ?_
  refine QH_ret rfl (RV.tmp rfl RV.nil) rfl ?_
  obtain rfl := Option.some.inj H
  replace hS := hS.cut 0
  exact ⟨rfl, hS⟩
theorem c_ref20_Same (x0 : Co) (x1 : Co) (A0_ : Option Addr) (c0_ : Nat) (A1_ : Option Addr) (c1_ : Nat) (A2_ : Option Addr) (c2_ : Nat) (A3_ : Option Addr) (c3_ : Nat) (A4_ : Option Addr) (c4_ : Nat) (A5_ : Option Addr) (c5_ : Nat) (A6_ : Option Addr) (c6_ : Nat) (A7_ : Option Addr) (c7_ : Nat) (A8_ : Option Addr) (c8_ : Nat) (A9_ : Option Addr) (c9_ : Nat) (w0 : World) (s0_ : SlI w0 enE A0_ c0_ x0.tuple.log) (s1_ : SlI w0 enO A1_ c1_ x0.votes) (s2_ : SlI w0 enI A2_ c2_ x0.next) (s3_ : SlI w0 enI A3_ c3_ x0.mtch) (s4_ : SlI w0 enI A4_ c4_ x0.caps) (s5_ : SlI w0 enE A5_ c5_ x1.tuple.log) (s6_ : SlI w0 enO A6_ c6_ x1.votes) (s7_ : SlI w0 enI A7_ c7_ x1.next) (s8_ : SlI w0 enI A8_ c8_ x1.mtch) (s9_ : SlI w0 enI A9_ c9_ x1.caps) {r : Bool} (H : m_ref20_Same x0 x1 = some r) : Calls Try.prog 20 #[.agg #[.int .i64 x0.id, .int .i64 x0.n, .int .u8 x0.role, .int .i64 x0.binary, .int .i64 x0.tuple.snap.index, .int .i64 x0.tuple.snap.term, .int .i64 x0.tuple.snap.sum, .int .i64 x0.tuple.snap.level, .bool x0.tuple.snap.final, .slice A0_ x0.tuple.log.length c0_, .int .i64 x0.tuple.term, .int .i64 x0.tuple.vote, .int .i64 x0.commit, .int .i64 x0.applied.index, .int .i64 x0.applied.term, .int .i64 x0.applied.sum, .int .i64 x0.applied.level, .bool x0.applied.final, .slice A1_ x0.votes.length c1_, .slice A2_ x0.next.length c2_, .slice A3_ x0.mtch.length c3_, .slice A4_ x0.caps.length c4_], .agg #[.int .i64 x1.id, .int .i64 x1.n, .int .u8 x1.role, .int .i64 x1.binary, .int .i64 x1.tuple.snap.index, .int .i64 x1.tuple.snap.term, .int .i64 x1.tuple.snap.sum, .int .i64 x1.tuple.snap.level, .bool x1.tuple.snap.final, .slice A5_ x1.tuple.log.length c5_, .int .i64 x1.tuple.term, .int .i64 x1.tuple.vote, .int .i64 x1.commit, .int .i64 x1.applied.index, .int .i64 x1.applied.term, .int .i64 x1.applied.sum, .int .i64 x1.applied.level, .bool x1.applied.final, .slice A6_ x1.votes.length c6_, .slice A7_ x1.next.length c7_, .slice A8_ x1.mtch.length c8_, .slice A9_ x1.caps.length c9_]] w0 fun e w' => e = .returned (.bool r) ∧ St0 All w0 w' [] := by
  unfold m_ref20_Same at H
  refine gw_enter2 Try.func20 rfl Try.ntmps20 rfl ?_
  have hS := St0.start All w0
  refine wpC_seq_k (fun K hK1 => ?_)
  refine wpC_region ?_
  refine wpS_box rfl rfl rfl CellsOf.agg hS (fun b2 w hS hB => ?_)
  refine wpS_box rfl rfl rfl CellsOf.agg hS (fun b4 w hS hB => ?_)
  refine wpS_quick 1 rfl ?_
  refine wpS_nil ?_
  refine QH_seq_k hK1 ?_
  refine wpC_seq_k (fun K hK6 => ?_)
  refine wpC_seq_k (fun K hK7 => ?_)
  refine wpC_region ?_
  refine wpS_put rfl rfl rfl (yv_fieldAddr fo_30_0 rfl) ?_
  refine wpS_put rfl rfl rfl (yv_load_box sc_3 rfl (RW.here _) hS hs1 trivial sg0_1) ?_
  refine wpS_put rfl rfl rfl (yv_fieldAddr fo_30_0 rfl) ?_
  refine wpS_put rfl rfl rfl (yv_load_box sc_3 rfl (RW.here _) hS hs0 trivial sg0_1) ?_
  refine wpS_put rfl rfl rfl (yv_neq rfl rfl) ?_
  refine wpS_quick 1 rfl ?_
  refine wpS_case 11 rfl (fun hb => ?_) (fun hb => ?_)
  · replace H := cond_t H hb
    refine wpS_quick 51 rfl ?_
    refine wpS_nil ?_
    refine QH_seq_k hK7 ?_
    refine wpC_cond_t rfl rfl ?_
    refine wpC_seq_k (fun K hK8 => ?_)
    refine wpC_region ?_
    refine wpS_quick 1 rfl ?_
    refine wpS_nil ?_
    refine QH_seq_k hK8 ?_
    refine wpC_ret ?_
    refine QH_then_ret ?_
    refine QH_ret rfl (RV.tmp rfl RV.nil) rfl ?_
    obtain rfl := Option.some.inj H
    replace hS := hS.cut 0
    exact ⟨rfl, hS⟩
  replace H := cond_f H hb
  refine wpS_put rfl rfl rfl (yv_fieldAddr fo_30_1 rfl) ?_
  refine wpS_put rfl rfl rfl (yv_load_box sc_3 rfl (RW.here _) hS hs1 trivial sg1_1) ?_
  refine wpS_put rfl rfl rfl (yv_fieldAddr fo_30_1 rfl) ?_
  refine wpS_put rfl rfl rfl (yv_load_box sc_3 rfl (RW.here _) hS hs0 trivial sg1_1) ?_
  refine wpS_put rfl rfl rfl (yv_neq rfl rfl) ?_
  refine wpS_quick 2 rfl ?_
  refine wpS_case 18 rfl (fun hb => ?_) (fun hb => ?_)
  · replace H := cond_t H hb
    refine wpS_quick 44 rfl ?_
    refine wpS_nil ?_
    refine QH_seq_k hK7 ?_
    refine wpC_cond_t rfl rfl ?_
    refine wpC_seq_k (fun K hK9 => ?_)
    refine wpC_region ?_
    refine wpS_quick 1 rfl ?_
    refine wpS_nil ?_
    refine QH_seq_k hK9 ?_
    refine wpC_ret ?_
    refine QH_then_ret ?_
    refine QH_ret rfl (RV.tmp rfl RV.nil) rfl ?_
    obtain rfl := Option.some.inj H
    replace hS := hS.cut 0
    exact ⟨rfl, hS⟩
  replace H := cond_f H hb
  refine wpS_put rfl rfl rfl (yv_fieldAddr fo_30_2 rfl) ?_
  refine wpS_put rfl rfl rfl (yv_load_box sc_5 rfl (RW.here _) hS hs1 trivial sg2_1) ?_
  refine wpS_put rfl rfl rfl (yv_fieldAddr fo_30_2 rfl) ?_
  refine wpS_put rfl rfl rfl (yv_load_box sc_5 rfl (RW.here _) hS hs0 trivial sg2_1) ?_
  refine wpS_put rfl rfl rfl (yv_neq rfl rfl) ?_
  refine wpS_quick 2 rfl ?_
  refine wpS_case 25 rfl (fun hb => ?_) (fun hb => ?_)
  · replace H := cond_t H hb
    refine wpS_quick 37 rfl ?_
    refine wpS_nil ?_
    refine QH_seq_k hK7 ?_
    refine wpC_cond_t rfl rfl ?_
    refine wpC_seq_k (fun K hK10 => ?_)
    refine wpC_region ?_
    refine wpS_quick 1 rfl ?_
    refine wpS_nil ?_
    refine QH_seq_k hK10 ?_
    refine wpC_ret ?_
    refine QH_then_ret ?_
    refine QH_ret rfl (RV.tmp rfl RV.nil) rfl ?_
    obtain rfl := Option.some.inj H
    replace hS := hS.cut 0
    exact ⟨rfl, hS⟩
  replace H := cond_f H hb
  refine wpS_put rfl rfl rfl (yv_fieldAddr fo_30_3 rfl) ?_
  refine wpS_put rfl rfl rfl (yv_load_box sc_3 rfl (RW.here _) hS hs1 trivial sg3_1) ?_
  refine wpS_put rfl rfl rfl (yv_fieldAddr fo_30_3 rfl) ?_
  refine wpS_put rfl rfl rfl (yv_load_box sc_3 rfl (RW.here _) hS hs0 trivial sg3_1) ?_
  refine wpS_put rfl rfl rfl (yv_neq rfl rfl) ?_
  refine wpS_quick 2 rfl ?_
  refine wpS_case 32 rfl (fun hb => ?_) (fun hb => ?_)
  · replace H := cond_t H hb
    refine wpS_quick 30 rfl ?_
    refine wpS_nil ?_
    refine QH_seq_k hK7 ?_
    refine wpC_cond_t rfl rfl ?_
    refine wpC_seq_k (fun K hK11 => ?_)
    refine wpC_region ?_
    refine wpS_quick 1 rfl ?_
    refine wpS_nil ?_
    refine QH_seq_k hK11 ?_
    refine wpC_ret ?_
    refine QH_then_ret ?_
    refine QH_ret rfl (RV.tmp rfl RV.nil) rfl ?_
    obtain rfl := Option.some.inj H
    replace hS := hS.cut 0
    exact ⟨rfl, hS⟩
  replace H := cond_f H hb
  refine wpS_put rfl rfl rfl (yv_fieldAddr fo_30_4 rfl) ?_
  refine wpS_put rfl rfl rfl (yv_load_boxA ag_26 rfl (RW.here _) hS hs1 trivial sg4_8) ?_
  refine wpS_put rfl rfl rfl (yv_fieldAddr fo_30_4 rfl) ?_
  refine wpS_put rfl rfl rfl (yv_load_boxA ag_26 rfl (RW.here _) hS hs0 trivial sg4_8) ?_
  obtain ⟨r12, hm13, H⟩ := bind_some H
  refine wpS_call rfl rfl rfl rfl (by kernel_rfl) rfl (c_ref12_Same x0.tuple x1.tuple A0_ c0_ A5_ c5_ _ (SlI.of_rd s0_.k (hS.rd0 s0_.rd) (hS.blk0 s0_.blk)) (SlI.of_rd s5_.k (hS.rd0 s5_.rd) (hS.blk0 s5_.blk)) hm13) ?_
  rintro e w ⟨rfl, hN⟩; refine ⟨_, rfl, ?_⟩; have hB := hN.pure; have hS := hS.join hN; clear hN
  refine wpS_put rfl rfl rfl (yv_not rfl) ?_
  refine wpS_quick 2 rfl ?_
  refine wpS_case 40 rfl (fun hb => ?_) (fun hb => ?_)
  · replace H := cond_t H hb
    refine wpS_quick 22 rfl ?_
    refine wpS_nil ?_
    refine QH_seq_k hK7 ?_
    refine wpC_cond_t rfl rfl ?_
    refine wpC_seq_k (fun K hK14 => ?_)
    refine wpC_region ?_
    refine wpS_quick 1 rfl ?_
    refine wpS_nil ?_
    refine QH_seq_k hK14 ?_
    refine wpC_ret ?_
    refine QH_then_ret ?_
    refine QH_ret rfl (RV.tmp rfl RV.nil) rfl ?_
    obtain rfl := Option.some.inj H
    replace hS := hS.cut 0
    exact ⟨rfl, hS⟩
  replace H := cond_f H hb
  refine wpS_put rfl rfl rfl (yv_fieldAddr fo_30_5 rfl) ?_
  refine wpS_put rfl rfl rfl (yv_load_box sc_3 rfl (RW.here _) hS hs1 trivial sg12_1) ?_
  refine wpS_put rfl rfl rfl (yv_fieldAddr fo_30_5 rfl) ?_
  refine wpS_put rfl rfl rfl (yv_load_box sc_3 rfl (RW.here _) hS hs0 trivial sg12_1) ?_
  refine wpS_put rfl rfl rfl (yv_neq rfl rfl) ?_
  refine wpS_quick 2 rfl ?_
  refine wpS_case 47 rfl (fun hb => ?_) (fun hb => ?_)
  · replace H := cond_t H hb
    refine wpS_quick 15 rfl ?_
    refine wpS_nil ?_
    refine QH_seq_k hK7 ?_
    refine wpC_cond_t rfl rfl ?_
    refine wpC_seq_k (fun K hK15 => ?_)
    refine wpC_region ?_
    refine wpS_quick 1 rfl ?_
    refine wpS_nil ?_
    refine QH_seq_k hK15 ?_
    refine wpC_ret ?_
    refine QH_then_ret ?_
    refine QH_ret rfl (RV.tmp rfl RV.nil) rfl ?_
    obtain rfl := Option.some.inj H
    replace hS := hS.cut 0
    exact ⟨rfl, hS⟩
  replace H := cond_f H hb
  refine wpS_put rfl rfl rfl (yv_fieldAddr fo_30_6 rfl) ?_
  refine wpS_put rfl rfl rfl (yv_load_boxA ag_23 rfl (RW.here _) hS hs1 trivial sg13_5) ?_
  refine wpS_put rfl rfl rfl (yv_fieldAddr fo_30_6 rfl) ?_
  refine wpS_put rfl rfl rfl (yv_load_boxA ag_23 rfl (RW.here _) hS hs0 trivial sg13_5) ?_
  refine wpS_put rfl rfl rfl (yv_neqS (by kernel_rfl) rfl rfl (eqT_23 _ _ _ _ _ _ _ _ _ _)) ?_
  refine wpS_quick 2 rfl ?_
  refine wpS_case 54 rfl (fun hb => ?_) (fun hb => ?_)
  · replace H := cond_t H hb
    refine wpS_quick 8 rfl ?_
    refine wpS_nil ?_
    refine QH_seq_k hK7 ?_
    refine wpC_cond_t rfl rfl ?_
    refine wpC_seq_k (fun K hK16 => ?_)
    refine wpC_region ?_
    refine wpS_quick 1 rfl ?_
    refine wpS_nil ?_
    refine QH_seq_k hK16 ?_
    refine wpC_ret ?_
    refine QH_then_ret ?_
    refine QH_ret rfl (RV.tmp rfl RV.nil) rfl ?_
    obtain rfl := Option.some.inj H
    replace hS := hS.cut 0
    exact ⟨rfl, hS⟩
  replace H := cond_f H hb
  refine wpS_put rfl rfl rfl (yv_fieldAddr fo_30_7 rfl) ?_
  refine wpS_put rfl rfl rfl (yv_load_box sc_27 rfl (RW.here _) hS hs1 trivial sg18_1) ?_
  refine wpS_put rfl rfl rfl (yv_len el_27 rfl) ?_
  refine wpS_put rfl rfl rfl (yv_fieldAddr fo_30_7 rfl) ?_
  refine wpS_put rfl rfl rfl (yv_load_box sc_27 rfl (RW.here _) hS hs0 trivial sg18_1) ?_
  refine wpS_put rfl rfl rfl (yv_len el_27 rfl) ?_
  refine wpS_put rfl rfl rfl (yv_neq rfl rfl) ?_
  refine wpS_quick 1 rfl ?_
  refine wpS_nil ?_
  refine QH_seq_k hK7 ?_
  refine wpC_cond rfl (fun hb => ?_) (fun hb => ?_)
  · replace H := cond_t H hb
    refine wpC_seq_k (fun K hK17 => ?_)
    refine wpC_region ?_
    refine wpS_quick 1 rfl ?_
    refine wpS_nil ?_
    refine QH_seq_k hK17 ?_
    refine wpC_ret ?_
    refine QH_then_ret ?_
    refine QH_ret rfl (RV.tmp rfl RV.nil) rfl ?_
    obtain rfl := Option.some.inj H
    replace hS := hS.cut 0
    exact ⟨rfl, hS⟩
  replace H := cond_f H hb
  refine wpC_skip ?_
  refine QH_seq_k hK6 ?_
  refine wpC_seq_k (fun K hK18 => ?_)
  refine wpC_seq_k (fun K hK19 => ?_)
  refine wpC_region ?_
  refine wpS_quick 1 rfl ?_
  refine wpS_nil ?_
  refine QH_seq_k hK19 ?_
  refine wpC_block ?_
  refine wpC_loop (X := Nat × Bool × Int) (fun x => (2, .pointer (some ⟨b2, 0, none⟩)) :: (3, .pointer (some ⟨b4, 0, none⟩)) :: (4, .bool x.2.1) :: (5, .int .i64 x.2.2) :: []) (fun x w => St0 All w0 w (.box b4 [.int .i64 x1.id, .int .i64 x1.n, .int .u8 x1.role, .int .i64 x1.binary, .int .i64 x1.tuple.snap.index, .int .i64 x1.tuple.snap.term, .int .i64 x1.tuple.snap.sum, .int .i64 x1.tuple.snap.level, .bool x1.tuple.snap.final, .slice A5_ x1.tuple.log.length c5_, .int .i64 x1.tuple.term, .int .i64 x1.tuple.vote, .int .i64 x1.commit, .int .i64 x1.applied.index, .int .i64 x1.applied.term, .int .i64 x1.applied.sum, .int .i64 x1.applied.level, .bool x1.applied.final, .slice A6_ x1.votes.length c6_, .slice A7_ x1.next.length c7_, .slice A8_ x1.mtch.length c8_, .slice A9_ x1.caps.length c9_] 30 :: .box b2 [.int .i64 x0.id, .int .i64 x0.n, .int .u8 x0.role, .int .i64 x0.binary, .int .i64 x0.tuple.snap.index, .int .i64 x0.tuple.snap.term, .int .i64 x0.tuple.snap.sum, .int .i64 x0.tuple.snap.level, .bool x0.tuple.snap.final, .slice A0_ x0.tuple.log.length c0_, .int .i64 x0.tuple.term, .int .i64 x0.tuple.vote, .int .i64 x0.commit, .int .i64 x0.applied.index, .int .i64 x0.applied.term, .int .i64 x0.applied.sum, .int .i64 x0.applied.level, .bool x0.applied.final, .slice A1_ x0.votes.length c1_, .slice A2_ x0.next.length c2_, .slice A3_ x0.mtch.length c3_, .slice A4_ x0.caps.length c4_] 30 :: []) ∧ m_ref20_Same_l1 x0 x1 x.1 x.2.1 x.2.2 = some r) (fun x => x.1) (fuelN, false, 0) (by repeat (first | exact Sub.nil | refine Sub.cons rfl ?_)) ⟨hS, H⟩ ?_
  rintro ⟨n, v20, v21⟩ w ⟨hS, H⟩
  dsimp only at hS H ⊢
  obtain _ | n := n
  · have H0 : none = some r := H
    cases H0
  rw [m_ref20_Same_l1] at H
  refine wpC_seq_k (fun K hK22 => ?_)
  refine wpC_seq_k (fun K hK23 => ?_)
  refine wpC_region ?_
  refine wpS_quick 1 rfl ?_
  refine wpS_put rfl rfl rfl (yv_fieldAddr fo_30_7 rfl) ?_
  refine wpS_put rfl rfl rfl (yv_load_box sc_27 rfl (RW.here _) hS hs1 trivial sg18_1) ?_
  refine wpS_put rfl rfl rfl (yv_len el_27 rfl) ?_
  refine wpS_put rfl rfl rfl (yv_lss rfl rfl) ?_
  refine wpS_nil ?_
  refine QH_seq_k hK23 ?_
  refine wpC_cond rfl (fun hb => ?_) (fun hb => ?_)
  · replace H := cond_t H hb
    refine wpC_skip ?_
    refine QH_seq_k hK22 ?_
    refine wpC_seq_k (fun K hK24 => ?_)
    refine wpC_block ?_
    refine wpC_seq_k (fun K hK25 => ?_)
    refine wpC_draw 11 [] (fun _ _ => True) ⟨by kernel_rfl, by kernel_rfl⟩ hS (fun w hS hB => ?_)
    refine wpR_batch [true, true, true, true, true, true, true, true, true, true, true] (by decide +kernel) (by repeat (first | exact PF.body | exact PF.round | apply PF.then | apply PF.inBlock | apply PF.jump)) ?_
    refine LtK.put rfl rfl rfl (yv_fieldAddr fo_30_7 rfl) ?_
    refine LtK.put rfl rfl rfl (yv_load_box sc_27 rfl (RW.below _) hS hs1 trivial sg18_1) ?_
    refine LtK.put rfl rfl rfl (yv_move rfl) ?_
    obtain ⟨e26, hi28, H⟩ := bind_some H
    obtain ⟨j27, hi28a, hi28b, hi28c⟩ := idx_some hi28
    refine LtK.put rfl rfl rfl (yx_idx el_27 rfl rfl hi28a hi28c (Rd.el (hS.rd0 s1_.rd) he_enO hi28b)) ?_
    refine LtK.put rfl rfl rfl (yx_ld0 sc_4 rfl (RW.below _) (Rd.el (hS.rd0 s1_.rd) he_enO hi28b) rfl) ?_
    refine LtK.put rfl rfl rfl (yv_fieldAddr fo_30_7 rfl) ?_
    refine LtK.put rfl rfl rfl (yv_load_box sc_27 rfl (RW.below _) hS hs0 trivial sg18_1) ?_
    refine LtK.put rfl rfl rfl (yv_move rfl) ?_
    obtain ⟨e29, hi31, H⟩ := bind_some H
    obtain ⟨j30, hi31a, hi31b, hi31c⟩ := idx_some hi31
    refine LtK.put rfl rfl rfl (yx_idx el_27 rfl rfl hi31a hi31c (Rd.el (hS.rd0 s6_.rd) he_enO hi31b)) ?_
    refine LtK.put rfl rfl rfl (yx_ld0 sc_4 rfl (RW.below _) (Rd.el (hS.rd0 s6_.rd) he_enO hi31b) rfl) ?_
    refine LtK.put rfl rfl rfl (yv_neqB (by kernel_rfl) rfl rfl) ?_
    refine LtK.nil ?_
    refine wpR_end (by kernel_rfl) ?_
    refine QH_seq_k hK25 ?_
    refine wpC_cond rfl (fun hb => ?_) (fun hb => ?_)
    rotate_left
    · replace H := cond_f H hb
      refine wpC_skip ?_
      refine QH_block_normal ?_
      refine QH_seq_k hK24 ?_
      refine wpC_region ?_
      refine wpS_quick 1 rfl ?_
      refine wpS_put rfl rfl rfl (yx_add rfl rfl) ?_
      refine wpS_quick 1 rfl ?_
      refine wpS_nil ?_
      exact QH_again (n, v20, (IntKind.wrap .i64 (v21 + 1))) (by repeat (first | exact Sub.nil | refine Sub.cons rfl ?_)) ⟨hS, H⟩ (Nat.lt_succ_self _)
    replace H := cond_t H hb
    refine wpC_seq_k (fun K hK32 => ?_)
    refine wpC_region ?_
    refine wpS_quick 1 rfl ?_
    refine wpS_nil ?_
    refine QH_seq_k hK32 ?_
    refine wpC_ret ?_
    refine QH_block_ret ?_
    refine QH_then_ret ?_
    refine QH_then_ret ?_
    refine QH_block_ret ?_
    refine QH_then_ret ?_
    refine QH_ret rfl (RV.tmp rfl RV.nil) rfl ?_
    obtain rfl := Option.some.inj H
    replace hS := hS.cut 0
    exact ⟨rfl, hS⟩
  replace H := cond_f H hb
  refine wpC_exit ?_
  refine QH_then_exit ?_
  refine QH_then_exit ?_
  refine QH_block_hit ?_
  refine QH_seq_k hK18 ?_
  refine wpC_seq_k (fun K hK33 => ?_)
  refine wpC_region ?_
  refine wpS_put rfl rfl rfl (yv_fieldAddr fo_30_8 rfl) ?_
  refine wpS_put rfl rfl rfl (yv_load_box sc_28 rfl (RW.here _) hS hs1 trivial sg19_1) ?_
  refine wpS_put rfl rfl rfl (yv_fieldAddr fo_30_8 rfl) ?_
  refine wpS_put rfl rfl rfl (yv_load_box sc_28 rfl (RW.here _) hS hs0 trivial sg19_1) ?_
  obtain ⟨r34, hm35, H⟩ := bind_some H
  refine wpS_call rfl rfl rfl rfl (by kernel_rfl) rfl (c_ref20_ints x0.next x1.next A2_ c2_ A7_ c7_ _ (SlI.of_rd s2_.k (hS.rd0 s2_.rd) (hS.blk0 s2_.blk)) (SlI.of_rd s7_.k (hS.rd0 s7_.rd) (hS.blk0 s7_.blk)) hm35) ?_
  rintro e w ⟨rfl, hN⟩; refine ⟨_, rfl, ?_⟩; have hB := hN.pure; have hS := hS.join hN; clear hN
  refine wpS_quick 1 rfl ?_
  refine wpS_case 86 rfl (fun hb => ?_) (fun hb => ?_)
  rotate_left
  · replace H := cond_f H hb
    refine wpS_quick 14 rfl ?_
    refine wpS_nil ?_
    refine QH_seq_k hK33 ?_
    refine wpC_ret ?_
    refine QH_ret rfl (RV.tmp rfl RV.nil) rfl ?_
    obtain rfl := Option.some.inj H
    replace hS := hS.cut 0
    exact ⟨rfl, hS⟩
  replace H := cond_t H hb
  refine wpS_put rfl rfl rfl (yv_fieldAddr fo_30_9 rfl) ?_
  refine wpS_put rfl rfl rfl (yv_load_box sc_28 rfl (RW.here _) hS hs1 trivial sg20_1) ?_
  refine wpS_put rfl rfl rfl (yv_fieldAddr fo_30_9 rfl) ?_
  refine wpS_put rfl rfl rfl (yv_load_box sc_28 rfl (RW.here _) hS hs0 trivial sg20_1) ?_
  obtain ⟨r36, hm37, H⟩ := bind_some H
  refine wpS_call rfl rfl rfl rfl (by kernel_rfl) rfl (c_ref20_ints x0.mtch x1.mtch A3_ c3_ A8_ c8_ _ (SlI.of_rd s3_.k (hS.rd0 s3_.rd) (hS.blk0 s3_.blk)) (SlI.of_rd s8_.k (hS.rd0 s8_.rd) (hS.blk0 s8_.blk)) hm37) ?_
  rintro e w ⟨rfl, hN⟩; refine ⟨_, rfl, ?_⟩; have hB := hN.pure; have hS := hS.join hN; clear hN
  refine wpS_quick 2 rfl ?_
  refine wpS_case 93 rfl (fun hb => ?_) (fun hb => ?_)
  rotate_left
  · replace H := cond_f H hb
    refine wpS_quick 7 rfl ?_
    refine wpS_nil ?_
    refine QH_seq_k hK33 ?_
    refine wpC_ret ?_
    refine QH_ret rfl (RV.tmp rfl RV.nil) rfl ?_
    obtain rfl := Option.some.inj H
    replace hS := hS.cut 0
    exact ⟨rfl, hS⟩
  replace H := cond_t H hb
  refine wpS_put rfl rfl rfl (yv_fieldAddr fo_30_10 rfl) ?_
  refine wpS_put rfl rfl rfl (yv_load_box sc_28 rfl (RW.here _) hS hs1 trivial sg21_1) ?_
  refine wpS_put rfl rfl rfl (yv_fieldAddr fo_30_10 rfl) ?_
  refine wpS_put rfl rfl rfl (yv_load_box sc_28 rfl (RW.here _) hS hs0 trivial sg21_1) ?_
  obtain ⟨r38, hm39, H⟩ := bind_some H
  refine wpS_call rfl rfl rfl rfl (by kernel_rfl) rfl (c_ref20_ints x0.caps x1.caps A4_ c4_ A9_ c9_ _ (SlI.of_rd s4_.k (hS.rd0 s4_.rd) (hS.blk0 s4_.blk)) (SlI.of_rd s9_.k (hS.rd0 s9_.rd) (hS.blk0 s9_.blk)) hm39) ?_
  rintro e w ⟨rfl, hN⟩; refine ⟨_, rfl, ?_⟩; have hB := hN.pure; have hS := hS.join hN; clear hN
  refine wpS_quick 2 rfl ?_
  refine wpS_nil ?_
  refine QH_seq_k hK33 ?_
  refine wpC_ret ?_
  refine QH_ret rfl (RV.tmp rfl RV.nil) rfl ?_
  obtain rfl := Option.some.inj H
  replace hS := hS.cut 0
  exact ⟨rfl, hS⟩
theorem c_ref12_At (x0 : Tu) (x1 : Int) (A0_ : Option Addr) (c0_ : Nat) (w0 : World) (s0_ : SlI w0 enE A0_ c0_ x0.log) {r : En × Bool} (H : m_ref12_At x0 x1 = some r) : Calls Try.prog 25 #[.agg #[.int .i64 x0.snap.index, .int .i64 x0.snap.term, .int .i64 x0.snap.sum, .int .i64 x0.snap.level, .bool x0.snap.final, .slice A0_ x0.log.length c0_, .int .i64 x0.term, .int .i64 x0.vote], .int .i64 x1] w0 fun e w' => e = .returned (.tuple #[.agg #[.int .i64 r.1.term, .int .i64 r.1.kind, .int .i64 r.1.value], .bool r.2]) ∧ St0 All w0 w' [] := by
  unfold m_ref12_At at H
  refine gw_enter2 Try.func25 rfl Try.ntmps25 rfl ?_
  have hS := St0.start All w0
  refine wpC_seq_k (fun K hK1 => ?_)
  refine wpC_region ?_
  refine wpS_box rfl rfl rfl CellsOf.agg hS (fun b2 w hS hB => ?_)
  refine wpS_alloc rfl rfl zc_56 hS (fun b4 w hS hB => ?_)
  refine wpS_quick 1 rfl ?_
  refine wpS_nil ?_
  refine QH_seq_k hK1 ?_
  refine wpC_seq_k (fun K hK6 => ?_)
  refine wpC_seq_k (fun K hK7 => ?_)
  refine wpC_region ?_
  refine wpS_quick 1 rfl ?_
  refine wpS_put rfl rfl rfl (yv_fieldAddr fo_26_0 rfl) ?_
  refine wpS_put rfl rfl rfl (yv_fieldAddr fo_23_0 rfl) ?_
  refine wpS_put rfl rfl rfl (yv_load_box sc_3 rfl (RW.here _) hS hs1 trivial sg0_1) ?_
  refine wpS_put rfl rfl rfl (yv_leq rfl rfl) ?_
  refine wpS_quick 1 rfl ?_
  refine wpS_case 11 rfl (fun hb => ?_) (fun hb => ?_)
  · replace H := cond_t H hb
    refine wpS_quick 5 rfl ?_
    refine wpS_nil ?_
    refine QH_seq_k hK7 ?_
    refine wpC_cond_t rfl rfl ?_
    refine wpC_seq_k (fun K hK8 => ?_)
    refine wpC_region ?_
    refine wpS_put rfl rfl rfl (yv_build (cells := [.int .i64 0, .int .i64 0, .int .i64 0]) rfl (by kernel_rfl)) ?_
    refine wpS_store rfl rfl rfl CellsOf.agg hS ps0 st0_3 (by kernel_rfl) rfl (fun w hS hB => ?_)
    refine wpS_quick 1 rfl ?_
    refine wpS_nil ?_
    refine QH_seq_k hK8 ?_
    refine wpC_ret ?_
    refine QH_then_ret ?_
    refine QH_ret rfl (RV.cell rfl (load_boxA ag_56 hS hs0 sg0_3) (RV.tmp rfl RV.nil)) rfl ?_
    obtain rfl := Option.some.inj H
    replace hS := hS.cut 0
    exact ⟨rfl, hS⟩
  replace H := cond_f H hb
  refine wpS_quick 1 rfl ?_
  refine wpS_put rfl rfl rfl (yv_load_boxA ag_26 rfl (RW.here _) hS hs1 trivial sg0_8) ?_
  obtain ⟨r9, hm10, H⟩ := bind_some H
  refine wpS_call rfl rfl rfl rfl (by kernel_rfl) rfl (c_ref12_Last x0 A0_ c0_ _ (SlI.of_rd s0_.k (hS.rd0 s0_.rd) (hS.blk0 s0_.blk)) hm10) ?_
  rintro e w ⟨rfl, hN⟩; refine ⟨_, rfl, ?_⟩; have hB := hN.pure; have hS := hS.join hN; clear hN
  refine wpS_put rfl rfl rfl (yv_gtr rfl rfl) ?_
  refine wpS_quick 1 rfl ?_
  refine wpS_nil ?_
  refine QH_seq_k hK7 ?_
  refine wpC_cond rfl (fun hb => ?_) (fun hb => ?_)
  · replace H := cond_t H hb
    refine wpC_seq_k (fun K hK11 => ?_)
    refine wpC_region ?_
    refine wpS_put rfl rfl rfl (yv_build (cells := [.int .i64 0, .int .i64 0, .int .i64 0]) rfl (by kernel_rfl)) ?_
    refine wpS_store rfl rfl rfl CellsOf.agg hS ps0 st0_3 (by kernel_rfl) rfl (fun w hS hB => ?_)
    refine wpS_quick 1 rfl ?_
    refine wpS_nil ?_
    refine QH_seq_k hK11 ?_
    refine wpC_ret ?_
    refine QH_then_ret ?_
    refine QH_ret rfl (RV.cell rfl (load_boxA ag_56 hS hs0 sg0_3) (RV.tmp rfl RV.nil)) rfl ?_
    obtain rfl := Option.some.inj H
    replace hS := hS.cut 0
    exact ⟨rfl, hS⟩
  replace H := cond_f H hb
  refine wpC_skip ?_
  refine QH_seq_k hK6 ?_
  refine wpC_seq_k (fun K hK12 => ?_)
  refine wpC_region ?_
  refine wpS_put rfl rfl rfl (yv_fieldAddr fo_26_1 rfl) ?_
  refine wpS_put rfl rfl rfl (yv_load_box sc_24 rfl (RW.here _) hS hs1 trivial sg5_1) ?_
  refine wpS_quick 1 rfl ?_
  refine wpS_put rfl rfl rfl (yv_fieldAddr fo_26_0 rfl) ?_
  refine wpS_put rfl rfl rfl (yv_fieldAddr fo_23_0 rfl) ?_
  refine wpS_put rfl rfl rfl (yv_load_box sc_3 rfl (RW.here _) hS hs1 trivial sg0_1) ?_
  refine wpS_put rfl rfl rfl (yx_sub rfl rfl) ?_
  refine wpS_put rfl rfl rfl (yx_sub rfl rfl) ?_
  obtain ⟨e13, hi15, H⟩ := bind_some H
  obtain ⟨j14, hi15a, hi15b, hi15c⟩ := idx_some hi15
  refine wpS_put rfl rfl rfl (yx_idx el_24 rfl rfl hi15a hi15c (Rd.el (hS.rd0 s0_.rd) he_enE hi15b)) ?_
  refine wpS_put rfl rfl rfl (yx_ldA0 ag_56 rfl (RW.here _) (Rd.el (hS.rd0 s0_.rd) he_enE hi15b) sg0_3) ?_
  refine wpS_store rfl rfl rfl CellsOf.agg hS ps0 st0_3 (by kernel_rfl) rfl (fun w hS hB => ?_)
  refine wpS_quick 1 rfl ?_
  refine wpS_nil ?_
  refine QH_seq_k hK12 ?_
  refine wpC_ret ?_
  refine QH_ret rfl (RV.cell rfl (load_boxA ag_56 hS hs0 sg0_3) (RV.tmp rfl RV.nil)) rfl ?_
  obtain rfl := Option.some.inj H
  replace hS := hS.cut 0
  exact ⟨rfl, hS⟩
theorem c_ref12_TermAt (x0 : Tu) (x1 : Int) (A0_ : Option Addr) (c0_ : Nat) (w0 : World) (s0_ : SlI w0 enE A0_ c0_ x0.log) {r : Int × Bool} (H : m_ref12_TermAt x0 x1 = some r) : Calls Try.prog 88 #[.agg #[.int .i64 x0.snap.index, .int .i64 x0.snap.term, .int .i64 x0.snap.sum, .int .i64 x0.snap.level, .bool x0.snap.final, .slice A0_ x0.log.length c0_, .int .i64 x0.term, .int .i64 x0.vote], .int .i64 x1] w0 fun e w' => e = .returned (.tuple #[.int .i64 r.1, .bool r.2]) ∧ St0 All w0 w' [] := by
  unfold m_ref12_TermAt at H
  refine gw_enter2 Try.func88 rfl Try.ntmps88 rfl ?_
  have hS := St0.start All w0
  refine wpC_seq_k (fun K hK1 => ?_)
  refine wpC_region ?_
  refine wpS_box rfl rfl rfl CellsOf.agg hS (fun b2 w hS hB => ?_)
  refine wpS_quick 2 rfl ?_
  refine wpS_nil ?_
  refine QH_seq_k hK1 ?_
  refine wpC_seq_k (fun K hK4 => ?_)
  refine wpC_seq_k (fun K hK5 => ?_)
  refine wpC_region ?_
  refine wpS_quick 1 rfl ?_
  refine wpS_put rfl rfl rfl (yv_fieldAddr fo_26_0 rfl) ?_
  refine wpS_put rfl rfl rfl (yv_fieldAddr fo_23_0 rfl) ?_
  refine wpS_put rfl rfl rfl (yv_load_box sc_3 rfl (RW.here _) hS hs0 trivial sg0_1) ?_
  refine wpS_put rfl rfl rfl (yv_eql rfl rfl) ?_
  refine wpS_nil ?_
  refine QH_seq_k hK5 ?_
  refine wpC_cond rfl (fun hb => ?_) (fun hb => ?_)
  · replace H := cond_t H hb
    refine wpC_seq_k (fun K hK6 => ?_)
    refine wpC_region ?_
    refine wpS_put rfl rfl rfl (yv_fieldAddr fo_26_0 rfl) ?_
    refine wpS_put rfl rfl rfl (yv_fieldAddr fo_23_1 rfl) ?_
    refine wpS_put rfl rfl rfl (yv_load_box sc_3 rfl (RW.here _) hS hs0 trivial sg1_1) ?_
    refine wpS_quick 2 rfl ?_
    refine wpS_nil ?_
    refine QH_seq_k hK6 ?_
    refine wpC_ret ?_
    refine QH_then_ret ?_
    refine QH_ret rfl (RV.tmp rfl (RV.tmp rfl RV.nil)) rfl ?_
    obtain rfl := Option.some.inj H
    replace hS := hS.cut 0
    exact ⟨rfl, hS⟩
  replace H := cond_f H hb
  refine wpC_skip ?_
  refine QH_seq_k hK4 ?_
  refine wpC_seq_k (fun K hK7 => ?_)
  refine wpC_region ?_
  refine wpS_put rfl rfl rfl (yv_load_boxA ag_26 rfl (RW.here _) hS hs0 trivial sg0_8) ?_
  refine wpS_quick 1 rfl ?_
  obtain ⟨r8, hm9, H⟩ := bind_some H
  refine wpS_call rfl rfl rfl rfl (by kernel_rfl) rfl (c_ref12_At x0 x1 A0_ c0_ _ (SlI.of_rd s0_.k (hS.rd0 s0_.rd) (hS.blk0 s0_.blk)) hm9) ?_
  rintro e w ⟨rfl, hN⟩; refine ⟨_, rfl, ?_⟩; have hB := hN.pure; have hS := hS.join hN; clear hN
  refine wpS_quick 1 rfl ?_
  refine wpS_put rfl rfl rfl (yv_extract rfl rfl) ?_
  refine wpS_put rfl rfl rfl (yv_extract rfl rfl) ?_
  refine wpS_alloc rfl rfl zc_56 hS (fun b10 w hS hB => ?_)
  refine wpS_store rfl rfl rfl CellsOf.agg hS ps0 st0_3 (by kernel_rfl) rfl (fun w hS hB => ?_)
  refine wpS_quick 1 rfl ?_
  refine wpS_nil ?_
  refine QH_seq_k hK7 ?_
  refine wpC_seq_k (fun K hK12 => ?_)
  refine wpC_region ?_
  refine wpS_put rfl rfl rfl (yv_fieldAddr fo_56_0 rfl) ?_
  refine wpS_put rfl rfl rfl (yv_load_box sc_3 rfl (RW.here _) hS hs0 trivial sg0_1) ?_
  refine wpS_quick 3 rfl ?_
  refine wpS_nil ?_
  refine QH_seq_k hK12 ?_
  refine wpC_ret ?_
  refine QH_ret rfl (RV.tmp rfl (RV.tmp rfl RV.nil)) rfl ?_
  obtain rfl := Option.some.inj H
  replace hS := hS.cut 0
  exact ⟨rfl, hS⟩
theorem c_ref22_lastTerm (x0 : Co) (A0_ : Option Addr) (c0_ : Nat) (A1_ : Option Addr) (c1_ : Nat) (A2_ : Option Addr) (c2_ : Nat) (A3_ : Option Addr) (c3_ : Nat) (A4_ : Option Addr) (c4_ : Nat) (w0 : World) (s0_ : SlI w0 enE A0_ c0_ x0.tuple.log) (s1_ : SlI w0 enO A1_ c1_ x0.votes) (s2_ : SlI w0 enI A2_ c2_ x0.next) (s3_ : SlI w0 enI A3_ c3_ x0.mtch) (s4_ : SlI w0 enI A4_ c4_ x0.caps) {r : Int} (H : m_ref22_lastTerm x0 = some r) : Calls Try.prog 52 #[.agg #[.int .i64 x0.id, .int .i64 x0.n, .int .u8 x0.role, .int .i64 x0.binary, .int .i64 x0.tuple.snap.index, .int .i64 x0.tuple.snap.term, .int .i64 x0.tuple.snap.sum, .int .i64 x0.tuple.snap.level, .bool x0.tuple.snap.final, .slice A0_ x0.tuple.log.length c0_, .int .i64 x0.tuple.term, .int .i64 x0.tuple.vote, .int .i64 x0.commit, .int .i64 x0.applied.index, .int .i64 x0.applied.term, .int .i64 x0.applied.sum, .int .i64 x0.applied.level, .bool x0.applied.final, .slice A1_ x0.votes.length c1_, .slice A2_ x0.next.length c2_, .slice A3_ x0.mtch.length c3_, .slice A4_ x0.caps.length c4_]] w0 fun e w' => e = .returned (.int .i64 r) ∧ St0 All w0 w' [] := by
  unfold m_ref22_lastTerm at H
  refine gw_enter1 Try.func52 rfl Try.ntmps52 rfl ?_
  have hS := St0.start All w0
  refine wpC_seq_k (fun K hK1 => ?_)
  refine wpC_region ?_
  refine wpS_box rfl rfl rfl CellsOf.agg hS (fun b2 w hS hB => ?_)
  refine wpS_quick 1 rfl ?_
  refine wpS_nil ?_
  refine QH_seq_k hK1 ?_
  refine wpC_seq_k (fun K hK4 => ?_)
  refine wpC_draw 11 [] (fun _ _ => True) ⟨by kernel_rfl, by kernel_rfl⟩ hS (fun w hS hB => ?_)
  refine wpR_batch [true, true, true, true] (by decide +kernel) (by repeat (first | exact PF.body | exact PF.round | apply PF.then | apply PF.inBlock | apply PF.jump)) ?_
  refine LtK.put rfl rfl rfl (yv_fieldAddr fo_30_4 rfl) ?_
  refine LtK.put rfl rfl rfl (yv_load_boxA ag_26 rfl (RW.below _) hS hs0 trivial sg4_8) ?_
  refine LtK.put rfl rfl rfl (yv_fieldAddr fo_30_4 rfl) ?_
  refine LtK.put rfl rfl rfl (yv_load_boxA ag_26 rfl (RW.below _) hS hs0 trivial sg4_8) ?_
  refine LtK.nil ?_
  refine wpR_call [false, false, false, false, true] 4 ⟨by decide, by kernel_rfl, by kernel_rfl⟩ rfl rfl ?_
  try dsimp only [pickL]
  obtain ⟨r5, hm6, H⟩ := bind_some H
  refine wpS_call rfl rfl rfl rfl (by kernel_rfl) rfl (c_ref12_Last x0.tuple A0_ c0_ _ (SlI.of_rd s0_.k (hS.rd0 s0_.rd) (hS.blk0 s0_.blk)) hm6) ?_
  rintro e w ⟨rfl, hN⟩; refine ⟨_, rfl, ?_⟩; have hB := hN.pure; have hS := hS.join hN; clear hN
  refine wpS_nil ?_
  refine QH_step hB ?_
  refine wpR_call [false, false, false, false, false, true] 5 ⟨by decide, by kernel_rfl, by kernel_rfl⟩ rfl rfl ?_
  try dsimp only [pickL]
  obtain ⟨r7, hm8, H⟩ := bind_some H
  refine wpS_call rfl rfl rfl rfl (by kernel_rfl) rfl (c_ref12_TermAt x0.tuple r5 A0_ c0_ _ (SlI.of_rd s0_.k (hS.rd0 s0_.rd) (hS.blk0 s0_.blk)) hm8) ?_
  rintro e w ⟨rfl, hN⟩; refine ⟨_, rfl, ?_⟩; have hB := hN.pure; have hS := hS.join hN; clear hN
  refine wpS_nil ?_
  refine QH_step hB ?_
  refine wpR_batch [false, false, false, false, false, false, true, true, true, true, true] (by decide +kernel) (by repeat (first | exact PF.body | exact PF.round | apply PF.then | apply PF.inBlock | apply PF.jump)) ?_
  refine LtK.put rfl rfl rfl (yv_move rfl) ?_
  refine LtK.put rfl rfl rfl (yv_extract rfl rfl) ?_
  refine LtK.put rfl rfl rfl (yv_extract rfl rfl) ?_
  refine LtK.put rfl rfl rfl (yv_assign rfl) ?_
  refine LtK.put rfl rfl rfl (yv_assign rfl) ?_
  refine LtK.nil ?_
  refine wpR_end (by kernel_rfl) ?_
  refine QH_seq_k hK4 ?_
  refine wpC_seq_k (fun K hK9 => ?_)
  refine wpC_region ?_
  refine wpS_quick 2 rfl ?_
  refine wpS_nil ?_
  refine QH_seq_k hK9 ?_
  refine wpC_ret ?_
  refine QH_ret rfl (RV.tmp rfl RV.nil) rfl ?_
  obtain rfl := Option.some.inj H
  replace hS := hS.cut 0
  exact ⟨rfl, hS⟩
theorem c_ref22_Newer (x0 : Co) (x1 : Int) (x2 : Int) (A0_ : Option Addr) (c0_ : Nat) (A1_ : Option Addr) (c1_ : Nat) (A2_ : Option Addr) (c2_ : Nat) (A3_ : Option Addr) (c3_ : Nat) (A4_ : Option Addr) (c4_ : Nat) (w0 : World) (s0_ : SlI w0 enE A0_ c0_ x0.tuple.log) (s1_ : SlI w0 enO A1_ c1_ x0.votes) (s2_ : SlI w0 enI A2_ c2_ x0.next) (s3_ : SlI w0 enI A3_ c3_ x0.mtch) (s4_ : SlI w0 enI A4_ c4_ x0.caps) {r : Bool} (H : m_ref22_Newer x0 x1 x2 = some r) : Calls Try.prog 21 #[.agg #[.int .i64 x0.id, .int .i64 x0.n, .int .u8 x0.role, .int .i64 x0.binary, .int .i64 x0.tuple.snap.index, .int .i64 x0.tuple.snap.term, .int .i64 x0.tuple.snap.sum, .int .i64 x0.tuple.snap.level, .bool x0.tuple.snap.final, .slice A0_ x0.tuple.log.length c0_, .int .i64 x0.tuple.term, .int .i64 x0.tuple.vote, .int .i64 x0.commit, .int .i64 x0.applied.index, .int .i64 x0.applied.term, .int .i64 x0.applied.sum, .int .i64 x0.applied.level, .bool x0.applied.final, .slice A1_ x0.votes.length c1_, .slice A2_ x0.next.length c2_, .slice A3_ x0.mtch.length c3_, .slice A4_ x0.caps.length c4_], .int .i64 x1, .int .i64 x2] w0 fun e w' => e = .returned (.bool r) ∧ St0 All w0 w' [] := by
  unfold m_ref22_Newer at H
  refine gw_enter3 Try.func21 rfl Try.ntmps21 rfl ?_
  have hS := St0.start All w0
  refine wpC_seq_k (fun K hK1 => ?_)
  refine wpC_region ?_
  refine wpS_box rfl rfl rfl CellsOf.agg hS (fun b2 w hS hB => ?_)
  refine wpS_quick 1 rfl ?_
  refine wpS_nil ?_
  refine QH_seq_k hK1 ?_
  refine wpC_seq_k (fun K hK4 => ?_)
  refine wpC_seq_k (fun K hK5 => ?_)
  refine wpC_region ?_
  refine wpS_put rfl rfl rfl (yv_load_boxA ag_30 rfl (RW.here _) hS hs0 trivial sg0_22) ?_
  obtain ⟨r6, hm7, H⟩ := bind_some H
  refine wpS_call rfl rfl rfl rfl (by kernel_rfl) rfl (c_ref20_Right x0 A0_ c0_ A1_ c1_ A2_ c2_ A3_ c3_ A4_ c4_ _ (SlI.of_rd s0_.k (hS.rd0 s0_.rd) (hS.blk0 s0_.blk)) (SlI.of_rd s1_.k (hS.rd0 s1_.rd) (hS.blk0 s1_.blk)) (SlI.of_rd s2_.k (hS.rd0 s2_.rd) (hS.blk0 s2_.blk)) (SlI.of_rd s3_.k (hS.rd0 s3_.rd) (hS.blk0 s3_.blk)) (SlI.of_rd s4_.k (hS.rd0 s4_.rd) (hS.blk0 s4_.blk)) hm7) ?_
  rintro e w ⟨rfl, hN⟩; refine ⟨_, rfl, ?_⟩; have hB := hN.pure; have hS := hS.join hN; clear hN
  refine wpS_put rfl rfl rfl (yv_not rfl) ?_
  refine wpS_nil ?_
  refine QH_seq_k hK5 ?_
  refine wpC_cond rfl (fun hb => ?_) (fun hb => ?_)
  · replace H := cond_t H hb
    refine wpC_seq_k (fun K hK8 => ?_)
    refine wpC_region ?_
    refine wpS_quick 1 rfl ?_
    refine wpS_nil ?_
    refine QH_seq_k hK8 ?_
    refine wpC_ret ?_
    refine QH_then_ret ?_
    refine QH_ret rfl (RV.tmp rfl RV.nil) rfl ?_
    obtain rfl := Option.some.inj H
    replace hS := hS.cut 0
    exact ⟨rfl, hS⟩
  replace H := cond_f H hb
  refine wpC_skip ?_
  refine QH_seq_k hK4 ?_
  refine wpC_seq_k (fun K hK9 => ?_)
  refine wpC_region ?_
  refine wpS_put rfl rfl rfl (yv_load_boxA ag_30 rfl (RW.here _) hS hs0 trivial sg0_22) ?_
  obtain ⟨r10, hm11, H⟩ := bind_some H
  refine wpS_call rfl rfl rfl rfl (by kernel_rfl) rfl (c_ref22_lastTerm x0 A0_ c0_ A1_ c1_ A2_ c2_ A3_ c3_ A4_ c4_ _ (SlI.of_rd s0_.k (hS.rd0 s0_.rd) (hS.blk0 s0_.blk)) (SlI.of_rd s1_.k (hS.rd0 s1_.rd) (hS.blk0 s1_.blk)) (SlI.of_rd s2_.k (hS.rd0 s2_.rd) (hS.blk0 s2_.blk)) (SlI.of_rd s3_.k (hS.rd0 s3_.rd) (hS.blk0 s3_.blk)) (SlI.of_rd s4_.k (hS.rd0 s4_.rd) (hS.blk0 s4_.blk)) hm11) ?_
  rintro e w ⟨rfl, hN⟩; refine ⟨_, rfl, ?_⟩; have hB := hN.pure; have hS := hS.join hN; clear hN
  refine wpS_quick 1 rfl ?_
  refine wpS_nil ?_
  refine QH_seq_k hK9 ?_
  refine wpC_seq_k (fun K hK12 => ?_)
  refine wpC_region ?_
  refine wpS_quick 2 rfl ?_
  refine wpS_put rfl rfl rfl (yv_gtr rfl rfl) ?_
  refine wpS_quick 1 rfl ?_
  refine wpS_case 16 rfl (fun hb => ?_) (fun hb => ?_)
  · replace H := cond_t H hb
    refine wpS_quick 12 rfl ?_
    refine wpS_nil ?_
    refine QH_seq_k hK12 ?_
    refine wpC_ret ?_
    refine QH_ret rfl (RV.tmp rfl RV.nil) rfl ?_
    obtain rfl := Option.some.inj H
    replace hS := hS.cut 0
    exact ⟨rfl, hS⟩
  replace H := cond_f H hb
  refine wpS_quick 2 rfl ?_
  refine wpS_put rfl rfl rfl (yv_eql rfl rfl) ?_
  refine wpS_quick 1 rfl ?_
  refine wpS_case 20 rfl (fun hb => ?_) (fun hb => ?_)
  rotate_left
  · replace H := cond_f H hb
    refine wpS_quick 8 rfl ?_
    refine wpS_nil ?_
    refine QH_seq_k hK12 ?_
    refine wpC_ret ?_
    refine QH_ret rfl (RV.tmp rfl RV.nil) rfl ?_
    obtain rfl := Option.some.inj H
    replace hS := hS.cut 0
    exact ⟨rfl, hS⟩
  replace H := cond_t H hb
  refine wpS_quick 1 rfl ?_
  refine wpS_put rfl rfl rfl (yv_fieldAddr fo_30_4 rfl) ?_
  refine wpS_put rfl rfl rfl (yv_load_boxA ag_26 rfl (RW.here _) hS hs0 trivial sg4_8) ?_
  obtain ⟨r13, hm14, H⟩ := bind_some H
  refine wpS_call rfl rfl rfl rfl (by kernel_rfl) rfl (c_ref12_Last x0.tuple A0_ c0_ _ (SlI.of_rd s0_.k (hS.rd0 s0_.rd) (hS.blk0 s0_.blk)) hm14) ?_
  rintro e w ⟨rfl, hN⟩; refine ⟨_, rfl, ?_⟩; have hB := hN.pure; have hS := hS.join hN; clear hN
  refine wpS_put rfl rfl rfl (yv_geq rfl rfl) ?_
  refine wpS_quick 3 rfl ?_
  refine wpS_nil ?_
  refine QH_seq_k hK12 ?_
  refine wpC_ret ?_
  refine QH_ret rfl (RV.tmp rfl RV.nil) rfl ?_
  obtain rfl := Option.some.inj H
  replace hS := hS.cut 0
  exact ⟨rfl, hS⟩
end Go.Proofs.Ytamjlcaoieliaaa
/- The printed texts of this seat. -/
/- Tuples' changes, as plain numbers: what the laws of layer 12 ask. -/
namespace Go.Proofs.Ytamjlcaoieliaaa
open Go Go.RowKit
set_option maxRecDepth 100000

/-- Up to an index terms are no greater than at the end. -/
theorem lastT_mono (t : Int) (l : List En) (h : logB t l = true) : t ≤ lastT t l := by
  induction l generalizing t with
  | nil => exact Int.le_refl _
  | cons e l ih =>
    simp only [logB, Bool.and_eq_true, decide_eq_true_eq] at h
    exact Int.le_trans h.1.2 (ih _ h.2)
theorem tupB_iff (t : Tu) : tupB t = true ↔ FineP t.snap ∧ (t.snap.index ≤ 1073740824 ∧ t.log.length ≤ 200 ∧ 0 ≤ t.vote ∧ t.vote ≤ 5 ∧ t.term ≤ 1073741824) ∧ logB t.snap.term t.log = true ∧ lastT t.snap.term t.log ≤ t.term := by
  unfold tupB
  simp only [Bool.and_eq_true, decide_eq_true_eq, fineB_iff, and_assoc]
theorem chg_yes (x y : Tu) (res : Option Tu) (hx : tupB x = true) (h : res = some y) (hy : tupB y = true) : chgS x res = y ∧ chgE x res = 0 := by
  have : doneB x res = some y := by unfold doneB; rw [if_pos hx, h]; exact if_pos hy
  unfold chgS chgE
  rw [this]
  exact ⟨rfl, rfl⟩
theorem termAt_log (x : Tu) (k : Nat) (hk : k ≤ x.log.length) : termAt x (x.snap.index + k) = some (lastT x.snap.term (x.log.take k)) := by
  unfold termAt Tu.last
  cases k with
  | zero => rw [if_pos (by simp)]; rfl
  | succ k =>
    rw [if_neg (by omega), if_pos (by omega)]
    have : (x.snap.index + ((k + 1 : Nat) : Int) - x.snap.index - 1).toNat = k := by omega
    rw [this, List.getElem?_eq_getElem (by omega), List.take_add_one, List.getElem?_eq_getElem (by omega)]
    show _ = some (lastT _ (_ ++ [x.log[k]]))
    rw [lastT_snoc]; rfl
end Go.Proofs.Ytamjlcaoieliaaa
/- What the references of entries and tuples compute, in plain terms. -/
namespace Go.Proofs.Ytamjlcaoieliaaa
open Go Go.RowKit
set_option maxRecDepth 100000
theorem p_number (x : Int) : m_ref06_number x = some (numB x) := by
  unfold m_ref06_number numB
  by_cases h : 0 ≤ x <;> simp [h]
theorem p_Fine (x : St) : m_ref06_Fine x = some (fineB x) := by
  obtain ⟨i, t, s, l, f⟩ := x
  simp only [m_ref06_Fine, m_ref06_First, p_number, Option.bind_some, fineB, firstS, numB, St.mk.injEq, Bool.cond_not, Bool.cond_decide]
  cases f <;> (repeat' split) <;> simp_all <;> omega
theorem p_Right (x : En) : m_ref06_Right x = some (rightB x) := by
  obtain ⟨t, k, v⟩ := x
  simp only [m_ref06_Right, p_number, Option.bind_some, rightB, numB, Bool.cond_not, Bool.cond_decide]
  (repeat' split) <;> (refine congrArg some ?_; rw [Bool.eq_iff_iff]; simp only [decide_eq_true_eq, true_iff, Bool.false_eq_true, false_iff]; omega)
theorem p_Right12_l1 (x : Tu) (hl : x.log.length ≤ 1000000) : ∀ (m k n : Nat) (b : Bool) (t : Int), m = x.log.length - k → k ≤ x.log.length → m < n →
    m_ref12_Right_l1 x n b t k = some (logB t (x.log.drop k) && decide (lastT t (x.log.drop k) ≤ x.term ∧ 0 ≤ x.term ∧ x.term ≤ 1073741824)) := by
  intro m
  induction m with
  | zero =>
    intro k n b t hm hk hn
    obtain ⟨n, rfl⟩ : ∃ n', n = n' + 1 := ⟨n - 1, by omega⟩
    have hkl : k = x.log.length := by omega
    have hd : x.log.drop k = [] := List.drop_eq_nil_of_le (by omega)
    rw [m_ref12_Right_l1, hd]
    simp only [logB, Bool.cond_decide, if_neg (show ¬ ((k : Int) < (x.log.length : Int)) by omega), Bool.true_and]
    (repeat' split) <;> (refine congrArg some ?_; rw [Bool.eq_iff_iff]; simp only [decide_eq_true_eq, true_iff, Bool.false_eq_true, false_iff]; simp only [lastT]; omega)
  | succ m ih =>
    intro k n b t hm hk hn
    obtain ⟨n, rfl⟩ : ∃ n', n = n' + 1 := ⟨n - 1, by omega⟩
    obtain ⟨e, he, hd⟩ := drop_step (show k < x.log.length by omega)
    have hi := ih (k + 1) n b e.term (by omega) (by omega) (by omega)
    rw [m_ref12_Right_l1, hd]
    simp only [Bool.cond_decide, if_pos (show ((k : Int) < (x.log.length : Int)) by omega), idx_nat, he, Option.bind_some, p_Right, Bool.cond_not, logB, lastT]
    rw [w64i (by omega), show ((k : Int) + 1) = ((k + 1 : Nat) : Int) by omega, hi]
    cases hr : rightB e with
    | false => rfl
    | true =>
      simp only [cond_true, Bool.true_and]
      by_cases h : e.term < t
      · rw [if_pos h, decide_eq_false (show ¬ (t ≤ e.term) by omega)]; rfl
      · rw [if_neg h, decide_eq_true (show t ≤ e.term by omega)]; rfl
theorem p_Right12 (x : Tu) : m_ref12_Right x = some (tupB x) := by
  have key : tupB x = (fineB x.snap && decide (x.snap.index ≤ 1073740824 ∧ x.log.length ≤ 200 ∧ 0 ≤ x.vote ∧ x.vote ≤ 5) && (logB x.snap.term x.log && decide (lastT x.snap.term x.log ≤ x.term ∧ 0 ≤ x.term ∧ x.term ≤ 1073741824))) := by
    rw [Bool.eq_iff_iff]
    unfold tupB
    simp only [Bool.and_eq_true, decide_eq_true_eq]
    constructor
    · rintro ⟨⟨⟨h1, h2⟩, h3⟩, h4⟩
      have h5 := lastT_mono _ _ h3
      have h6 : 0 ≤ x.snap.term := by
        rcases (fineB_iff _).1 h1 with h | h
        · rw [h]; decide
        · omega
      exact ⟨⟨h1, by omega⟩, h3, by omega⟩
    · rintro ⟨⟨h1, h2⟩, h3, h4⟩
      exact ⟨⟨⟨h1, by omega⟩, h3⟩, by omega⟩
  rw [key]
  simp only [m_ref12_Right, p_Fine, Option.bind_some, Bool.cond_not, Bool.cond_decide]
  cases hf : fineB x.snap with
  | false => rfl
  | true =>
    simp only [cond_true, Bool.true_and]
    by_cases h1 : x.snap.index ≤ 1073740824 ∧ x.log.length ≤ 200 ∧ 0 ≤ x.vote ∧ x.vote ≤ 5
    · rw [if_neg (by omega), if_neg (by omega), if_neg (by omega), if_neg (by omega), decide_eq_true h1, Bool.true_and]
      have := p_Right12_l1 x (by omega) x.log.length 0 fuelN false x.snap.term (by omega) (by omega) (by unfold fuelN; omega)
      exact this
    · rw [decide_eq_false h1, Bool.false_and]
      (repeat' split) <;> first | rfl | (exfalso; omega)
theorem p_Same_l1 (a b : List En) (hl : a.length ≤ 1000000) (hab : a.length = b.length) : ∀ (m k n : Nat) (v : Bool), m = a.length - k → k ≤ a.length → m < n → m_ref06_Same_l1 a b n v k = some (decide (a.drop k = b.drop k)) := by
  intro m
  induction m with
  | zero =>
    intro k n v hm hk hn
    obtain ⟨n, rfl⟩ : ∃ n', n = n' + 1 := ⟨n - 1, by omega⟩
    rw [m_ref06_Same_l1, List.drop_eq_nil_of_le (by omega), List.drop_eq_nil_of_le (by omega)]
    simp only [Bool.cond_decide, if_neg (show ¬ ((k : Int) < (a.length : Int)) by omega)]
    rfl
  | succ m ih =>
    intro k n v hm hk hn
    obtain ⟨n, rfl⟩ : ∃ n', n = n' + 1 := ⟨n - 1, by omega⟩
    obtain ⟨e, he, hd⟩ := drop_step (show k < a.length by omega)
    obtain ⟨f, hf, hd2⟩ := drop_step (show k < b.length by omega)
    rw [m_ref06_Same_l1, hd, hd2]
    simp only [Bool.cond_decide, if_pos (show ((k : Int) < (a.length : Int)) by omega), idx_nat, he, hf, Option.bind_some, en_eq, Bool.cond_not]
    rw [w64i (by omega), show ((k : Int) + 1) = ((k + 1 : Nat) : Int) by omega, ih (k + 1) n v (by omega) (by omega) (by omega)]
    by_cases h : e = f
    · subst h; rw [if_pos rfl]; congr 1; rw [Bool.eq_iff_iff]; simp
    · rw [if_neg h]; congr 1; rw [Bool.eq_iff_iff]; simp [h]
theorem p_Same (a b : List En) (hl : a.length ≤ 1000000) : m_ref06_Same a b = some (decide (a = b)) := by
  unfold m_ref06_Same
  by_cases h : a.length = b.length
  · simp only [Bool.cond_decide, if_neg (show ¬ ((a.length : Int) ≠ (b.length : Int)) by omega)]
    have := p_Same_l1 a b hl h a.length 0 fuelN false (by omega) (by omega) (by unfold fuelN; omega)
    simpa using this
  · simp only [Bool.cond_decide, if_pos (show ((a.length : Int) ≠ (b.length : Int)) by omega)]
    rw [decide_eq_false (fun h' => h (by rw [h']))]
theorem p_Same12 (x y : Tu) (hl : x.log.length ≤ 1000000) : m_ref12_Same x y = some (decide (x = y)) := by
  obtain ⟨s, l, t, v⟩ := x; obtain ⟨s2, l2, t2, v2⟩ := y
  simp only [m_ref12_Same, snap_eq, p_Same l l2 hl, Option.bind_some, Bool.cond_decide, Tu.mk.injEq]
  by_cases h1 : s = s2 <;> by_cases h2 : t = t2 <;> by_cases h3 : v = v2 <;> simp [h1, h2, h3]
def bdT (x : Tu) : Prop := x.log.length ≤ 1000000 ∧ -2000000000000 ≤ x.snap.index ∧ x.snap.index ≤ 2000000000000
theorem q_Right (x : Tu) (h : bdT x) : m_tuple_Right x = some (tupB x) := by unfold m_tuple_Right; rw [okT_iff.2 h]; rfl
theorem q_State_yes (x : Tu) (k : Nat) (h : bdT x) (hk : k ≤ x.log.length) : m_tuple_State x (x.snap.index + k) = some (allS x.snap (x.log.take k), true) := by
  unfold m_tuple_State
  rw [okT_iff.2 h, decide_eq_true (by omega)]
  have : (x.snap.index + (k : Int) - x.snap.index).toNat = k := by omega
  rw [this]; rfl
theorem q_State_no (x : Tu) (i : Int) (h : bdT x) (hi : i < x.snap.index ∨ x.snap.index + x.log.length < i) : m_tuple_State x i = some (⟨0, 0, 0, 0, false⟩, false) := by
  unfold m_tuple_State
  rw [okT_iff.2 h, decide_eq_false (by omega)]; rfl
theorem p_tLast (x : Tu) (h : bdT x) : m_tuple_Last x = some x.last := by unfold m_tuple_Last Tu.last; obtain ⟨h1, h2, h3⟩ := h; rw [w64i (by omega)]
theorem p_Last12 (x : Tu) (h : bdT x) : m_ref12_Last x = some x.last := p_tLast x h
theorem p_Next (s : St) (e : En) : m_ref06_Next s e = some (nextS s e) := by
  simp only [m_ref06_Next, p_Right, p_Fine, Option.bind_some]
  by_cases hc : rightB e = true ∧ fineB s = true ∧ s.index < 1073741824
  · obtain ⟨hr, hf, hi⟩ := hc
    have hn : nextS s e = deedS e.kind e.value { s with index := s.index + 1, term := e.term } := by unfold nextS; rw [if_pos ⟨hr, hf, hi⟩]
    have hb : 0 ≤ s.index ∧ 0 ≤ s.sum ∧ s.sum ≤ 1073741824 := by
      rcases (fineB_iff s).1 hf with h | h
      · rw [h]; decide
      · omega
    have hv : 0 ≤ e.value ∧ e.value ≤ 1073741824 := by
      unfold rightB at hr; simp only [decide_eq_true_eq] at hr; omega
    have w0 : IntKind.wrap .i64 (s.index + 1) = s.index + 1 := w64i (by omega)
    have w1 : IntKind.wrap .i64 (31 * s.sum) = 31 * s.sum := w64i (by omega)
    have w2 : IntKind.wrap .i64 (31 * s.sum + e.value) = 31 * s.sum + e.value := w64i (by omega)
    have w3 : IntKind.wrap .i64 (31 * s.sum + e.value + 1) = 31 * s.sum + e.value + 1 := w64i (by omega)
    rw [hn, hr, hf, w0, w1, w2, w3, Int.tmod_eq_emod_of_nonneg (by omega), decide_eq_false (show ¬ (1073741824 ≤ s.index) by omega)]
    simp only [Bool.not_true, cond_false, Bool.cond_decide]
    unfold deedS
    by_cases k1 : e.kind = 1
    · rw [if_pos k1, if_pos k1]
    · rw [if_neg k1, if_neg k1]
      by_cases k2 : e.kind = 2
      · rw [if_pos k2, if_pos k2]
      · rw [if_neg k2, if_neg k2]
        by_cases k3 : e.kind = 3
        · rw [if_pos k3, if_pos k3]
          cases hF : s.final <;> rfl
        · rw [if_neg k3, if_neg k3]
          by_cases k4 : e.kind = 4
          · rw [if_pos k4, if_pos k4]
          · rw [if_neg k4, if_neg k4]
  · have hn : nextS s e = s := by unfold nextS; rw [if_neg hc]
    rw [hn]
    cases hr : rightB e with
    | false => rfl
    | true =>
      cases hf : fineB s with
      | false => rfl
      | true =>
        rw [decide_eq_true (show 1073741824 ≤ s.index by
          have : ¬ (s.index < 1073741824) := fun h => hc ⟨hr, hf, h⟩
          omega)]
        rfl
theorem p_All_l1 (l : List En) (hl : l.length ≤ 1000000) : ∀ (m k n : Nat) (s : St), m = l.length - k → k ≤ l.length → m < n → m_ref06_All_l1 l n k s.index s.term s.sum s.level s.final = some (allS s (l.drop k)) := by
  intro m
  induction m with
  | zero =>
    intro k n s hm hk hn
    obtain ⟨n, rfl⟩ : ∃ n', n = n' + 1 := ⟨n - 1, by omega⟩
    rw [m_ref06_All_l1, List.drop_eq_nil_of_le (by omega)]
    simp only [Bool.cond_decide, if_neg (show ¬ ((k : Int) < (l.length : Int)) by omega)]
    rfl
  | succ m ih =>
    intro k n s hm hk hn
    obtain ⟨n, rfl⟩ : ∃ n', n = n' + 1 := ⟨n - 1, by omega⟩
    obtain ⟨e, he, hd⟩ := drop_step (show k < l.length by omega)
    rw [m_ref06_All_l1, hd]
    simp only [Bool.cond_decide, if_pos (show ((k : Int) < (l.length : Int)) by omega), idx_nat, he, Option.bind_some]
    have : m_ref06_Next ⟨s.index, s.term, s.sum, s.level, s.final⟩ e = some (nextS s e) := p_Next s e
    rw [this, Option.bind_some, w64i (by omega), show ((k : Int) + 1) = ((k + 1 : Nat) : Int) by omega, ih (k + 1) n (nextS s e) (by omega) (by omega) (by omega)]
    rfl
theorem p_All (s : St) (l : List En) (hl : l.length ≤ 1000000) : m_ref06_All s l = some (allS s l) := p_All_l1 l hl l.length 0 fuelN s (by omega) (by omega) (by unfold fuelN; omega)
theorem p_State12 (x : Tu) (i : Int) (h : bdT x) : m_ref12_State x i = m_tuple_State x i := by
  have h1 := h.1
  have h2 := h.2
  unfold m_ref12_State
  rw [p_Last12 x h]
  simp only [Option.bind_some, Bool.cond_decide, Tu.last]
  by_cases h3 : i < x.snap.index
  · rw [if_pos h3, q_State_no x i h (.inl h3)]
  · rw [if_neg h3]
    by_cases h4 : x.snap.index + (x.log.length : Int) < i
    · rw [if_pos h4, q_State_no x i h (.inr h4)]
    · rw [if_neg h4]
      obtain ⟨k, hk⟩ : ∃ k : Nat, i = x.snap.index + (k : Int) := ⟨(i - x.snap.index).toNat, by omega⟩
      have w1 : IntKind.wrap .i64 (i - x.snap.index) = (k : Int) := by rw [w64i (by omega)]; omega
      rw [w1, takeI_nat _ _ (by omega), Option.bind_some, p_All _ _ (by rw [List.length_take]; omega), hk, q_State_yes x k h (by omega)]
      rfl
end Go.Proofs.Ytamjlcaoieliaaa
/- Cores and messages, in plain terms. -/
namespace Go.Proofs.Ytamjlcaoieliaaa
open Go Go.RowKit
set_option maxRecDepth 100000
/-- A sentence as a truth value. -/
noncomputable def cdec (p : Prop) : Bool := @decide p (Classical.propDecidable p)
theorem cdec_t {p : Prop} (h : p) : cdec p = true := @decide_eq_true p (Classical.propDecidable p) h
theorem cdec_f {p : Prop} (h : ¬ p) : cdec p = false := @decide_eq_false p (Classical.propDecidable p) h
theorem cdec_congr {p q : Prop} (h : p ↔ q) : cdec p = cdec q := by rw [propext h]
theorem dec_cdec {p : Prop} [Decidable p] : decide p = cdec p := by
  by_cases h : p
  · rw [cdec_t h, decide_eq_true h]
  · rw [cdec_f h, decide_eq_false h]
def InB (l : List Int) (lo hi : Int) : Prop := ∀ x ∈ l, lo ≤ x ∧ x ≤ hi
theorem InB_nil {lo hi : Int} : InB [] lo hi := fun _ h => by cases h
theorem InB_cons {x : Int} {l : List Int} {lo hi : Int} : InB (x :: l) lo hi ↔ (lo ≤ x ∧ x ≤ hi) ∧ InB l lo hi := by
  unfold InB
  constructor
  · intro h; exact ⟨h x (by simp), fun y hy => h y (by simp [hy])⟩
  · rintro ⟨h1, h2⟩ y hy
    rcases List.mem_cons.1 hy with rfl | hy
    · exact h1
    · exact h2 y hy
theorem InB.get {l : List Int} {lo hi : Int} (h : InB l lo hi) {i : Nat} {x : Int} (hx : l[i]? = some x) : lo ≤ x ∧ x ≤ hi := h x (List.mem_of_getElem? hx)
theorem InB.set {l : List Int} {lo hi : Int} (h : InB l lo hi) {i : Nat} {x : Int} (hx : lo ≤ x ∧ x ≤ hi) : InB (l.set i x) lo hi := fun y hy => by
  rcases List.mem_or_eq_of_mem_set hy with h1 | rfl
  · exact h y h1
  · exact hx
theorem p_within (x lo hi : Int) : m_msg_within x lo hi = some (cdec (lo ≤ x ∧ x ≤ hi)) := by
  unfold m_msg_within
  rw [Bool.cond_decide]
  by_cases h : lo ≤ x
  · rw [if_pos h, dec_cdec]; congr 1; exact cdec_congr ⟨fun h2 => ⟨h, h2⟩, fun h2 => h2.2⟩
  · rw [if_neg h, cdec_f (fun h2 => h h2.1)]
theorem p_each_l1 (l : List Int) (lo hi : Int) (hl : l.length ≤ 1000000) : ∀ (m k n : Nat) (v : Int), m = l.length - k → k ≤ l.length → m < n → m_msg_each_l1 l lo hi n v k = some (cdec (InB (l.drop k) lo hi)) := by
  intro m
  induction m with
  | zero =>
    intro k n v hm hk hn
    obtain ⟨n, rfl⟩ : ∃ n', n = n' + 1 := ⟨n - 1, by omega⟩
    rw [m_msg_each_l1, List.drop_eq_nil_of_le (by omega), cdec_t InB_nil]
    simp only [Bool.cond_decide, if_neg (show ¬ ((k : Int) < (l.length : Int)) by omega)]
    rfl
  | succ m ih =>
    intro k n v hm hk hn
    obtain ⟨n, rfl⟩ : ∃ n', n = n' + 1 := ⟨n - 1, by omega⟩
    obtain ⟨e, he, hd⟩ := drop_step (show k < l.length by omega)
    rw [m_msg_each_l1, hd]
    simp only [Bool.cond_decide, if_pos (show ((k : Int) < (l.length : Int)) by omega), idx_nat, he, Option.bind_some, p_within]
    rw [w64i (by omega), show ((k : Int) + 1) = ((k + 1 : Nat) : Int) by omega, ih (k + 1) n v (by omega) (by omega) (by omega)]
    by_cases h : lo ≤ e ∧ e ≤ hi
    · rw [cdec_t h]; show some _ = _; congr 1; exact cdec_congr ⟨fun h2 => InB_cons.2 ⟨h, h2⟩, fun h2 => (InB_cons.1 h2).2⟩
    · rw [cdec_f h, cdec_f (fun h2 => h (InB_cons.1 h2).1), decide_eq_true (show (0 : Int) ≤ (k : Int) by omega)]; rfl
theorem p_each (l : List Int) (n lo hi : Int) (hl : l.length ≤ 1000000) : m_msg_each l n lo hi = some (cdec ((l.length : Int) = n ∧ InB l lo hi)) := by
  unfold m_msg_each
  rw [Bool.cond_decide]
  by_cases h : (l.length : Int) = n
  · rw [if_pos h]
    have := p_each_l1 l lo hi hl l.length 0 fuelN 0 (by omega) (by omega) (by unfold fuelN; omega)
    rw [show ((0 : Nat) : Int) = 0 from rfl] at this
    rw [this, List.drop_zero]
    congr 1; exact cdec_congr ⟨fun h2 => ⟨h, h2⟩, fun h2 => h2.2⟩
  · rw [if_neg h, cdec_f (fun h2 => h h2.1)]
theorem p_eRight (e : En) : m_entry_Right e = some (rightB e) := rfl
/-- The state at an index. -/
def stOf (t : Tu) (i : Int) : Option St := if t.snap.index ≤ i ∧ i ≤ t.last then some (allS t.snap (t.log.take (i - t.snap.index).toNat)) else none
theorem q_State (x : Tu) (i : Int) (h : bdT x) : m_tuple_State x i = some ((stOf x i).getD ⟨0, 0, 0, 0, false⟩, (stOf x i).isSome) := by
  unfold stOf Tu.last
  by_cases hi : x.snap.index ≤ i ∧ i ≤ x.snap.index + x.log.length
  · rw [if_pos hi]
    obtain ⟨k, hk⟩ : ∃ k : Nat, i = x.snap.index + (k : Int) := ⟨(i - x.snap.index).toNat, by omega⟩
    rw [hk, q_State_yes x k h (by omega), show (x.snap.index + (k : Int) - x.snap.index).toNat = k by omega]
    rfl
  · rw [if_neg hi, q_State_no x i h (by omega)]; rfl
/-- A core that may be. -/
structure RightC (x : Co) : Prop where
  n : 1 ≤ x.n ∧ x.n ≤ 5
  id : 1 ≤ x.id ∧ x.id ≤ x.n
  role : x.role ≤ 2
  bin : 1 ≤ x.binary ∧ x.binary ≤ 2
  tup : tupB x.tuple = true
  st : stOf x.tuple x.commit = some x.applied
  lv : (x.votes.length : Int) = x.n
  ln : (x.next.length : Int) = x.n
  lm : (x.mtch.length : Int) = x.n
  lc : (x.caps.length : Int) = x.n
  next : InB x.next 1 (x.tuple.last + 1)
  mtch : InB x.mtch 0 x.tuple.last
  caps : InB x.caps 0 2
  own : x.caps[(x.id - 1).toNat]? = some x.binary
  lead : x.role = 0 ∨ (0 < x.tuple.term ∧ x.tuple.vote = x.id)
noncomputable def rightC (x : Co) : Bool := cdec (RightC x)
/-- A core that is not too great. -/
structure BdC (x : Co) : Prop where
  tup : bdT x.tuple
  lv : x.votes.length ≤ 1000000
  ln : x.next.length ≤ 1000000
  lm : x.mtch.length ≤ 1000000
  lc : x.caps.length ≤ 1000000
theorem own_get (x : Co) (h1 : 1 ≤ x.n ∧ x.n ≤ 5) (h2 : 1 ≤ x.id ∧ x.id ≤ x.n) (h3 : (x.caps.length : Int) = x.n) : ∃ e, idx x.caps (IntKind.wrap .i64 (x.id - 1)) = some e ∧ x.caps[(x.id - 1).toNat]? = some e := by
  have hw : IntKind.wrap .i64 (x.id - 1) = (((x.id - 1).toNat : Nat) : Int) := by rw [w64i (by omega)]; omega
  obtain ⟨e, he, _⟩ := drop_step (show (x.id - 1).toNat < x.caps.length by omega)
  exact ⟨e, by rw [hw, idx_nat, he], he⟩
theorem last_bd {t : Tu} (h : bdT t) : -3000000000000 ≤ t.last ∧ t.last ≤ 3000000000000 := by
  obtain ⟨h1, h2, h3⟩ := h
  unfold Tu.last; omega
theorem p_mRight (x : Co) (h : BdC x) : m_msg_Right x = some (rightC x) := by
  have hlb := last_bd h.tup
  have hw : IntKind.wrap .i64 (x.tuple.last + 1) = x.tuple.last + 1 := w64i (by omega)
  simp only [m_msg_Right, p_tLast x.tuple h.tup, p_within, q_Right x.tuple h.tup, q_State x.tuple x.commit h.tup, p_each x.next _ _ _ h.ln, p_each x.mtch _ _ _ h.lm, p_each x.caps _ _ _ h.lc, Option.bind_some, hw, snap_eq]
  unfold rightC
  by_cases c1 : 1 ≤ x.n ∧ x.n ≤ 5
  case neg => rw [cdec_f c1, cdec_f (p := RightC x) fun h => c1 h.n]; rfl
  by_cases c2 : 1 ≤ x.id ∧ x.id ≤ x.n
  case neg => rw [cdec_t c1, cdec_f c2, cdec_f (p := RightC x) fun h => c2 h.id]; rfl
  by_cases c3 : x.role ≤ 2
  case neg => rw [cdec_t c1, cdec_t c2, decide_eq_false c3, cdec_f (p := RightC x) fun h => c3 h.role]; rfl
  by_cases c4 : 1 ≤ x.binary ∧ x.binary ≤ 2
  case neg => rw [cdec_t c1, cdec_t c2, decide_eq_true c3, cdec_f c4, cdec_f (p := RightC x) fun h => c4 h.bin]; rfl
  rw [cdec_t c1, cdec_t c2, decide_eq_true c3, cdec_t c4]
  simp only [cond_true, Bool.not_true, cond_false]
  cases c5 : tupB x.tuple
  case false => rw [cdec_f (p := RightC x) fun h => by have h2 := h.tup; rw [c5] at h2; cases h2]; rfl
  simp only [cond_true, Bool.not_true, cond_false]
  cases c6 : stOf x.tuple x.commit with
  | none => rw [cdec_f (p := RightC x) fun h => by rw [h.st] at c6; cases c6]; rfl
  | some s =>
    simp only [Option.isSome_some, Option.getD_some, cond_true]
    by_cases c7 : s = x.applied
    case neg => rw [decide_eq_false c7, cdec_f (p := RightC x) fun h => c7 (by have := h.st; rw [c6] at this; exact Option.some.inj this)]; rfl
    rw [decide_eq_true c7]
    simp only [cond_true, Bool.not_true, cond_false]
    by_cases c8 : (x.votes.length : Int) = x.n
    case neg => rw [decide_eq_false c8, cdec_f (p := RightC x) fun h => c8 h.lv]; rfl
    by_cases c9 : (x.next.length : Int) = x.n ∧ InB x.next 1 (x.tuple.last + 1)
    case neg => rw [decide_eq_true c8, cdec_f c9, cdec_f (p := RightC x) fun h => c9 ⟨h.ln, h.next⟩]; rfl
    by_cases c10 : (x.mtch.length : Int) = x.n ∧ InB x.mtch 0 x.tuple.last
    case neg => rw [decide_eq_true c8, cdec_t c9, cdec_f c10, cdec_f (p := RightC x) fun h => c10 ⟨h.lm, h.mtch⟩]; rfl
    by_cases c11 : (x.caps.length : Int) = x.n ∧ InB x.caps 0 2
    case neg => rw [decide_eq_true c8, cdec_t c9, cdec_t c10, cdec_f c11, cdec_f (p := RightC x) fun h => c11 ⟨h.lc, h.caps⟩]; rfl
    rw [decide_eq_true c8, cdec_t c9, cdec_t c10, cdec_t c11]
    obtain ⟨e, he, he2⟩ := own_get x c1 c2 c11.1
    simp only [cond_true, Bool.not_true, cond_false, Option.bind_some, he]
    by_cases c12 : e = x.binary
    case neg => rw [decide_eq_false c12, cdec_f (p := RightC x) fun h => c12 (by have := h.own; rw [he2] at this; exact Option.some.inj this)]; rfl
    rw [decide_eq_true c12]
    simp only [cond_true, Bool.not_true, cond_false, Bool.cond_decide]
    subst c12
    subst c7
    by_cases c13 : x.role = 0
    · rw [if_pos c13, cdec_t (p := RightC x) ⟨c1, c2, c3, c4, c5, c6, c8, c9.1, c10.1, c11.1, c9.2, c10.2, c11.2, he2, .inl c13⟩]
    · rw [if_neg c13]
      by_cases c14 : 0 < x.tuple.term
      · rw [if_pos c14]
        by_cases c15 : x.tuple.vote = x.id
        · rw [decide_eq_true c15, cdec_t (p := RightC x) ⟨c1, c2, c3, c4, c5, c6, c8, c9.1, c10.1, c11.1, c9.2, c10.2, c11.2, he2, .inr ⟨c14, c15⟩⟩]; rfl
        · rw [decide_eq_false c15, cdec_f (p := RightC x) fun h => by rcases h.lead with h | h; exact c13 h; exact c15 h.2]; rfl
      · rw [if_neg c14, cdec_f (p := RightC x) fun h => by rcases h.lead with h | h; exact c13 h; exact c14 h.1]
theorem p_mOwn (x : Co) (h : BdC x) : m_msg_Own x = some x := by
  have h1 := h.tup.1
  have h2 := h.lv
  have h3 := h.ln
  have h4 := h.lm
  have h5 := h.lc
  simp only [m_msg_Own, m_tuple_Own, m_slices_Clone___api_Entry_api_Entry_, m_slices_Clone___bool_bool_, m_slices_Clone___int_int_, Option.bind_some, fewI_ok _ (show x.tuple.log.length ≤ 1000000000 by omega), fewI_ok _ (show x.votes.length ≤ 1000000000 by omega), fewI_ok _ (show x.next.length ≤ 1000000000 by omega), fewI_ok _ (show x.mtch.length ≤ 1000000000 by omega), fewI_ok _ (show x.caps.length ≤ 1000000000 by omega)]
theorem p_ints_l1 (a b : List Int) (hl : a.length ≤ 1000000) (hab : a.length = b.length) : ∀ (m k n : Nat) (v : Bool), m = a.length - k → k ≤ a.length → m < n → m_ref20_ints_l1 a b n v k = some (decide (a.drop k = b.drop k)) := by
  intro m
  induction m with
  | zero =>
    intro k n v hm hk hn
    obtain ⟨n, rfl⟩ : ∃ n', n = n' + 1 := ⟨n - 1, by omega⟩
    rw [m_ref20_ints_l1, List.drop_eq_nil_of_le (by omega), List.drop_eq_nil_of_le (by omega)]
    simp only [Bool.cond_decide, if_neg (show ¬ ((k : Int) < (a.length : Int)) by omega)]
    rfl
  | succ m ih =>
    intro k n v hm hk hn
    obtain ⟨n, rfl⟩ : ∃ n', n = n' + 1 := ⟨n - 1, by omega⟩
    obtain ⟨e, he, hd⟩ := drop_step (show k < a.length by omega)
    obtain ⟨f, hf, hd2⟩ := drop_step (show k < b.length by omega)
    rw [m_ref20_ints_l1, hd, hd2]
    simp only [Bool.cond_decide, if_pos (show ((k : Int) < (a.length : Int)) by omega), idx_nat, he, hf, Option.bind_some]
    rw [w64i (by omega), show ((k : Int) + 1) = ((k + 1 : Nat) : Int) by omega, ih (k + 1) n v (by omega) (by omega) (by omega)]
    by_cases h : e = f
    · subst h; rw [if_neg (fun h => h rfl)]; congr 1; rw [Bool.eq_iff_iff]; simp
    · rw [if_pos h]; congr 1; rw [Bool.eq_iff_iff]; simp [h]
theorem p_ints (a b : List Int) (hl : a.length ≤ 1000000) : m_ref20_ints a b = some (decide (a = b)) := by
  unfold m_ref20_ints
  by_cases h : a.length = b.length
  · simp only [Bool.cond_decide, if_neg (show ¬ ((a.length : Int) ≠ (b.length : Int)) by omega)]
    have := p_ints_l1 a b hl h a.length 0 fuelN false (by omega) (by omega) (by unfold fuelN; omega)
    simpa using this
  · simp only [Bool.cond_decide, if_pos (show ((a.length : Int) ≠ (b.length : Int)) by omega)]
    rw [decide_eq_false (fun h' => h (by rw [h']))]
theorem p_Same20_l1 (x y : Co) (h : BdC x) (hab : x.votes.length = y.votes.length) : ∀ (m k n : Nat) (v : Bool), m = x.votes.length - k → k ≤ x.votes.length → m < n → m_ref20_Same_l1 x y n v k = some (decide (x.votes.drop k = y.votes.drop k ∧ x.next = y.next ∧ x.mtch = y.mtch ∧ x.caps = y.caps)) := by
  have hv := h.lv
  intro m
  induction m with
  | zero =>
    intro k n v hm hk hn
    obtain ⟨n, rfl⟩ : ∃ n', n = n' + 1 := ⟨n - 1, by omega⟩
    rw [m_ref20_Same_l1, List.drop_eq_nil_of_le (by omega), List.drop_eq_nil_of_le (by omega)]
    simp only [Bool.cond_decide, if_neg (show ¬ ((k : Int) < (x.votes.length : Int)) by omega), p_ints _ _ h.ln, p_ints _ _ h.lm, p_ints _ _ h.lc, Option.bind_some]
    (repeat' split) <;> (congr 1; rw [Bool.eq_iff_iff]; simp_all)
  | succ m ih =>
    intro k n v hm hk hn
    obtain ⟨n, rfl⟩ : ∃ n', n = n' + 1 := ⟨n - 1, by omega⟩
    obtain ⟨e, he, hd⟩ := drop_step (show k < x.votes.length by omega)
    obtain ⟨f, hf, hd2⟩ := drop_step (show k < y.votes.length by omega)
    rw [m_ref20_Same_l1, hd, hd2]
    simp only [Bool.cond_decide, if_pos (show ((k : Int) < (x.votes.length : Int)) by omega), idx_nat, he, hf, Option.bind_some]
    rw [w64i (by omega), show ((k : Int) + 1) = ((k + 1 : Nat) : Int) by omega, ih (k + 1) n v (by omega) (by omega) (by omega)]
    by_cases h : e = f
    · subst h; rw [if_neg (fun h => h rfl)]; congr 1; rw [Bool.eq_iff_iff]; simp
    · rw [if_pos h]; congr 1; rw [Bool.eq_iff_iff]; simp [h]
theorem p_Same20 (x y : Co) (h : BdC x) : m_ref20_Same x y = some (decide (x = y)) := by
  have hv := h.lv
  obtain ⟨a1, a2, a3, a4, a5, a6, a7, a8, a9, a10, a11⟩ := x
  obtain ⟨b1, b2, b3, b4, b5, b6, b7, b8, b9, b10, b11⟩ := y
  simp only [m_ref20_Same, p_Same12 a5 b5 h.tup.1, snap_eq, Option.bind_some, Bool.cond_decide, Co.mk.injEq, Bool.cond_not]
  by_cases c1 : a1 = b1
  case neg => simp [c1]
  by_cases c2 : a2 = b2
  case neg => simp [c2]
  by_cases c3 : a3 = b3
  case neg => simp [c3]
  by_cases c4 : a4 = b4
  case neg => simp [c4]
  by_cases c5 : a5 = b5
  case neg => simp [c5]
  by_cases c6 : a6 = b6
  case neg => simp [c6]
  by_cases c7 : a7 = b7
  case neg => simp [c7]
  by_cases c8 : a8.length = b8.length
  case neg =>
    have : a8 ≠ b8 := fun h => c8 (by rw [h])
    simp [c8, this]
    intros; omega
  have := p_Same20_l1 ⟨a1, a2, a3, a4, a5, a6, a7, a8, a9, a10, a11⟩ ⟨b1, b2, b3, b4, b5, b6, b7, b8, b9, b10, b11⟩ h c8 a8.length 0 fuelN false (by simp) (by omega) (by dsimp only at hv; unfold fuelN; omega)
  dsimp only at this
  rw [show ((0 : Nat) : Int) = 0 from rfl] at this
  rw [this]
  subst c1; subst c2; subst c3; subst c4; subst c5; subst c6; subst c7
  simp [c8]
/-- What is too great. -/
theorem p_Great_no (x : Co) (h : m_ref20_Great x = some false) : BdC x ∧ x.votes.length ≤ 9 ∧ x.next.length ≤ 9 ∧ x.mtch.length ≤ 9 ∧ x.caps.length ≤ 9 ∧ x.tuple.log.length ≤ 250 := by
  unfold m_ref20_Great m_ref12_Great at h
  simp only [Option.bind_some, Bool.cond_decide] at h
  repeat' split at h
  all_goals first | (cases h; done) | skip
  simp only [Option.some.injEq, decide_eq_false_iff_not] at h
  refine ⟨⟨⟨by omega, by omega, by omega⟩, by omega, by omega, by omega, by omega⟩, by omega, by omega, by omega, by omega, by omega⟩
theorem p_Great_some (x : Co) : ∃ b, m_ref20_Great x = some b := by
  unfold m_ref20_Great m_ref12_Great
  simp only [Option.bind_some, Bool.cond_decide]
  repeat' split
  all_goals exact ⟨_, rfl⟩
/-- A core that may be is not too great. -/
theorem RightC.bd {x : Co} (h : RightC x) : BdC x := by
  have h1 := tupB_bd _ h.tup
  have := h.n
  have := h.lv
  have := h.ln
  have := h.lm
  have := h.lc
  exact ⟨⟨by omega, h1.1, by omega⟩, by omega, by omega, by omega, by omega⟩
theorem p_State12' (x : Tu) (i : Int) (h : bdT x) : m_ref12_State x i = some ((stOf x i).getD ⟨0, 0, 0, 0, false⟩, (stOf x i).isSome) := by rw [p_State12 x i h, q_State x i h]
theorem p_Right20_l1 (x : Co) (hn : 1 ≤ x.n ∧ x.n ≤ 5) (hi : 1 ≤ x.id ∧ x.id ≤ x.n) (h2 : (x.next.length : Int) = x.n) (h3 : (x.mtch.length : Int) = x.n) (h4 : (x.caps.length : Int) = x.n) (hb : bdT x.tuple) : ∀ (m k n : Nat) (b : Bool), m = x.caps.length - k → k ≤ x.caps.length → m < n →
    m_ref20_Right_l1 x x.tuple.last n b k = some (cdec (InB (x.next.drop k) 1 (x.tuple.last + 1) ∧ InB (x.mtch.drop k) 0 x.tuple.last ∧ InB (x.caps.drop k) 0 2 ∧ x.caps[(x.id - 1).toNat]? = some x.binary ∧ (x.role = 0 ∨ (0 < x.tuple.term ∧ x.tuple.vote = x.id)))) := by
  have hlb := last_bd hb
  have hw : IntKind.wrap .i64 (x.tuple.last + 1) = x.tuple.last + 1 := w64i (by omega)
  obtain ⟨e0, he0, he1⟩ := own_get x hn hi h4
  intro m
  induction m with
  | zero =>
    intro k n b hm hk hn'
    obtain ⟨n, rfl⟩ : ∃ n', n = n' + 1 := ⟨n - 1, by omega⟩
    rw [m_ref20_Right_l1, List.drop_eq_nil_of_le (by omega), List.drop_eq_nil_of_le (by omega), List.drop_eq_nil_of_le (by omega)]
    simp only [Bool.cond_decide, if_neg (show ¬ ((k : Int) < x.n) by omega), he0, he1, Option.bind_some, Option.some.injEq]
    by_cases c1 : x.role = 0
    · rw [if_neg (fun h => h c1), dec_cdec]; congr 1; exact cdec_congr ⟨fun h => ⟨InB_nil, InB_nil, InB_nil, h, .inl c1⟩, fun h => h.2.2.2.1⟩
    · rw [if_pos c1]
      by_cases c2 : x.tuple.term < 1
      · rw [if_pos c2, cdec_f]; rintro ⟨_, _, _, _, h | h⟩; exact c1 h; omega
      · rw [if_neg c2]
        by_cases c3 : x.tuple.vote = x.id
        · rw [if_neg (fun h => h c3), dec_cdec]; congr 1; exact cdec_congr ⟨fun h => ⟨InB_nil, InB_nil, InB_nil, h, .inr ⟨by omega, c3⟩⟩, fun h => h.2.2.2.1⟩
        · rw [if_pos c3, cdec_f]; rintro ⟨_, _, _, _, h | h⟩; exact c1 h; exact c3 h.2
  | succ m ih =>
    intro k n b hm hk hn'
    obtain ⟨n, rfl⟩ : ∃ n', n = n' + 1 := ⟨n - 1, by omega⟩
    obtain ⟨e, he, hd⟩ := drop_step (show k < x.next.length by omega)
    obtain ⟨f, hf, hd2⟩ := drop_step (show k < x.mtch.length by omega)
    obtain ⟨g, hg, hd3⟩ := drop_step (show k < x.caps.length by omega)
    rw [m_ref20_Right_l1, hd, hd2, hd3]
    simp only [Bool.cond_decide, if_pos (show ((k : Int) < x.n) by omega), idx_nat, he, hf, hg, Option.bind_some, hw]
    rw [w64i (n := (k : Int) + 1) (by omega), show ((k : Int) + 1) = ((k + 1 : Nat) : Int) by omega, ih (k + 1) n b (by omega) (by omega) (by omega)]
    by_cases c1 : e < 1
    · rw [if_pos c1, cdec_f]; rintro ⟨h, _⟩; have := (InB_cons.1 h).1; omega
    rw [if_neg c1]
    by_cases c2 : x.tuple.last + 1 < e
    · rw [if_pos c2, cdec_f]; rintro ⟨h, _⟩; have := (InB_cons.1 h).1; omega
    rw [if_neg c2]
    by_cases c3 : f < 0
    · rw [if_pos c3, cdec_f]; rintro ⟨_, h, _⟩; have := (InB_cons.1 h).1; omega
    rw [if_neg c3]
    by_cases c4 : x.tuple.last < f
    · rw [if_pos c4, cdec_f]; rintro ⟨_, h, _⟩; have := (InB_cons.1 h).1; omega
    rw [if_neg c4]
    by_cases c5 : g < 0
    · rw [if_pos c5, cdec_f]; rintro ⟨_, _, h, _⟩; have := (InB_cons.1 h).1; omega
    rw [if_neg c5]
    by_cases c6 : 2 < g
    · rw [if_pos c6, cdec_f]; rintro ⟨_, _, h, _⟩; have := (InB_cons.1 h).1; omega
    rw [if_neg c6]
    congr 1
    exact cdec_congr ⟨fun h => ⟨InB_cons.2 ⟨by omega, h.1⟩, InB_cons.2 ⟨by omega, h.2.1⟩, InB_cons.2 ⟨by omega, h.2.2.1⟩, h.2.2.2⟩, fun h => ⟨(InB_cons.1 h.1).2, (InB_cons.1 h.2.1).2, (InB_cons.1 h.2.2.1).2, h.2.2.2⟩⟩
theorem p_Right20 (x : Co) (h : BdC x) : m_ref20_Right x = some (rightC x) := by
  simp only [m_ref20_Right, p_Right12, p_State12' x.tuple x.commit h.tup, p_Last12 x.tuple h.tup, Option.bind_some, snap_eq, Bool.cond_decide]
  unfold rightC
  by_cases c1 : x.n < 1
  · rw [if_pos c1, cdec_f (p := RightC x) fun h => by have := h.n; omega]
  rw [if_neg c1]
  by_cases c2 : 5 < x.n
  · rw [if_pos c2, cdec_f (p := RightC x) fun h => by have := h.n; omega]
  rw [if_neg c2]
  by_cases c3 : x.id < 1
  · rw [if_pos c3, cdec_f (p := RightC x) fun h => by have := h.id; omega]
  rw [if_neg c3]
  by_cases c4 : x.n < x.id
  · rw [if_pos c4, cdec_f (p := RightC x) fun h => by have := h.id; omega]
  rw [if_neg c4]
  by_cases c5 : 2 < x.role
  · rw [if_pos c5, cdec_f (p := RightC x) fun h => by have := h.role; omega]
  rw [if_neg c5]
  by_cases c6 : x.binary < 1
  · rw [if_pos c6, cdec_f (p := RightC x) fun h => by have := h.bin; omega]
  rw [if_neg c6]
  by_cases c7 : 2 < x.binary
  · rw [if_pos c7, cdec_f (p := RightC x) fun h => by have := h.bin; omega]
  rw [if_neg c7]
  cases c8 : tupB x.tuple with
  | false => rw [cdec_f (p := RightC x) fun h => by have h2 := h.tup; rw [c8] at h2; cases h2]; rfl
  | true =>
    simp only [Bool.not_true, cond_false]
    cases c9 : stOf x.tuple x.commit with
    | none => rw [cdec_f (p := RightC x) fun h => by rw [h.st] at c9; cases c9]; rfl
    | some s =>
      simp only [Option.isSome_some, Option.getD_some, Bool.not_true, cond_false]
      by_cases d1 : s = x.applied
      case neg => rw [decide_eq_false d1, cdec_f (p := RightC x) fun h => d1 (by have := h.st; rw [c9] at this; exact Option.some.inj this)]; rfl
      rw [decide_eq_true d1]
      simp only [Bool.not_true, cond_false]
      by_cases d2 : (x.votes.length : Int) = x.n
      case neg => rw [if_pos d2, cdec_f (p := RightC x) fun h => d2 h.lv]
      rw [if_neg (fun h => h d2)]
      by_cases d3 : (x.next.length : Int) = x.n
      case neg => rw [if_pos d3, cdec_f (p := RightC x) fun h => d3 h.ln]
      rw [if_neg (fun h => h d3)]
      by_cases d4 : (x.mtch.length : Int) = x.n
      case neg => rw [if_pos d4, cdec_f (p := RightC x) fun h => d4 h.lm]
      rw [if_neg (fun h => h d4)]
      by_cases d5 : (x.caps.length : Int) = x.n
      case neg => rw [if_pos d5, cdec_f (p := RightC x) fun h => d5 h.lc]
      rw [if_neg (fun h => h d5)]
      have := p_Right20_l1 x (by omega) (by omega) d3 d4 d5 h.tup x.caps.length 0 fuelN false (by omega) (by omega) (by have := h.lc; unfold fuelN; omega)
      rw [show ((0 : Nat) : Int) = 0 from rfl] at this
      rw [this]
      simp only [List.drop_zero]
      congr 1
      subst d1
      exact cdec_congr ⟨fun h => ⟨by omega, by omega, by omega, by omega, c8, c9, d2, d3, d4, d5, h.1, h.2.1, h.2.2.1, h.2.2.2.1, h.2.2.2.2⟩, fun h => ⟨h.next, h.mtch, h.caps, h.own, h.lead⟩⟩
end Go.Proofs.Ytamjlcaoieliaaa
/- Messages, in plain terms. -/
namespace Go.Proofs.Ytamjlcaoieliaaa
open Go Go.RowKit
set_option maxRecDepth 100000
theorem p_eNumber (x : Int) : m_entry_number x = some (numB x) := by
  unfold m_entry_number numB
  by_cases h : 0 ≤ x <;> simp [h]
theorem p_eFine (x : St) : m_entry_Fine x = some (fineB x) := by
  obtain ⟨i, t, s, l, f⟩ := x
  simp only [m_entry_Fine, m_entry_First, p_eNumber, Option.bind_some, fineB, firstS, numB, St.mk.injEq, Bool.cond_not, Bool.cond_decide]
  cases f <;> (repeat' split) <;> simp_all <;> omega
def entB (last term : Int) : List En → Prop
  | [] => True
  | e :: l => rightB e = true ∧ (last ≤ e.term ∧ e.term ≤ term) ∧ entB e.term term l
/-- A message that may be. -/
structure FineM (m : Ms) (n : Int) : Prop where
  many : 1 ≤ n ∧ n ≤ 5
  frm : 1 ≤ m.frm ∧ m.frm ≤ n
  dst : 1 ≤ m.dst ∧ m.dst ≤ n
  ne : m.frm ≠ m.dst
  kind : 1 ≤ m.kind ∧ m.kind ≤ 5
  term : 1 ≤ m.term ∧ m.term ≤ 1073741824
  cap : 1 ≤ m.cap ∧ m.cap ≤ 2
  last : 0 ≤ m.last ∧ m.last ≤ 1073741824
  lastTerm : 0 ≤ m.lastTerm ∧ m.lastTerm ≤ 1073741824
  commit : 0 ≤ m.commit ∧ m.commit ≤ 1073741824
  ents : entB m.lastTerm m.term m.entries
  few : m.entries.length ≤ 4
  app : m.kind ≠ 3 → m.entries.length = 0 ∧ m.commit = 0
  okk : m.okk = true → m.kind = 2 ∨ m.kind = 4
  snap : m.kind = 5 → 0 < m.snap.index ∧ fineB m.snap = true
  nosnap : m.kind ≠ 5 → m.snap = ⟨0, 0, 0, 0, false⟩
noncomputable def fineM (m : Ms) (n : Int) : Bool := cdec (FineM m n)
/-- A message that is not too great. -/
structure BdM (m : Ms) : Prop where
  kind : 0 ≤ m.kind ∧ m.kind ≤ 255
  ents : m.entries.length ≤ 1000000
theorem p_entries_l1 (x : Ms) (h : x.entries.length ≤ 1000000) : ∀ (m k n : Nat) (v : Bool) (last : Int), m = x.entries.length - k → k ≤ x.entries.length → m < n → m_msg_entries_l1 x n v last k = some (cdec (entB last x.term (x.entries.drop k) ∧ x.entries.length ≤ 4)) := by
  intro m
  induction m with
  | zero =>
    intro k n v last hm hk hn
    obtain ⟨n, rfl⟩ : ∃ n', n = n' + 1 := ⟨n - 1, by omega⟩
    rw [m_msg_entries_l1, List.drop_eq_nil_of_le (by omega)]
    simp only [Bool.cond_decide, if_neg (show ¬ ((k : Int) < (x.entries.length : Int)) by omega)]
    rw [dec_cdec]; congr 1
    exact cdec_congr ⟨fun h => ⟨trivial, by omega⟩, fun h => by have := h.2; omega⟩
  | succ m ih =>
    intro k n v last hm hk hn
    obtain ⟨n, rfl⟩ : ∃ n', n = n' + 1 := ⟨n - 1, by omega⟩
    obtain ⟨e, he, hd⟩ := drop_step (show k < x.entries.length by omega)
    rw [m_msg_entries_l1, hd]
    simp only [Bool.cond_decide, if_pos (show ((k : Int) < (x.entries.length : Int)) by omega), idx_nat, he, Option.bind_some, p_eRight, p_within]
    rw [w64i (by omega), show ((k : Int) + 1) = ((k + 1 : Nat) : Int) by omega, ih (k + 1) n v e.term (by omega) (by omega) (by omega)]
    cases c1 : rightB e with
    | false => rw [cdec_f (p := entB last x.term (e :: x.entries.drop (k + 1)) ∧ x.entries.length ≤ 4) fun h => by have h2 := h.1.1; rw [c1] at h2; cases h2]; rfl
    | true =>
      by_cases c2 : last ≤ e.term ∧ e.term ≤ x.term
      · rw [cdec_t c2]; show some _ = some _; congr 1
        exact cdec_congr ⟨fun h => ⟨⟨c1, c2, h.1⟩, h.2⟩, fun h => ⟨h.1.2.2, h.2⟩⟩
      · rw [cdec_f c2, cdec_f (p := entB last x.term (e :: x.entries.drop (k + 1)) ∧ x.entries.length ≤ 4) fun h => c2 h.1.2.1]; rfl
theorem p_entries (x : Ms) (h : x.entries.length ≤ 1000000) : m_msg_entries x = some (cdec (entB x.lastTerm x.term x.entries ∧ x.entries.length ≤ 4)) := by
  have := p_entries_l1 x h x.entries.length 0 fuelN false x.lastTerm (by omega) (by omega) (by unfold fuelN; omega)
  unfold m_msg_entries
  simpa using this
theorem st_zero (s : St) : (decide (s.index = 0) && (decide (s.term = 0) && (decide (s.sum = 0) && (decide (s.level = 0) && decide (s.final = false))))) = decide (s = ⟨0, 0, 0, 0, false⟩) := by
  obtain ⟨a1, a2, a3, a4, a5⟩ := s
  rw [Bool.eq_iff_iff]; simp
theorem p_mFine (m : Ms) (n : Int) (h : BdM m) : m_msg_Fine m n = some (fineM m n) := by
  have hw : IntKind.wrap .i64 m.kind = m.kind := w64i (by have := h.kind; omega)
  simp only [m_msg_Fine, p_within, p_each [m.frm, m.dst] _ _ _ (by simp), p_each [m.last, m.lastTerm, m.commit] _ _ _ (by simp), p_entries m h.ents, p_eFine, Option.bind_some, hw, st_zero]
  unfold fineM
  by_cases c1 : 1 ≤ n ∧ n ≤ 5
  case neg => rw [cdec_f c1, cdec_f (p := FineM m n) fun h => c1 h.many]; rfl
  rw [cdec_t c1]
  by_cases c2 : (([m.frm, m.dst].length : Nat) : Int) = 2 ∧ InB [m.frm, m.dst] 1 n
  case neg => rw [cdec_f c2, cdec_f (p := FineM m n) fun h => c2 ⟨rfl, InB_cons.2 ⟨h.frm, InB_cons.2 ⟨h.dst, InB_nil⟩⟩⟩]; rfl
  rw [cdec_t c2]
  have c21 := (InB_cons.1 c2.2).1
  have c22 := (InB_cons.1 (InB_cons.1 c2.2).2).1
  by_cases c3 : m.frm = m.dst
  case pos => rw [decide_eq_true c3, cdec_f (p := FineM m n) fun h => h.ne c3]; rfl
  rw [decide_eq_false c3]
  by_cases c4 : 1 ≤ m.kind ∧ m.kind ≤ 5
  case neg => rw [cdec_f c4, cdec_f (p := FineM m n) fun h => c4 h.kind]; rfl
  rw [cdec_t c4]
  by_cases c5 : 1 ≤ m.term ∧ m.term ≤ 1073741824
  case neg => rw [cdec_f c5, cdec_f (p := FineM m n) fun h => c5 h.term]; rfl
  rw [cdec_t c5]
  by_cases c6 : 1 ≤ m.cap ∧ m.cap ≤ 2
  case neg => rw [cdec_f c6, cdec_f (p := FineM m n) fun h => c6 h.cap]; rfl
  rw [cdec_t c6]
  by_cases c7 : (([m.last, m.lastTerm, m.commit].length : Nat) : Int) = 3 ∧ InB [m.last, m.lastTerm, m.commit] 0 1073741824
  case neg => rw [cdec_f c7, cdec_f (p := FineM m n) fun h => c7 ⟨rfl, InB_cons.2 ⟨h.last, InB_cons.2 ⟨h.lastTerm, InB_cons.2 ⟨h.commit, InB_nil⟩⟩⟩⟩]; rfl
  rw [cdec_t c7]
  have c71 := (InB_cons.1 c7.2).1
  have c72 := (InB_cons.1 (InB_cons.1 c7.2).2).1
  have c73 := (InB_cons.1 (InB_cons.1 (InB_cons.1 c7.2).2).2).1
  by_cases c8 : entB m.lastTerm m.term m.entries ∧ m.entries.length ≤ 4
  case neg => rw [cdec_f c8, cdec_f (p := FineM m n) fun h => c8 ⟨h.ents, h.few⟩]; rfl
  rw [cdec_t c8]
  have yes : ∀ (d1 : m.kind ≠ 3 → m.entries.length = 0 ∧ m.commit = 0) (d2 : m.okk = true → m.kind = 2 ∨ m.kind = 4), (if m.kind = 5 then (if 0 < m.snap.index then some (fineB m.snap) else some false) else some (decide (m.snap = ⟨0, 0, 0, 0, false⟩))) = some (cdec (FineM m n)) := by
    intro d1 d2
    by_cases e1 : m.kind = 5
    · rw [if_pos e1]
      by_cases e2 : 0 < m.snap.index
      · rw [if_pos e2]
        cases e3 : fineB m.snap with
        | true => rw [cdec_t (p := FineM m n) ⟨c1, c21, c22, c3, c4, c5, c6, c71, c72, c73, c8.1, c8.2, d1, d2, fun _ => ⟨e2, e3⟩, fun h => (h e1).elim⟩]
        | false => rw [cdec_f (p := FineM m n) fun h => by have h2 := (h.snap e1).2; rw [e3] at h2; cases h2]
      · rw [if_neg e2, cdec_f (p := FineM m n) fun h => e2 (h.snap e1).1]
    · rw [if_neg e1, dec_cdec]
      congr 1
      exact cdec_congr ⟨fun e2 => ⟨c1, c21, c22, c3, c4, c5, c6, c71, c72, c73, c8.1, c8.2, d1, d2, fun h => (e1 h).elim, fun _ => e2⟩, fun h => h.nosnap e1⟩
  simp only [Bool.not_true, cond_false, Bool.cond_decide]
  by_cases d1 : m.kind = 3
  · rw [if_neg (fun h => h d1)]
    cases d2 : m.okk with
    | false => exact yes (fun h => (h d1).elim) (fun h => by rw [d2] at h; cases h)
    | true =>
      rw [if_pos (by omega), if_pos (by omega), cdec_f (p := FineM m n) fun h => by have := h.okk d2; omega]; rfl
  · rw [if_pos d1]
    by_cases d3 : (0 : Int) < (m.entries.length : Int)
    · rw [if_pos d3, cdec_f (p := FineM m n) fun h => by have := (h.app d1).1; omega]
    rw [if_neg d3]
    by_cases d4 : 0 < m.commit
    · rw [if_pos d4, cdec_f (p := FineM m n) fun h => by have := (h.app d1).2; omega]
    rw [if_neg d4]
    have d5 : m.kind ≠ 3 → m.entries.length = 0 ∧ m.commit = 0 := fun _ => ⟨by omega, by omega⟩
    cases d2 : m.okk with
    | false => exact yes d5 (fun h => by rw [d2] at h; cases h)
    | true =>
      show (if m.kind ≠ 2 then _ else _) = _
      by_cases d6 : m.kind = 2
      · rw [if_neg (fun h => h d6)]; exact yes d5 (fun _ => .inl d6)
      · rw [if_pos d6]
        by_cases d7 : m.kind = 4
        · rw [if_neg (fun h => h d7)]; exact yes d5 (fun _ => .inr d7)
        · rw [if_pos d7, cdec_f (p := FineM m n) fun h => by have := h.okk d2; omega]
end Go.Proofs.Ytamjlcaoieliaaa
/- What was heard of binaries, in plain terms. -/
namespace Go.Proofs.Ytamjlcaoieliaaa
open Go Go.RowKit
set_option maxRecDepth 100000
/-- A message that comes to a core. -/
def ToC (x : Co) (m : Ms) : Prop := m.dst = x.id ∧ RightC x ∧ FineM m x.n
theorem p_To (x : Co) (m : Ms) (hx : BdC x) (hm : BdM m) : m_advert_To x m = some (cdec (ToC x m)) := by
  simp only [m_advert_To, p_mRight x hx, p_mFine m x.n hm, Option.bind_some, Bool.cond_decide]
  by_cases c1 : m.dst = x.id
  case neg => rw [if_pos c1, cdec_f fun h => c1 h.1]
  rw [if_neg (fun h => h c1)]
  unfold rightC fineM
  by_cases c2 : RightC x
  case neg => rw [cdec_f c2, cdec_f (p := ToC x m) fun h => c2 h.2.1]; rfl
  rw [cdec_t c2]
  show some _ = some _
  congr 1
  exact cdec_congr ⟨fun h => ⟨c1, c2, h⟩, fun h => h.2.2⟩
open Classical in
/-- A core that heard a message. -/
noncomputable def hearC (x : Co) (m : Ms) : Co := if ToC x m then { x with caps := x.caps.set (m.frm - 1).toNat m.cap } else x
theorem idx_in {α : Type} (l : List α) (i : Int) (h : 1 ≤ i ∧ i ≤ (l.length : Int)) (hl : l.length ≤ 1000000) : ∃ e, idx l (i - 1) = some e ∧ l[(i - 1).toNat]? = some e ∧ IntKind.wrap .i64 (i - 1) = i - 1 := by
  have hw : i - 1 = (((i - 1).toNat : Nat) : Int) := by omega
  obtain ⟨e, he, _⟩ := drop_step (show (i - 1).toNat < l.length by omega)
  exact ⟨e, by rw [hw, idx_nat]; exact he, he, w64i (by omega)⟩
theorem p_Hear (x : Co) (m : Ms) (hx : BdC x) (hm : BdM m) : m_advert_Hear x m = some (hearC x m) := by
  simp only [m_advert_Hear, p_To x m hx hm, p_mOwn x hx, p_mRight x hx, Option.bind_some]
  unfold hearC
  by_cases c1 : ToC x m
  · rw [cdec_t c1, if_pos c1]
    unfold rightC
    rw [cdec_t c1.2.1]
    obtain ⟨e, he, _, hw⟩ := idx_in x.caps m.frm (by have := c1.2.2.frm; have := c1.2.1.lc; omega) hx.lc
    simp only [cond_true, he, Option.bind_some, hw]
    rfl
  · rw [cdec_f c1, if_neg c1]; rfl
theorem hear_right (x : Co) (m : Ms) (h : RightC x) : RightC (hearC x m) := by
  unfold hearC
  split
  · rename_i c
    have hf := c.2.2
    refine ⟨h.n, h.id, h.role, h.bin, h.tup, h.st, h.lv, h.ln, h.lm, ?_, h.next, h.mtch, InB.set h.caps (by have := hf.cap; omega), ?_, h.lead⟩
    · dsimp only; rw [List.length_set]; exact h.lc
    · dsimp only
      rw [List.getElem?_set_ne]
      · exact h.own
      · have h1 := hf.ne; have h2 := c.1; have h3 := hf.frm; have h4 := h.id; omega
  · exact h
end Go.Proofs.Ytamjlcaoieliaaa
/- Tuples changed, in plain terms. -/
namespace Go.Proofs.Ytamjlcaoieliaaa
open Go Go.RowKit
set_option maxRecDepth 100000
theorem q_Append (x : Tu) (l : List En) (h : x.log.length ≤ 1000000 ∧ l.length ≤ 300) : m_tuple_Append x l = some (chgS x (some { x with log := x.log ++ l }), chgE x (some { x with log := x.log ++ l })) := by unfold m_tuple_Append; rw [decide_eq_true h]; rfl
theorem p_tTermAt (x : Tu) (i : Int) (h : bdT x) : m_tuple_TermAt x i = some ((termAt x i).getD 0, (termAt x i).isSome) := by
  obtain ⟨h1, h2, h3⟩ := h
  unfold m_tuple_TermAt m_tuple_At termAt
  rw [p_tLast x ⟨h1, h2, h3⟩]
  unfold Tu.last
  simp only [Option.bind_some, Bool.cond_decide]
  by_cases hi : i = x.snap.index
  · rw [if_pos hi, if_pos hi]; rfl
  · rw [if_neg hi, if_neg hi]
    by_cases h4 : i ≤ x.snap.index
    · rw [if_pos h4, if_neg (by omega)]; rfl
    · rw [if_neg h4]
      by_cases h5 : x.snap.index + (x.log.length : Int) < i
      · rw [if_pos h5, if_neg (by omega)]; rfl
      · rw [if_neg h5, if_pos (by omega)]
        obtain ⟨k, hk⟩ : ∃ k : Nat, i = x.snap.index + 1 + k := ⟨(i - x.snap.index - 1).toNat, by omega⟩
        have e1 : IntKind.wrap .i64 (i - x.snap.index) = i - x.snap.index := w64i (by omega)
        have e2 : IntKind.wrap .i64 (i - x.snap.index - 1) = (k : Int) := by rw [w64i (by omega)]; omega
        have e3 : (i - x.snap.index - 1).toNat = k := by omega
        rw [e1, e2, e3, idx_nat]
        obtain ⟨e, he, _⟩ := drop_step (show k < x.log.length by omega)
        rw [he]; rfl
theorem p_TermAt12 (x : Tu) (i : Int) (h : bdT x) : m_ref12_TermAt x i = some ((termAt x i).getD 0, (termAt x i).isSome) := p_tTermAt x i h
theorem chg_eq (x : Tu) (res : Option Tu) : (chgS x res, chgE x res) = if tupB x = true then (match res with | some y => if tupB y = true then (y, (0 : Int)) else (x, 2) | none => (x, 2)) else (x, 2) := by
  unfold chgS chgE
  by_cases hT : tupB x = true
  · rw [if_pos hT]
    cases res with
    | none =>
      have : doneB x none = none := by unfold doneB; rw [if_pos hT]
      rw [this]
    | some y =>
      by_cases hy : tupB y = true
      · have : doneB x (some y) = some y := by unfold doneB; rw [if_pos hT]; exact if_pos hy
        rw [this]; dsimp only; rw [if_pos hy]
      · have : doneB x (some y) = none := by unfold doneB; rw [if_pos hT]; exact if_neg hy
        rw [this]; dsimp only; rw [if_neg hy]
  · have : doneB x res = none := if_neg hT
    rw [this, if_neg hT]
theorem chg_some (x y : Tu) : (chgS x (some y), chgE x (some y)) = if tupB x = true then (if tupB y = true then (y, (0 : Int)) else (x, 2)) else (x, 2) := by rw [chg_eq]
theorem commit_bd {x : Co} (h : RightC x) : x.tuple.snap.index ≤ x.commit ∧ x.commit ≤ x.tuple.last := by
  have := h.st
  unfold stOf at this
  split at this
  · assumption
  · cases this
theorem InB.mono {l : List Int} {a b c d : Int} (h : InB l a b) (h1 : c ≤ a) (h2 : b ≤ d) : InB l c d := fun x hx => by have := h x hx; omega
theorem add_tup (x : Co) (e : En) (h : RightC x) (he : rightB e = true) (ht : e.term = x.tuple.term) (hl : x.tuple.log.length < 200) : tupB { x.tuple with log := x.tuple.log ++ [e] } = true := by
  obtain ⟨h1, h2, h3, h4⟩ := (tupB_iff _).1 h.tup
  refine (tupB_iff _).2 ⟨h1, ?_, ?_, ?_⟩
  · dsimp only; rw [List.length_append]; simp only [List.length_cons, List.length_nil]; exact ⟨h2.1, by omega, h2.2.2⟩
  · dsimp only; rw [logB_snoc, h3, he, decide_eq_true (by omega)]; rfl
  · dsimp only; rw [lastT_snoc]; omega
end Go.Proofs.Ytamjlcaoieliaaa
