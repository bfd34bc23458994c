/- Texts of one claim put together: what its walks share. -/
import Derived.Test.YtamjlcaoieliaaaMj1
import Derived.Test.YtamjlcaoieliaaaMj2
/- What functions compute, in plain terms, and that they do; printed. -/
namespace Go.Proofs.Ytamjlcaoieliaaa
open Go Go.RowKit
set_option maxRecDepth 100000
set_option maxHeartbeats 4000000
theorem c_ref12_Great (x0 : Tu) (A0_ : Option Addr) (c0_ : Nat) (w0 : World) (s0_ : SlI w0 enE A0_ c0_ x0.log) {r : Bool} (H : m_ref12_Great x0 = some r) : Calls Try.prog 32 #[.agg #[.int .i64 x0.snap.index, .int .i64 x0.snap.term, .int .i64 x0.snap.sum, .int .i64 x0.snap.level, .bool x0.snap.final, .slice A0_ x0.log.length c0_, .int .i64 x0.term, .int .i64 x0.vote]] w0 fun e w' => e = .returned (.bool r) ∧ St0 All w0 w' [] := by
  unfold m_ref12_Great at H
  refine gw_enter1 Try.func32 rfl Try.ntmps32 rfl ?_
  have hS := St0.start All w0
  refine wpC_seq_k (fun K hK1 => ?_)
  refine wpC_region ?_
  refine wpS_box rfl rfl rfl CellsOf.agg hS (fun b2 w hS hB => ?_)
  refine wpS_quick 1 rfl ?_
  refine wpS_nil ?_
  refine QH_seq_k hK1 ?_
  refine wpC_seq_k (fun K hK4 => ?_)
  refine wpC_region ?_
  refine wpS_put rfl rfl rfl (yv_fieldAddr fo_26_1 rfl) ?_
  refine wpS_put rfl rfl rfl (yv_load_box sc_24 rfl (RW.here _) hS hs0 trivial sg5_1) ?_
  refine wpS_put rfl rfl rfl (yv_len el_24 rfl) ?_
  refine wpS_put rfl rfl rfl (yv_gtr rfl rfl) ?_
  refine wpS_quick 1 rfl ?_
  refine wpS_nil ?_
  refine QH_seq_k hK4 ?_
  refine wpC_ret ?_
  refine QH_ret rfl (RV.tmp rfl RV.nil) rfl ?_
  obtain rfl := Option.some.inj H
  replace hS := hS.cut 0
  exact ⟨rfl, hS⟩
theorem c_ref20_Great (x0 : Co) (A0_ : Option Addr) (c0_ : Nat) (A1_ : Option Addr) (c1_ : Nat) (A2_ : Option Addr) (c2_ : Nat) (A3_ : Option Addr) (c3_ : Nat) (A4_ : Option Addr) (c4_ : Nat) (w0 : World) (s0_ : SlI w0 enE A0_ c0_ x0.tuple.log) (s1_ : SlI w0 enO A1_ c1_ x0.votes) (s2_ : SlI w0 enI A2_ c2_ x0.next) (s3_ : SlI w0 enI A3_ c3_ x0.mtch) (s4_ : SlI w0 enI A4_ c4_ x0.caps) {r : Bool} (H : m_ref20_Great x0 = some r) : Calls Try.prog 9 #[.agg #[.int .i64 x0.id, .int .i64 x0.n, .int .u8 x0.role, .int .i64 x0.binary, .int .i64 x0.tuple.snap.index, .int .i64 x0.tuple.snap.term, .int .i64 x0.tuple.snap.sum, .int .i64 x0.tuple.snap.level, .bool x0.tuple.snap.final, .slice A0_ x0.tuple.log.length c0_, .int .i64 x0.tuple.term, .int .i64 x0.tuple.vote, .int .i64 x0.commit, .int .i64 x0.applied.index, .int .i64 x0.applied.term, .int .i64 x0.applied.sum, .int .i64 x0.applied.level, .bool x0.applied.final, .slice A1_ x0.votes.length c1_, .slice A2_ x0.next.length c2_, .slice A3_ x0.mtch.length c3_, .slice A4_ x0.caps.length c4_]] w0 fun e w' => e = .returned (.bool r) ∧ St0 All w0 w' [] := by
  unfold m_ref20_Great at H
  refine gw_enter1 Try.func9 rfl Try.ntmps9 rfl ?_
  have hS := St0.start All w0
  refine wpC_seq_k (fun K hK1 => ?_)
  refine wpC_region ?_
  refine wpS_box rfl rfl rfl CellsOf.agg hS (fun b2 w hS hB => ?_)
  refine wpS_quick 1 rfl ?_
  refine wpS_nil ?_
  refine QH_seq_k hK1 ?_
  refine wpC_seq_k (fun K hK4 => ?_)
  refine wpC_region ?_
  refine wpS_put rfl rfl rfl (yv_fieldAddr fo_30_4 rfl) ?_
  refine wpS_put rfl rfl rfl (yv_load_boxA ag_26 rfl (RW.here _) hS hs0 trivial sg4_8) ?_
  obtain ⟨r5, hm6, H⟩ := bind_some H
  refine wpS_call rfl rfl rfl rfl (by kernel_rfl) rfl (c_ref12_Great x0.tuple A0_ c0_ _ (SlI.of_rd s0_.k (hS.rd0 s0_.rd) (hS.blk0 s0_.blk)) hm6) ?_
  rintro e w ⟨rfl, hN⟩; refine ⟨_, rfl, ?_⟩; have hB := hN.pure; have hS := hS.join hN; clear hN
  refine wpS_quick 1 rfl ?_
  refine wpS_case 6 rfl (fun hb => ?_) (fun hb => ?_)
  · replace H := cond_t H hb
    refine wpS_quick 38 rfl ?_
    refine wpS_nil ?_
    refine QH_seq_k hK4 ?_
    refine wpC_ret ?_
    refine QH_ret rfl (RV.tmp rfl RV.nil) rfl ?_
    obtain rfl := Option.some.inj H
    replace hS := hS.cut 0
    exact ⟨rfl, hS⟩
  replace H := cond_f H hb
  refine wpS_put rfl rfl rfl (yv_fieldAddr fo_30_7 rfl) ?_
  refine wpS_put rfl rfl rfl (yv_load_box sc_27 rfl (RW.here _) hS hs0 trivial sg18_1) ?_
  refine wpS_put rfl rfl rfl (yv_len el_27 rfl) ?_
  refine wpS_put rfl rfl rfl (yv_gtr rfl rfl) ?_
  refine wpS_quick 2 rfl ?_
  refine wpS_case 12 rfl (fun hb => ?_) (fun hb => ?_)
  · replace H := cond_t H hb
    refine wpS_quick 32 rfl ?_
    refine wpS_nil ?_
    refine QH_seq_k hK4 ?_
    refine wpC_ret ?_
    refine QH_ret rfl (RV.tmp rfl RV.nil) rfl ?_
    obtain rfl := Option.some.inj H
    replace hS := hS.cut 0
    exact ⟨rfl, hS⟩
  replace H := cond_f H hb
  refine wpS_put rfl rfl rfl (yv_fieldAddr fo_30_8 rfl) ?_
  refine wpS_put rfl rfl rfl (yv_load_box sc_28 rfl (RW.here _) hS hs0 trivial sg19_1) ?_
  refine wpS_put rfl rfl rfl (yv_len el_28 rfl) ?_
  refine wpS_put rfl rfl rfl (yv_gtr rfl rfl) ?_
  refine wpS_quick 2 rfl ?_
  refine wpS_case 18 rfl (fun hb => ?_) (fun hb => ?_)
  · replace H := cond_t H hb
    refine wpS_quick 26 rfl ?_
    refine wpS_nil ?_
    refine QH_seq_k hK4 ?_
    refine wpC_ret ?_
    refine QH_ret rfl (RV.tmp rfl RV.nil) rfl ?_
    obtain rfl := Option.some.inj H
    replace hS := hS.cut 0
    exact ⟨rfl, hS⟩
  replace H := cond_f H hb
  refine wpS_put rfl rfl rfl (yv_fieldAddr fo_30_9 rfl) ?_
  refine wpS_put rfl rfl rfl (yv_load_box sc_28 rfl (RW.here _) hS hs0 trivial sg20_1) ?_
  refine wpS_put rfl rfl rfl (yv_len el_28 rfl) ?_
  refine wpS_put rfl rfl rfl (yv_gtr rfl rfl) ?_
  refine wpS_quick 2 rfl ?_
  refine wpS_case 24 rfl (fun hb => ?_) (fun hb => ?_)
  · replace H := cond_t H hb
    refine wpS_quick 20 rfl ?_
    refine wpS_nil ?_
    refine QH_seq_k hK4 ?_
    refine wpC_ret ?_
    refine QH_ret rfl (RV.tmp rfl RV.nil) rfl ?_
    obtain rfl := Option.some.inj H
    replace hS := hS.cut 0
    exact ⟨rfl, hS⟩
  replace H := cond_f H hb
  refine wpS_put rfl rfl rfl (yv_fieldAddr fo_30_10 rfl) ?_
  refine wpS_put rfl rfl rfl (yv_load_box sc_28 rfl (RW.here _) hS hs0 trivial sg21_1) ?_
  refine wpS_put rfl rfl rfl (yv_len el_28 rfl) ?_
  refine wpS_put rfl rfl rfl (yv_gtr rfl rfl) ?_
  refine wpS_quick 2 rfl ?_
  refine wpS_case 30 rfl (fun hb => ?_) (fun hb => ?_)
  · replace H := cond_t H hb
    refine wpS_quick 14 rfl ?_
    refine wpS_nil ?_
    refine QH_seq_k hK4 ?_
    refine wpC_ret ?_
    refine QH_ret rfl (RV.tmp rfl RV.nil) rfl ?_
    obtain rfl := Option.some.inj H
    replace hS := hS.cut 0
    exact ⟨rfl, hS⟩
  replace H := cond_f H hb
  refine wpS_put rfl rfl rfl (yv_fieldAddr fo_30_4 rfl) ?_
  refine wpS_put rfl rfl rfl (yv_fieldAddr fo_26_0 rfl) ?_
  refine wpS_put rfl rfl rfl (yv_fieldAddr fo_23_0 rfl) ?_
  refine wpS_put rfl rfl rfl (yv_load_box sc_3 rfl (RW.here _) hS hs0 trivial sg4_1) ?_
  refine wpS_put rfl rfl rfl (yv_gtr rfl rfl) ?_
  refine wpS_quick 2 rfl ?_
  refine wpS_case 37 rfl (fun hb => ?_) (fun hb => ?_)
  · replace H := cond_t H hb
    refine wpS_quick 7 rfl ?_
    refine wpS_nil ?_
    refine QH_seq_k hK4 ?_
    refine wpC_ret ?_
    refine QH_ret rfl (RV.tmp rfl RV.nil) rfl ?_
    obtain rfl := Option.some.inj H
    replace hS := hS.cut 0
    exact ⟨rfl, hS⟩
  replace H := cond_f H hb
  refine wpS_put rfl rfl rfl (yv_fieldAddr fo_30_4 rfl) ?_
  refine wpS_put rfl rfl rfl (yv_fieldAddr fo_26_0 rfl) ?_
  refine wpS_put rfl rfl rfl (yv_fieldAddr fo_23_0 rfl) ?_
  refine wpS_put rfl rfl rfl (yv_load_box sc_3 rfl (RW.here _) hS hs0 trivial sg4_1) ?_
  refine wpS_put rfl rfl rfl (yv_lss rfl rfl) ?_
  refine wpS_quick 2 rfl ?_
  refine wpS_nil ?_
  refine QH_seq_k hK4 ?_
  refine wpC_ret ?_
  refine QH_ret rfl (RV.tmp rfl RV.nil) rfl ?_
  obtain rfl := Option.some.inj H
  replace hS := hS.cut 0
  exact ⟨rfl, hS⟩
theorem c_ref06_number (x0 : Int) (w0 : World) {r : Bool} (H : m_ref06_number x0 = some r) : Calls Try.prog 69 #[.int .i64 x0] w0 fun e w' => e = .returned (.bool r) ∧ St0 All w0 w' [] := by
  unfold m_ref06_number at H
  refine gw_enter1 Try.func69 rfl Try.ntmps69 rfl ?_
  have hS := St0.start All w0
  refine wpC_seq_k (fun K hK1 => ?_)
  refine wpC_region ?_
  refine wpS_quick 1 rfl ?_
  refine wpS_nil ?_
  refine QH_seq_k hK1 ?_
  refine wpC_seq_k (fun K hK2 => ?_)
  refine wpC_region ?_
  refine wpS_quick 1 rfl ?_
  refine wpS_put rfl rfl rfl (yv_geq rfl rfl) ?_
  refine wpS_quick 1 rfl ?_
  refine wpS_case 5 rfl (fun hb => ?_) (fun hb => ?_)
  rotate_left
  · replace H := cond_f H hb
    refine wpS_quick 4 rfl ?_
    refine wpS_nil ?_
    refine QH_seq_k hK2 ?_
    refine wpC_ret ?_
    refine QH_ret rfl (RV.tmp rfl RV.nil) rfl ?_
    obtain rfl := Option.some.inj H
    replace hS := hS.cut 0
    exact ⟨rfl, hS⟩
  replace H := cond_t H hb
  refine wpS_quick 1 rfl ?_
  refine wpS_put rfl rfl rfl (yv_leq rfl rfl) ?_
  refine wpS_quick 2 rfl ?_
  refine wpS_nil ?_
  refine QH_seq_k hK2 ?_
  refine wpC_ret ?_
  refine QH_ret rfl (RV.tmp rfl RV.nil) rfl ?_
  obtain rfl := Option.some.inj H
  replace hS := hS.cut 0
  exact ⟨rfl, hS⟩
theorem c_ref06_First (w0 : World) {r : St} (H : m_ref06_First = some r) : Calls Try.prog 42 #[] w0 fun e w' => e = .returned (.agg #[.int .i64 r.index, .int .i64 r.term, .int .i64 r.sum, .int .i64 r.level, .bool r.final]) ∧ St0 All w0 w' [] := by
  unfold m_ref06_First at H
  refine gw_enter0 Try.func42 rfl Try.ntmps42 rfl ?_
  have hS := St0.start All w0
  refine wpC_seq_k (fun K hK1 => ?_)
  refine wpC_region ?_
  refine wpS_alloc rfl rfl zc_23 hS (fun b2 w hS hB => ?_)
  refine wpS_nil ?_
  refine QH_seq_k hK1 ?_
  refine wpC_seq_k (fun K hK4 => ?_)
  refine wpC_region ?_
  refine wpS_put rfl rfl rfl (yv_build (cells := [.int .i64 0, .int .i64 0, .int .i64 0, .int .i64 1, .bool false]) rfl (by kernel_rfl)) ?_
  refine wpS_store rfl rfl rfl CellsOf.agg hS ps0 st0_5 (by kernel_rfl) rfl (fun w hS hB => ?_)
  refine wpS_nil ?_
  refine QH_seq_k hK4 ?_
  refine wpC_ret ?_
  refine QH_ret rfl (RV.cell rfl (load_boxA ag_23 hS hs0 sg0_5) RV.nil) rfl ?_
  obtain rfl := Option.some.inj H
  replace hS := hS.cut 0
  exact ⟨rfl, hS⟩
theorem c_ref06_Fine (x0 : St) (w0 : World) {r : Bool} (H : m_ref06_Fine x0 = some r) : Calls Try.prog 40 #[.agg #[.int .i64 x0.index, .int .i64 x0.term, .int .i64 x0.sum, .int .i64 x0.level, .bool x0.final]] w0 fun e w' => e = .returned (.bool r) ∧ St0 All w0 w' [] := by
  unfold m_ref06_Fine at H
  refine gw_enter1 Try.func40 rfl Try.ntmps40 rfl ?_
  have hS := St0.start All w0
  refine wpC_seq_k (fun K hK1 => ?_)
  refine wpC_region ?_
  refine wpS_box rfl rfl rfl CellsOf.agg hS (fun b2 w hS hB => ?_)
  refine wpS_quick 1 rfl ?_
  refine wpS_nil ?_
  refine QH_seq_k hK1 ?_
  refine wpC_seq_k (fun K hK4 => ?_)
  refine wpC_seq_k (fun K hK5 => ?_)
  refine wpC_region ?_
  refine wpS_put rfl rfl rfl (yv_fieldAddr fo_23_0 rfl) ?_
  refine wpS_put rfl rfl rfl (yv_load_box sc_3 rfl (RW.here _) hS hs0 trivial sg0_1) ?_
  obtain ⟨r6, hm7, H⟩ := bind_some H
  refine wpS_call rfl rfl rfl rfl (by kernel_rfl) rfl (c_ref06_number x0.index _ hm7) ?_
  rintro e w ⟨rfl, hN⟩; refine ⟨_, rfl, ?_⟩; have hB := hN.pure; have hS := hS.join hN; clear hN
  refine wpS_put rfl rfl rfl (yv_not rfl) ?_
  refine wpS_quick 1 rfl ?_
  refine wpS_case 7 rfl (fun hb => ?_) (fun hb => ?_)
  · replace H := cond_t H hb
    refine wpS_quick 39 rfl ?_
    refine wpS_nil ?_
    refine QH_seq_k hK5 ?_
    refine wpC_cond_t rfl rfl ?_
    refine wpC_seq_k (fun K hK8 => ?_)
    refine wpC_region ?_
    refine wpS_quick 1 rfl ?_
    refine wpS_nil ?_
    refine QH_seq_k hK8 ?_
    refine wpC_ret ?_
    refine QH_then_ret ?_
    refine QH_ret rfl (RV.tmp rfl RV.nil) rfl ?_
    obtain rfl := Option.some.inj H
    replace hS := hS.cut 0
    exact ⟨rfl, hS⟩
  replace H := cond_f H hb
  refine wpS_put rfl rfl rfl (yv_fieldAddr fo_23_1 rfl) ?_
  refine wpS_put rfl rfl rfl (yv_load_box sc_3 rfl (RW.here _) hS hs0 trivial sg1_1) ?_
  obtain ⟨r9, hm10, H⟩ := bind_some H
  refine wpS_call rfl rfl rfl rfl (by kernel_rfl) rfl (c_ref06_number x0.term _ hm10) ?_
  rintro e w ⟨rfl, hN⟩; refine ⟨_, rfl, ?_⟩; have hB := hN.pure; have hS := hS.join hN; clear hN
  refine wpS_put rfl rfl rfl (yv_not rfl) ?_
  refine wpS_quick 2 rfl ?_
  refine wpS_case 13 rfl (fun hb => ?_) (fun hb => ?_)
  · replace H := cond_t H hb
    refine wpS_quick 33 rfl ?_
    refine wpS_nil ?_
    refine QH_seq_k hK5 ?_
    refine wpC_cond_t rfl rfl ?_
    refine wpC_seq_k (fun K hK11 => ?_)
    refine wpC_region ?_
    refine wpS_quick 1 rfl ?_
    refine wpS_nil ?_
    refine QH_seq_k hK11 ?_
    refine wpC_ret ?_
    refine QH_then_ret ?_
    refine QH_ret rfl (RV.tmp rfl RV.nil) rfl ?_
    obtain rfl := Option.some.inj H
    replace hS := hS.cut 0
    exact ⟨rfl, hS⟩
  replace H := cond_f H hb
  refine wpS_put rfl rfl rfl (yv_fieldAddr fo_23_2 rfl) ?_
  refine wpS_put rfl rfl rfl (yv_load_box sc_3 rfl (RW.here _) hS hs0 trivial sg2_1) ?_
  obtain ⟨r12, hm13, H⟩ := bind_some H
  refine wpS_call rfl rfl rfl rfl (by kernel_rfl) rfl (c_ref06_number x0.sum _ hm13) ?_
  rintro e w ⟨rfl, hN⟩; refine ⟨_, rfl, ?_⟩; have hB := hN.pure; have hS := hS.join hN; clear hN
  refine wpS_put rfl rfl rfl (yv_not rfl) ?_
  refine wpS_quick 2 rfl ?_
  refine wpS_case 19 rfl (fun hb => ?_) (fun hb => ?_)
  · replace H := cond_t H hb
    refine wpS_quick 27 rfl ?_
    refine wpS_nil ?_
    refine QH_seq_k hK5 ?_
    refine wpC_cond_t rfl rfl ?_
    refine wpC_seq_k (fun K hK14 => ?_)
    refine wpC_region ?_
    refine wpS_quick 1 rfl ?_
    refine wpS_nil ?_
    refine QH_seq_k hK14 ?_
    refine wpC_ret ?_
    refine QH_then_ret ?_
    refine QH_ret rfl (RV.tmp rfl RV.nil) rfl ?_
    obtain rfl := Option.some.inj H
    replace hS := hS.cut 0
    exact ⟨rfl, hS⟩
  replace H := cond_f H hb
  refine wpS_put rfl rfl rfl (yv_fieldAddr fo_23_1 rfl) ?_
  refine wpS_put rfl rfl rfl (yv_load_box sc_3 rfl (RW.here _) hS hs0 trivial sg1_1) ?_
  refine wpS_put rfl rfl rfl (yv_eql rfl rfl) ?_
  refine wpS_put rfl rfl rfl (yv_fieldAddr fo_23_0 rfl) ?_
  refine wpS_put rfl rfl rfl (yv_load_box sc_3 rfl (RW.here _) hS hs0 trivial sg0_1) ?_
  refine wpS_put rfl rfl rfl (yv_eql rfl rfl) ?_
  refine wpS_put rfl rfl rfl (yv_neqB (by kernel_rfl) rfl rfl) ?_
  refine wpS_quick 2 rfl ?_
  refine wpS_case 28 rfl (fun hb => ?_) (fun hb => ?_)
  · replace H := cond_t H hb
    refine wpS_quick 18 rfl ?_
    refine wpS_nil ?_
    refine QH_seq_k hK5 ?_
    refine wpC_cond_t rfl rfl ?_
    refine wpC_seq_k (fun K hK15 => ?_)
    refine wpC_region ?_
    refine wpS_quick 1 rfl ?_
    refine wpS_nil ?_
    refine QH_seq_k hK15 ?_
    refine wpC_ret ?_
    refine QH_then_ret ?_
    refine QH_ret rfl (RV.tmp rfl RV.nil) rfl ?_
    obtain rfl := Option.some.inj H
    replace hS := hS.cut 0
    exact ⟨rfl, hS⟩
  replace H := cond_f H hb
  refine wpS_put rfl rfl rfl (yv_fieldAddr fo_23_3 rfl) ?_
  refine wpS_put rfl rfl rfl (yv_load_box sc_3 rfl (RW.here _) hS hs0 trivial sg3_1) ?_
  refine wpS_put rfl rfl rfl (yv_neq rfl rfl) ?_
  refine wpS_quick 1 rfl ?_
  refine wpS_case 32 rfl (fun hb => ?_) (fun hb => ?_)
  rotate_left
  · replace H := cond_f H hb
    refine wpS_quick 6 rfl ?_
    refine wpS_put rfl rfl rfl (yv_fieldAddr fo_23_4 rfl) ?_
    refine wpS_put rfl rfl rfl (yv_load_box sc_4 rfl (RW.here _) hS hs0 trivial sg4_1) ?_
    refine wpS_quick 1 rfl ?_
    refine wpS_case 41 rfl (fun hb => ?_) (fun hb => ?_)
    rotate_left
    · replace H := cond_f H hb
      refine wpS_quick 5 rfl ?_
      refine wpS_nil ?_
      refine QH_seq_k hK5 ?_
      refine wpC_cond_f rfl rfl ?_
      refine wpC_skip ?_
      refine QH_seq_k hK4 ?_
      refine wpC_seq_k (fun K hK28 => ?_)
      refine wpC_draw 9 [] (fun _ _ => True) ⟨by kernel_rfl, by kernel_rfl⟩ hS (fun w hS hB => ?_)
      refine wpR_batch [true, true, true, true] (by decide +kernel) (by repeat (first | exact PF.body | exact PF.round | apply PF.then | apply PF.inBlock | apply PF.jump)) ?_
      refine LtK.put rfl rfl rfl (yv_fieldAddr fo_23_0 rfl) ?_
      refine LtK.put rfl rfl rfl (yv_load_box sc_3 rfl (RW.below _) hS hs0 trivial sg0_1) ?_
      refine LtK.put rfl rfl rfl (yv_gtr rfl rfl) ?_
      refine LtK.put rfl rfl rfl (yv_move rfl) ?_
      refine LtK.nil ?_
      refine wpR_case 50 rfl (fun hb => ?_) (fun hb => ?_)
      · replace H := cond_t H hb
        refine wpR_batch [false, false, false, false, true] (by decide +kernel) (by repeat (first | exact PF.body | exact PF.round | apply PF.then | apply PF.inBlock | apply PF.jump)) ?_
        refine LtK.skip rfl rfl rfl ?_
        refine LtK.nil ?_
        refine wpR_call [false, false, false, false, false, true] 5 ⟨by decide, by kernel_rfl, by kernel_rfl⟩ rfl rfl ?_
        try dsimp only [pickL]
        refine wpS_skip rfl rfl rfl ?_
        refine wpS_nil ?_
        refine QH_step (Below.refl _ _) ?_
        refine wpR_batch [false, false, false, false, false, false, true, true, true] (by decide +kernel) (by repeat (first | exact PF.body | exact PF.round | apply PF.then | apply PF.inBlock | apply PF.jump)) ?_
        refine LtK.skip rfl rfl rfl ?_
        refine LtK.put rfl rfl rfl (yv_pick_t rfl rfl rfl) ?_
        refine LtK.put rfl rfl rfl (yv_assign rfl) ?_
        refine LtK.nil ?_
        refine wpR_end (by kernel_rfl) ?_
        refine QH_seq_k hK28 ?_
        refine wpC_ret ?_
        refine QH_ret rfl (RV.tmp rfl RV.nil) rfl ?_
        obtain rfl := Option.some.inj H
        replace hS := hS.cut 0
        exact ⟨rfl, hS⟩
      replace H := cond_f H hb
      refine wpR_batch [false, false, false, false, true] (by decide +kernel) (by repeat (first | exact PF.body | exact PF.round | apply PF.then | apply PF.inBlock | apply PF.jump)) ?_
      refine LtK.put rfl rfl rfl (yv_load_boxA ag_23 rfl (RW.below _) hS hs0 trivial sg0_5) ?_
      refine LtK.nil ?_
      refine wpR_call [false, false, false, false, false, true] 5 ⟨by decide, by kernel_rfl, by kernel_rfl⟩ rfl rfl ?_
      try dsimp only [pickL]
      obtain ⟨r29, hm30, H⟩ := bind_some H
      refine wpS_call rfl rfl rfl rfl (by kernel_rfl) rfl (c_ref06_First _ hm30) ?_
      rintro e w ⟨rfl, hN⟩; refine ⟨_, rfl, ?_⟩; have hB := hN.pure; have hS := hS.join hN; clear hN
      refine wpS_nil ?_
      refine QH_step hB ?_
      refine wpR_batch [false, false, false, false, false, false, true, true, true] (by decide +kernel) (by repeat (first | exact PF.body | exact PF.round | apply PF.then | apply PF.inBlock | apply PF.jump)) ?_
      refine LtK.put rfl rfl rfl (yv_eqlS (by kernel_rfl) rfl rfl (eqT_23 _ _ _ _ _ _ _ _ _ _)) ?_
      refine LtK.put rfl rfl rfl (yv_pick_f rfl rfl rfl) ?_
      refine LtK.put rfl rfl rfl (yv_assign rfl) ?_
      refine LtK.nil ?_
      refine wpR_end (by kernel_rfl) ?_
      refine QH_seq_k hK28 ?_
      refine wpC_ret ?_
      refine QH_ret rfl (RV.tmp rfl RV.nil) rfl ?_
      obtain rfl := Option.some.inj H
      replace hS := hS.cut 0
      exact ⟨rfl, hS⟩
    replace H := cond_t H hb
    refine wpS_put rfl rfl rfl (yv_fieldAddr fo_23_3 rfl) ?_
    refine wpS_put rfl rfl rfl (yv_load_box sc_3 rfl (RW.here _) hS hs0 trivial sg3_1) ?_
    refine wpS_put rfl rfl rfl (yv_neq rfl rfl) ?_
    refine wpS_quick 2 rfl ?_
    refine wpS_nil ?_
    refine QH_seq_k hK5 ?_
    refine wpC_cond rfl (fun hb => ?_) (fun hb => ?_)
    · replace H := cond_t H hb
      refine wpC_seq_k (fun K hK24 => ?_)
      refine wpC_region ?_
      refine wpS_quick 1 rfl ?_
      refine wpS_nil ?_
      refine QH_seq_k hK24 ?_
      refine wpC_ret ?_
      refine QH_then_ret ?_
      refine QH_ret rfl (RV.tmp rfl RV.nil) rfl ?_
      obtain rfl := Option.some.inj H
      replace hS := hS.cut 0
      exact ⟨rfl, hS⟩
    replace H := cond_f H hb
    refine wpC_skip ?_
    refine QH_seq_k hK4 ?_
    refine wpC_seq_k (fun K hK25 => ?_)
    refine wpC_draw 9 [] (fun _ _ => True) ⟨by kernel_rfl, by kernel_rfl⟩ hS (fun w hS hB => ?_)
    refine wpR_batch [true, true, true, true] (by decide +kernel) (by repeat (first | exact PF.body | exact PF.round | apply PF.then | apply PF.inBlock | apply PF.jump)) ?_
    refine LtK.put rfl rfl rfl (yv_fieldAddr fo_23_0 rfl) ?_
    refine LtK.put rfl rfl rfl (yv_load_box sc_3 rfl (RW.below _) hS hs0 trivial sg0_1) ?_
    refine LtK.put rfl rfl rfl (yv_gtr rfl rfl) ?_
    refine LtK.put rfl rfl rfl (yv_move rfl) ?_
    refine LtK.nil ?_
    refine wpR_case 50 rfl (fun hb => ?_) (fun hb => ?_)
    · replace H := cond_t H hb
      refine wpR_batch [false, false, false, false, true] (by decide +kernel) (by repeat (first | exact PF.body | exact PF.round | apply PF.then | apply PF.inBlock | apply PF.jump)) ?_
      refine LtK.skip rfl rfl rfl ?_
      refine LtK.nil ?_
      refine wpR_call [false, false, false, false, false, true] 5 ⟨by decide, by kernel_rfl, by kernel_rfl⟩ rfl rfl ?_
      try dsimp only [pickL]
      refine wpS_skip rfl rfl rfl ?_
      refine wpS_nil ?_
      refine QH_step (Below.refl _ _) ?_
      refine wpR_batch [false, false, false, false, false, false, true, true, true] (by decide +kernel) (by repeat (first | exact PF.body | exact PF.round | apply PF.then | apply PF.inBlock | apply PF.jump)) ?_
      refine LtK.skip rfl rfl rfl ?_
      refine LtK.put rfl rfl rfl (yv_pick_t rfl rfl rfl) ?_
      refine LtK.put rfl rfl rfl (yv_assign rfl) ?_
      refine LtK.nil ?_
      refine wpR_end (by kernel_rfl) ?_
      refine QH_seq_k hK25 ?_
      refine wpC_ret ?_
      refine QH_ret rfl (RV.tmp rfl RV.nil) rfl ?_
      obtain rfl := Option.some.inj H
      replace hS := hS.cut 0
      exact ⟨rfl, hS⟩
    replace H := cond_f H hb
    refine wpR_batch [false, false, false, false, true] (by decide +kernel) (by repeat (first | exact PF.body | exact PF.round | apply PF.then | apply PF.inBlock | apply PF.jump)) ?_
    refine LtK.put rfl rfl rfl (yv_load_boxA ag_23 rfl (RW.below _) hS hs0 trivial sg0_5) ?_
    refine LtK.nil ?_
    refine wpR_call [false, false, false, false, false, true] 5 ⟨by decide, by kernel_rfl, by kernel_rfl⟩ rfl rfl ?_
    try dsimp only [pickL]
    obtain ⟨r26, hm27, H⟩ := bind_some H
    refine wpS_call rfl rfl rfl rfl (by kernel_rfl) rfl (c_ref06_First _ hm27) ?_
    rintro e w ⟨rfl, hN⟩; refine ⟨_, rfl, ?_⟩; have hB := hN.pure; have hS := hS.join hN; clear hN
    refine wpS_nil ?_
    refine QH_step hB ?_
    refine wpR_batch [false, false, false, false, false, false, true, true, true] (by decide +kernel) (by repeat (first | exact PF.body | exact PF.round | apply PF.then | apply PF.inBlock | apply PF.jump)) ?_
    refine LtK.put rfl rfl rfl (yv_eqlS (by kernel_rfl) rfl rfl (eqT_23 _ _ _ _ _ _ _ _ _ _)) ?_
    refine LtK.put rfl rfl rfl (yv_pick_f rfl rfl rfl) ?_
    refine LtK.put rfl rfl rfl (yv_assign rfl) ?_
    refine LtK.nil ?_
    refine wpR_end (by kernel_rfl) ?_
    refine QH_seq_k hK25 ?_
    refine wpC_ret ?_
    refine QH_ret rfl (RV.tmp rfl RV.nil) rfl ?_
    obtain rfl := Option.some.inj H
    replace hS := hS.cut 0
    exact ⟨rfl, hS⟩
  replace H := cond_t H hb
  refine wpS_put rfl rfl rfl (yv_fieldAddr fo_23_3 rfl) ?_
  refine wpS_put rfl rfl rfl (yv_load_box sc_3 rfl (RW.here _) hS hs0 trivial sg3_1) ?_
  refine wpS_put rfl rfl rfl (yv_neq rfl rfl) ?_
  refine wpS_quick 3 rfl ?_
  refine wpS_case 38 rfl (fun hb => ?_) (fun hb => ?_)
  · replace H := cond_t H hb
    refine wpS_quick 8 rfl ?_
    refine wpS_nil ?_
    refine QH_seq_k hK5 ?_
    refine wpC_cond_t rfl rfl ?_
    refine wpC_seq_k (fun K hK16 => ?_)
    refine wpC_region ?_
    refine wpS_quick 1 rfl ?_
    refine wpS_nil ?_
    refine QH_seq_k hK16 ?_
    refine wpC_ret ?_
    refine QH_then_ret ?_
    refine QH_ret rfl (RV.tmp rfl RV.nil) rfl ?_
    obtain rfl := Option.some.inj H
    replace hS := hS.cut 0
    exact ⟨rfl, hS⟩
  replace H := cond_f H hb
  refine wpS_put rfl rfl rfl (yv_fieldAddr fo_23_4 rfl) ?_
  refine wpS_put rfl rfl rfl (yv_load_box sc_4 rfl (RW.here _) hS hs0 trivial sg4_1) ?_
  refine wpS_quick 1 rfl ?_
  refine wpS_case 41 rfl (fun hb => ?_) (fun hb => ?_)
  rotate_left
  · replace H := cond_f H hb
    refine wpS_quick 5 rfl ?_
    refine wpS_nil ?_
    refine QH_seq_k hK5 ?_
    refine wpC_cond_f rfl rfl ?_
    refine wpC_skip ?_
    refine QH_seq_k hK4 ?_
    refine wpC_seq_k (fun K hK21 => ?_)
    refine wpC_draw 9 [] (fun _ _ => True) ⟨by kernel_rfl, by kernel_rfl⟩ hS (fun w hS hB => ?_)
    refine wpR_batch [true, true, true, true] (by decide +kernel) (by repeat (first | exact PF.body | exact PF.round | apply PF.then | apply PF.inBlock | apply PF.jump)) ?_
    refine LtK.put rfl rfl rfl (yv_fieldAddr fo_23_0 rfl) ?_
    refine LtK.put rfl rfl rfl (yv_load_box sc_3 rfl (RW.below _) hS hs0 trivial sg0_1) ?_
    refine LtK.put rfl rfl rfl (yv_gtr rfl rfl) ?_
    refine LtK.put rfl rfl rfl (yv_move rfl) ?_
    refine LtK.nil ?_
    refine wpR_case 50 rfl (fun hb => ?_) (fun hb => ?_)
    · replace H := cond_t H hb
      refine wpR_batch [false, false, false, false, true] (by decide +kernel) (by repeat (first | exact PF.body | exact PF.round | apply PF.then | apply PF.inBlock | apply PF.jump)) ?_
      refine LtK.skip rfl rfl rfl ?_
      refine LtK.nil ?_
      refine wpR_call [false, false, false, false, false, true] 5 ⟨by decide, by kernel_rfl, by kernel_rfl⟩ rfl rfl ?_
      try dsimp only [pickL]
      refine wpS_skip rfl rfl rfl ?_
      refine wpS_nil ?_
      refine QH_step (Below.refl _ _) ?_
      refine wpR_batch [false, false, false, false, false, false, true, true, true] (by decide +kernel) (by repeat (first | exact PF.body | exact PF.round | apply PF.then | apply PF.inBlock | apply PF.jump)) ?_
      refine LtK.skip rfl rfl rfl ?_
      refine LtK.put rfl rfl rfl (yv_pick_t rfl rfl rfl) ?_
      refine LtK.put rfl rfl rfl (yv_assign rfl) ?_
      refine LtK.nil ?_
      refine wpR_end (by kernel_rfl) ?_
      refine QH_seq_k hK21 ?_
      refine wpC_ret ?_
      refine QH_ret rfl (RV.tmp rfl RV.nil) rfl ?_
      obtain rfl := Option.some.inj H
      replace hS := hS.cut 0
      exact ⟨rfl, hS⟩
    replace H := cond_f H hb
    refine wpR_batch [false, false, false, false, true] (by decide +kernel) (by repeat (first | exact PF.body | exact PF.round | apply PF.then | apply PF.inBlock | apply PF.jump)) ?_
    refine LtK.put rfl rfl rfl (yv_load_boxA ag_23 rfl (RW.below _) hS hs0 trivial sg0_5) ?_
    refine LtK.nil ?_
    refine wpR_call [false, false, false, false, false, true] 5 ⟨by decide, by kernel_rfl, by kernel_rfl⟩ rfl rfl ?_
    try dsimp only [pickL]
    obtain ⟨r22, hm23, H⟩ := bind_some H
    refine wpS_call rfl rfl rfl rfl (by kernel_rfl) rfl (c_ref06_First _ hm23) ?_
    rintro e w ⟨rfl, hN⟩; refine ⟨_, rfl, ?_⟩; have hB := hN.pure; have hS := hS.join hN; clear hN
    refine wpS_nil ?_
    refine QH_step hB ?_
    refine wpR_batch [false, false, false, false, false, false, true, true, true] (by decide +kernel) (by repeat (first | exact PF.body | exact PF.round | apply PF.then | apply PF.inBlock | apply PF.jump)) ?_
    refine LtK.put rfl rfl rfl (yv_eqlS (by kernel_rfl) rfl rfl (eqT_23 _ _ _ _ _ _ _ _ _ _)) ?_
    refine LtK.put rfl rfl rfl (yv_pick_f rfl rfl rfl) ?_
    refine LtK.put rfl rfl rfl (yv_assign rfl) ?_
    refine LtK.nil ?_
    refine wpR_end (by kernel_rfl) ?_
    refine QH_seq_k hK21 ?_
    refine wpC_ret ?_
    refine QH_ret rfl (RV.tmp rfl RV.nil) rfl ?_
    obtain rfl := Option.some.inj H
    replace hS := hS.cut 0
    exact ⟨rfl, hS⟩
  replace H := cond_t H hb
  refine wpS_put rfl rfl rfl (yv_fieldAddr fo_23_3 rfl) ?_
  refine wpS_put rfl rfl rfl (yv_load_box sc_3 rfl (RW.here _) hS hs0 trivial sg3_1) ?_
  refine wpS_put rfl rfl rfl (yv_neq rfl rfl) ?_
  refine wpS_quick 2 rfl ?_
  refine wpS_nil ?_
  refine QH_seq_k hK5 ?_
  refine wpC_cond rfl (fun hb => ?_) (fun hb => ?_)
  · replace H := cond_t H hb
    refine wpC_seq_k (fun K hK17 => ?_)
    refine wpC_region ?_
    refine wpS_quick 1 rfl ?_
    refine wpS_nil ?_
    refine QH_seq_k hK17 ?_
    refine wpC_ret ?_
    refine QH_then_ret ?_
    refine QH_ret rfl (RV.tmp rfl RV.nil) rfl ?_
    obtain rfl := Option.some.inj H
    replace hS := hS.cut 0
    exact ⟨rfl, hS⟩
  replace H := cond_f H hb
  refine wpC_skip ?_
  refine QH_seq_k hK4 ?_
  refine wpC_seq_k (fun K hK18 => ?_)
  refine wpC_draw 9 [] (fun _ _ => True) ⟨by kernel_rfl, by kernel_rfl⟩ hS (fun w hS hB => ?_)
  refine wpR_batch [true, true, true, true] (by decide +kernel) (by repeat (first | exact PF.body | exact PF.round | apply PF.then | apply PF.inBlock | apply PF.jump)) ?_
  refine LtK.put rfl rfl rfl (yv_fieldAddr fo_23_0 rfl) ?_
  refine LtK.put rfl rfl rfl (yv_load_box sc_3 rfl (RW.below _) hS hs0 trivial sg0_1) ?_
  refine LtK.put rfl rfl rfl (yv_gtr rfl rfl) ?_
  refine LtK.put rfl rfl rfl (yv_move rfl) ?_
  refine LtK.nil ?_
  refine wpR_case 50 rfl (fun hb => ?_) (fun hb => ?_)
  · replace H := cond_t H hb
    refine wpR_batch [false, false, false, false, true] (by decide +kernel) (by repeat (first | exact PF.body | exact PF.round | apply PF.then | apply PF.inBlock | apply PF.jump)) ?_
    refine LtK.skip rfl rfl rfl ?_
    refine LtK.nil ?_
    refine wpR_call [false, false, false, false, false, true] 5 ⟨by decide, by kernel_rfl, by kernel_rfl⟩ rfl rfl ?_
    try dsimp only [pickL]
    refine wpS_skip rfl rfl rfl ?_
    refine wpS_nil ?_
    refine QH_step (Below.refl _ _) ?_
    refine wpR_batch [false, false, false, false, false, false, true, true, true] (by decide +kernel) (by repeat (first | exact PF.body | exact PF.round | apply PF.then | apply PF.inBlock | apply PF.jump)) ?_
    refine LtK.skip rfl rfl rfl ?_
    refine LtK.put rfl rfl rfl (yv_pick_t rfl rfl rfl) ?_
    refine LtK.put rfl rfl rfl (yv_assign rfl) ?_
    refine LtK.nil ?_
    refine wpR_end (by kernel_rfl) ?_
    refine QH_seq_k hK18 ?_
    refine wpC_ret ?_
    refine QH_ret rfl (RV.tmp rfl RV.nil) rfl ?_
    obtain rfl := Option.some.inj H
    replace hS := hS.cut 0
    exact ⟨rfl, hS⟩
  replace H := cond_f H hb
  refine wpR_batch [false, false, false, false, true] (by decide +kernel) (by repeat (first | exact PF.body | exact PF.round | apply PF.then | apply PF.inBlock | apply PF.jump)) ?_
  refine LtK.put rfl rfl rfl (yv_load_boxA ag_23 rfl (RW.below _) hS hs0 trivial sg0_5) ?_
  refine LtK.nil ?_
  refine wpR_call [false, false, false, false, false, true] 5 ⟨by decide, by kernel_rfl, by kernel_rfl⟩ rfl rfl ?_
  try dsimp only [pickL]
  obtain ⟨r19, hm20, H⟩ := bind_some H
  refine wpS_call rfl rfl rfl rfl (by kernel_rfl) rfl (c_ref06_First _ hm20) ?_
  rintro e w ⟨rfl, hN⟩; refine ⟨_, rfl, ?_⟩; have hB := hN.pure; have hS := hS.join hN; clear hN
  refine wpS_nil ?_
  refine QH_step hB ?_
  refine wpR_batch [false, false, false, false, false, false, true, true, true] (by decide +kernel) (by repeat (first | exact PF.body | exact PF.round | apply PF.then | apply PF.inBlock | apply PF.jump)) ?_
  refine LtK.put rfl rfl rfl (yv_eqlS (by kernel_rfl) rfl rfl (eqT_23 _ _ _ _ _ _ _ _ _ _)) ?_
  refine LtK.put rfl rfl rfl (yv_pick_f rfl rfl rfl) ?_
  refine LtK.put rfl rfl rfl (yv_assign rfl) ?_
  refine LtK.nil ?_
  refine wpR_end (by kernel_rfl) ?_
  refine QH_seq_k hK18 ?_
  refine wpC_ret ?_
  refine QH_ret rfl (RV.tmp rfl RV.nil) rfl ?_
  obtain rfl := Option.some.inj H
  replace hS := hS.cut 0
  exact ⟨rfl, hS⟩
theorem c_ref06_Right (x0 : En) (w0 : World) {r : Bool} (H : m_ref06_Right x0 = some r) : Calls Try.prog 65 #[.agg #[.int .i64 x0.term, .int .i64 x0.kind, .int .i64 x0.value]] w0 fun e w' => e = .returned (.bool r) ∧ St0 All w0 w' [] := by
  unfold m_ref06_Right at H
  refine gw_enter1 Try.func65 rfl Try.ntmps65 rfl ?_
  have hS := St0.start All w0
  refine wpC_seq_k (fun K hK1 => ?_)
  refine wpC_region ?_
  refine wpS_box rfl rfl rfl CellsOf.agg hS (fun b2 w hS hB => ?_)
  refine wpS_quick 1 rfl ?_
  refine wpS_nil ?_
  refine QH_seq_k hK1 ?_
  refine wpC_seq_k (fun K hK4 => ?_)
  refine wpC_region ?_
  refine wpS_put rfl rfl rfl (yv_fieldAddr fo_56_0 rfl) ?_
  refine wpS_put rfl rfl rfl (yv_load_box sc_3 rfl (RW.here _) hS hs0 trivial sg0_1) ?_
  refine wpS_put rfl rfl rfl (yv_geq rfl rfl) ?_
  refine wpS_quick 1 rfl ?_
  refine wpS_case 6 rfl (fun hb => ?_) (fun hb => ?_)
  rotate_left
  · replace H := cond_f H hb
    refine wpS_quick 30 rfl ?_
    refine wpS_nil ?_
    refine QH_seq_k hK4 ?_
    refine wpC_ret ?_
    refine QH_ret rfl (RV.tmp rfl RV.nil) rfl ?_
    obtain rfl := Option.some.inj H
    replace hS := hS.cut 0
    exact ⟨rfl, hS⟩
  replace H := cond_t H hb
  refine wpS_put rfl rfl rfl (yv_fieldAddr fo_56_0 rfl) ?_
  refine wpS_put rfl rfl rfl (yv_load_box sc_3 rfl (RW.here _) hS hs0 trivial sg0_1) ?_
  obtain ⟨r5, hm6, H⟩ := bind_some H
  refine wpS_call rfl rfl rfl rfl (by kernel_rfl) rfl (c_ref06_number x0.term _ hm6) ?_
  rintro e w ⟨rfl, hN⟩; refine ⟨_, rfl, ?_⟩; have hB := hN.pure; have hS := hS.join hN; clear hN
  refine wpS_quick 2 rfl ?_
  refine wpS_case 11 rfl (fun hb => ?_) (fun hb => ?_)
  rotate_left
  · replace H := cond_f H hb
    refine wpS_quick 25 rfl ?_
    refine wpS_nil ?_
    refine QH_seq_k hK4 ?_
    refine wpC_ret ?_
    refine QH_ret rfl (RV.tmp rfl RV.nil) rfl ?_
    obtain rfl := Option.some.inj H
    replace hS := hS.cut 0
    exact ⟨rfl, hS⟩
  replace H := cond_t H hb
  refine wpS_put rfl rfl rfl (yv_fieldAddr fo_56_1 rfl) ?_
  refine wpS_put rfl rfl rfl (yv_load_box sc_3 rfl (RW.here _) hS hs0 trivial sg1_1) ?_
  refine wpS_put rfl rfl rfl (yv_geq rfl rfl) ?_
  refine wpS_quick 2 rfl ?_
  refine wpS_case 16 rfl (fun hb => ?_) (fun hb => ?_)
  rotate_left
  · replace H := cond_f H hb
    refine wpS_quick 20 rfl ?_
    refine wpS_nil ?_
    refine QH_seq_k hK4 ?_
    refine wpC_ret ?_
    refine QH_ret rfl (RV.tmp rfl RV.nil) rfl ?_
    obtain rfl := Option.some.inj H
    replace hS := hS.cut 0
    exact ⟨rfl, hS⟩
  replace H := cond_t H hb
  refine wpS_put rfl rfl rfl (yv_fieldAddr fo_56_1 rfl) ?_
  refine wpS_put rfl rfl rfl (yv_load_box sc_3 rfl (RW.here _) hS hs0 trivial sg1_1) ?_
  refine wpS_put rfl rfl rfl (yv_lss rfl rfl) ?_
  refine wpS_quick 2 rfl ?_
  refine wpS_case 21 rfl (fun hb => ?_) (fun hb => ?_)
  rotate_left
  · replace H := cond_f H hb
    refine wpS_quick 15 rfl ?_
    refine wpS_nil ?_
    refine QH_seq_k hK4 ?_
    refine wpC_ret ?_
    refine QH_ret rfl (RV.tmp rfl RV.nil) rfl ?_
    obtain rfl := Option.some.inj H
    replace hS := hS.cut 0
    exact ⟨rfl, hS⟩
  replace H := cond_t H hb
  refine wpS_put rfl rfl rfl (yv_fieldAddr fo_56_2 rfl) ?_
  refine wpS_put rfl rfl rfl (yv_load_box sc_3 rfl (RW.here _) hS hs0 trivial sg2_1) ?_
  obtain ⟨r7, hm8, H⟩ := bind_some H
  refine wpS_call rfl rfl rfl rfl (by kernel_rfl) rfl (c_ref06_number x0.value _ hm8) ?_
  rintro e w ⟨rfl, hN⟩; refine ⟨_, rfl, ?_⟩; have hB := hN.pure; have hS := hS.join hN; clear hN
  refine wpS_quick 2 rfl ?_
  refine wpS_case 26 rfl (fun hb => ?_) (fun hb => ?_)
  rotate_left
  · replace H := cond_f H hb
    refine wpS_quick 10 rfl ?_
    refine wpS_nil ?_
    refine QH_seq_k hK4 ?_
    refine wpC_ret ?_
    refine QH_ret rfl (RV.tmp rfl RV.nil) rfl ?_
    obtain rfl := Option.some.inj H
    replace hS := hS.cut 0
    exact ⟨rfl, hS⟩
  replace H := cond_t H hb
  refine wpS_put rfl rfl rfl (yv_fieldAddr fo_56_1 rfl) ?_
  refine wpS_put rfl rfl rfl (yv_load_box sc_3 rfl (RW.here _) hS hs0 trivial sg1_1) ?_
  refine wpS_put rfl rfl rfl (yv_eql rfl rfl) ?_
  refine wpS_quick 1 rfl ?_
  refine wpS_case 30 rfl (fun hb => ?_) (fun hb => ?_)
  · replace H := cond_t H hb
    refine wpS_quick 6 rfl ?_
    refine wpS_nil ?_
    refine QH_seq_k hK4 ?_
    refine wpC_ret ?_
    refine QH_ret rfl (RV.tmp rfl RV.nil) rfl ?_
    obtain rfl := Option.some.inj H
    replace hS := hS.cut 0
    exact ⟨rfl, hS⟩
  replace H := cond_f H hb
  refine wpS_put rfl rfl rfl (yv_fieldAddr fo_56_2 rfl) ?_
  refine wpS_put rfl rfl rfl (yv_load_box sc_3 rfl (RW.here _) hS hs0 trivial sg2_1) ?_
  refine wpS_put rfl rfl rfl (yv_eql rfl rfl) ?_
  refine wpS_quick 3 rfl ?_
  refine wpS_nil ?_
  refine QH_seq_k hK4 ?_
  refine wpC_ret ?_
  refine QH_ret rfl (RV.tmp rfl RV.nil) rfl ?_
  obtain rfl := Option.some.inj H
  replace hS := hS.cut 0
  exact ⟨rfl, hS⟩
theorem c_ref12_Right (x0 : Tu) (A0_ : Option Addr) (c0_ : Nat) (w0 : World) (s0_ : SlI w0 enE A0_ c0_ x0.log) {r : Bool} (H : m_ref12_Right x0 = some r) : Calls Try.prog 33 #[.agg #[.int .i64 x0.snap.index, .int .i64 x0.snap.term, .int .i64 x0.snap.sum, .int .i64 x0.snap.level, .bool x0.snap.final, .slice A0_ x0.log.length c0_, .int .i64 x0.term, .int .i64 x0.vote]] w0 fun e w' => e = .returned (.bool r) ∧ St0 All w0 w' [] := by
  unfold m_ref12_Right at H
  refine gw_enter1 Try.func33 rfl Try.ntmps33 rfl ?_
  have hS := St0.start All w0
  refine wpC_seq_k (fun K hK1 => ?_)
  refine wpC_region ?_
  refine wpS_box rfl rfl rfl CellsOf.agg hS (fun b2 w hS hB => ?_)
  refine wpS_quick 1 rfl ?_
  refine wpS_nil ?_
  refine QH_seq_k hK1 ?_
  refine wpC_seq_k (fun K hK4 => ?_)
  refine wpC_seq_k (fun K hK5 => ?_)
  refine wpC_region ?_
  refine wpS_put rfl rfl rfl (yv_fieldAddr fo_26_0 rfl) ?_
  refine wpS_put rfl rfl rfl (yv_load_boxA ag_23 rfl (RW.here _) hS hs0 trivial sg0_5) ?_
  obtain ⟨r6, hm7, H⟩ := bind_some H
  refine wpS_call rfl rfl rfl rfl (by kernel_rfl) rfl (c_ref06_Fine x0.snap _ hm7) ?_
  rintro e w ⟨rfl, hN⟩; refine ⟨_, rfl, ?_⟩; have hB := hN.pure; have hS := hS.join hN; clear hN
  refine wpS_put rfl rfl rfl (yv_not rfl) ?_
  refine wpS_quick 1 rfl ?_
  refine wpS_case 9 rfl (fun hb => ?_) (fun hb => ?_)
  · replace H := cond_t H hb
    refine wpS_quick 21 rfl ?_
    refine wpS_nil ?_
    refine QH_seq_k hK5 ?_
    refine wpC_cond_t rfl rfl ?_
    refine wpC_seq_k (fun K hK8 => ?_)
    refine wpC_region ?_
    refine wpS_quick 1 rfl ?_
    refine wpS_nil ?_
    refine QH_seq_k hK8 ?_
    refine wpC_ret ?_
    refine QH_then_ret ?_
    refine QH_ret rfl (RV.tmp rfl RV.nil) rfl ?_
    obtain rfl := Option.some.inj H
    replace hS := hS.cut 0
    exact ⟨rfl, hS⟩
  replace H := cond_f H hb
  refine wpS_put rfl rfl rfl (yv_fieldAddr fo_26_0 rfl) ?_
  refine wpS_put rfl rfl rfl (yv_fieldAddr fo_23_0 rfl) ?_
  refine wpS_put rfl rfl rfl (yv_load_box sc_3 rfl (RW.here _) hS hs0 trivial sg0_1) ?_
  refine wpS_put rfl rfl rfl (yv_gtr rfl rfl) ?_
  refine wpS_quick 2 rfl ?_
  refine wpS_case 15 rfl (fun hb => ?_) (fun hb => ?_)
  · replace H := cond_t H hb
    refine wpS_quick 15 rfl ?_
    refine wpS_nil ?_
    refine QH_seq_k hK5 ?_
    refine wpC_cond_t rfl rfl ?_
    refine wpC_seq_k (fun K hK9 => ?_)
    refine wpC_region ?_
    refine wpS_quick 1 rfl ?_
    refine wpS_nil ?_
    refine QH_seq_k hK9 ?_
    refine wpC_ret ?_
    refine QH_then_ret ?_
    refine QH_ret rfl (RV.tmp rfl RV.nil) rfl ?_
    obtain rfl := Option.some.inj H
    replace hS := hS.cut 0
    exact ⟨rfl, hS⟩
  replace H := cond_f H hb
  refine wpS_put rfl rfl rfl (yv_fieldAddr fo_26_1 rfl) ?_
  refine wpS_put rfl rfl rfl (yv_load_box sc_24 rfl (RW.here _) hS hs0 trivial sg5_1) ?_
  refine wpS_put rfl rfl rfl (yv_len el_24 rfl) ?_
  refine wpS_put rfl rfl rfl (yv_gtr rfl rfl) ?_
  refine wpS_quick 2 rfl ?_
  refine wpS_case 21 rfl (fun hb => ?_) (fun hb => ?_)
  · replace H := cond_t H hb
    refine wpS_quick 9 rfl ?_
    refine wpS_nil ?_
    refine QH_seq_k hK5 ?_
    refine wpC_cond_t rfl rfl ?_
    refine wpC_seq_k (fun K hK10 => ?_)
    refine wpC_region ?_
    refine wpS_quick 1 rfl ?_
    refine wpS_nil ?_
    refine QH_seq_k hK10 ?_
    refine wpC_ret ?_
    refine QH_then_ret ?_
    refine QH_ret rfl (RV.tmp rfl RV.nil) rfl ?_
    obtain rfl := Option.some.inj H
    replace hS := hS.cut 0
    exact ⟨rfl, hS⟩
  replace H := cond_f H hb
  refine wpS_put rfl rfl rfl (yv_fieldAddr fo_26_3 rfl) ?_
  refine wpS_put rfl rfl rfl (yv_load_box sc_3 rfl (RW.here _) hS hs0 trivial sg7_1) ?_
  refine wpS_put rfl rfl rfl (yv_lss rfl rfl) ?_
  refine wpS_quick 2 rfl ?_
  refine wpS_case 26 rfl (fun hb => ?_) (fun hb => ?_)
  · replace H := cond_t H hb
    refine wpS_quick 4 rfl ?_
    refine wpS_nil ?_
    refine QH_seq_k hK5 ?_
    refine wpC_cond_t rfl rfl ?_
    refine wpC_seq_k (fun K hK11 => ?_)
    refine wpC_region ?_
    refine wpS_quick 1 rfl ?_
    refine wpS_nil ?_
    refine QH_seq_k hK11 ?_
    refine wpC_ret ?_
    refine QH_then_ret ?_
    refine QH_ret rfl (RV.tmp rfl RV.nil) rfl ?_
    obtain rfl := Option.some.inj H
    replace hS := hS.cut 0
    exact ⟨rfl, hS⟩
  replace H := cond_f H hb
  refine wpS_put rfl rfl rfl (yv_fieldAddr fo_26_3 rfl) ?_
  refine wpS_put rfl rfl rfl (yv_load_box sc_3 rfl (RW.here _) hS hs0 trivial sg7_1) ?_
  refine wpS_put rfl rfl rfl (yv_gtr rfl rfl) ?_
  refine wpS_quick 1 rfl ?_
  refine wpS_nil ?_
  refine QH_seq_k hK5 ?_
  refine wpC_cond rfl (fun hb => ?_) (fun hb => ?_)
  · replace H := cond_t H hb
    refine wpC_seq_k (fun K hK12 => ?_)
    refine wpC_region ?_
    refine wpS_quick 1 rfl ?_
    refine wpS_nil ?_
    refine QH_seq_k hK12 ?_
    refine wpC_ret ?_
    refine QH_then_ret ?_
    refine QH_ret rfl (RV.tmp rfl RV.nil) rfl ?_
    obtain rfl := Option.some.inj H
    replace hS := hS.cut 0
    exact ⟨rfl, hS⟩
  replace H := cond_f H hb
  refine wpC_skip ?_
  refine QH_seq_k hK4 ?_
  refine wpC_seq_k (fun K hK13 => ?_)
  refine wpC_region ?_
  refine wpS_put rfl rfl rfl (yv_fieldAddr fo_26_0 rfl) ?_
  refine wpS_put rfl rfl rfl (yv_fieldAddr fo_23_1 rfl) ?_
  refine wpS_put rfl rfl rfl (yv_load_box sc_3 rfl (RW.here _) hS hs0 trivial sg1_1) ?_
  refine wpS_quick 1 rfl ?_
  refine wpS_nil ?_
  refine QH_seq_k hK13 ?_
  refine wpC_seq_k (fun K hK14 => ?_)
  refine wpC_seq_k (fun K hK15 => ?_)
  refine wpC_region ?_
  refine wpS_quick 1 rfl ?_
  refine wpS_nil ?_
  refine QH_seq_k hK15 ?_
  refine wpC_block ?_
  refine wpC_loop (X := Nat × Bool × Int × Int) (fun x => (1, .pointer (some ⟨b2, 0, none⟩)) :: (2, .bool x.2.1) :: (3, .int .i64 x.2.2.1) :: (4, .int .i64 x.2.2.2) :: []) (fun x w => St0 All w0 w (.box b2 [.int .i64 x0.snap.index, .int .i64 x0.snap.term, .int .i64 x0.snap.sum, .int .i64 x0.snap.level, .bool x0.snap.final, .slice A0_ x0.log.length c0_, .int .i64 x0.term, .int .i64 x0.vote] 26 :: []) ∧ m_ref12_Right_l1 x0 x.1 x.2.1 x.2.2.1 x.2.2.2 = some r) (fun x => x.1) (fuelN, false, x0.snap.term, 0) (by repeat (first | exact Sub.nil | refine Sub.cons rfl ?_)) ⟨hS, H⟩ ?_
  rintro ⟨n, v16, v17, v18⟩ w ⟨hS, H⟩
  dsimp only at hS H ⊢
  obtain _ | n := n
  · have H0 : none = some r := H
    cases H0
  rw [m_ref12_Right_l1] at H
  refine wpC_seq_k (fun K hK19 => ?_)
  refine wpC_seq_k (fun K hK20 => ?_)
  refine wpC_region ?_
  refine wpS_quick 1 rfl ?_
  refine wpS_put rfl rfl rfl (yv_fieldAddr fo_26_1 rfl) ?_
  refine wpS_put rfl rfl rfl (yv_load_box sc_24 rfl (RW.here _) hS hs0 trivial sg5_1) ?_
  refine wpS_put rfl rfl rfl (yv_len el_24 rfl) ?_
  refine wpS_put rfl rfl rfl (yv_lss rfl rfl) ?_
  refine wpS_nil ?_
  refine QH_seq_k hK20 ?_
  refine wpC_cond rfl (fun hb => ?_) (fun hb => ?_)
  rotate_left
  · replace H := cond_f H hb
    refine wpC_exit ?_
    refine QH_then_exit ?_
    refine QH_then_exit ?_
    refine QH_block_hit ?_
    refine QH_seq_k hK14 ?_
    refine wpC_seq_k (fun K hK37 => ?_)
    refine wpC_region ?_
    refine wpS_put rfl rfl rfl (yv_fieldAddr fo_26_2 rfl) ?_
    refine wpS_put rfl rfl rfl (yv_load_box sc_3 rfl (RW.here _) hS hs0 trivial sg6_1) ?_
    refine wpS_quick 1 rfl ?_
    refine wpS_put rfl rfl rfl (yv_geq rfl rfl) ?_
    refine wpS_quick 1 rfl ?_
    refine wpS_case 68 rfl (fun hb => ?_) (fun hb => ?_)
    rotate_left
    · replace H := cond_f H hb
      refine wpS_quick 10 rfl ?_
      refine wpS_nil ?_
      refine QH_seq_k hK37 ?_
      refine wpC_ret ?_
      refine QH_ret rfl (RV.tmp rfl RV.nil) rfl ?_
      obtain rfl := Option.some.inj H
      replace hS := hS.cut 0
      exact ⟨rfl, hS⟩
    replace H := cond_t H hb
    refine wpS_put rfl rfl rfl (yv_fieldAddr fo_26_2 rfl) ?_
    refine wpS_put rfl rfl rfl (yv_load_box sc_3 rfl (RW.here _) hS hs0 trivial sg6_1) ?_
    refine wpS_put rfl rfl rfl (yv_geq rfl rfl) ?_
    refine wpS_quick 2 rfl ?_
    refine wpS_case 73 rfl (fun hb => ?_) (fun hb => ?_)
    rotate_left
    · replace H := cond_f H hb
      refine wpS_quick 5 rfl ?_
      refine wpS_nil ?_
      refine QH_seq_k hK37 ?_
      refine wpC_ret ?_
      refine QH_ret rfl (RV.tmp rfl RV.nil) rfl ?_
      obtain rfl := Option.some.inj H
      replace hS := hS.cut 0
      exact ⟨rfl, hS⟩
    replace H := cond_t H hb
    refine wpS_put rfl rfl rfl (yv_fieldAddr fo_26_2 rfl) ?_
    refine wpS_put rfl rfl rfl (yv_load_box sc_3 rfl (RW.here _) hS hs0 trivial sg6_1) ?_
    refine wpS_put rfl rfl rfl (yv_leq rfl rfl) ?_
    refine wpS_quick 2 rfl ?_
    refine wpS_nil ?_
    refine QH_seq_k hK37 ?_
    refine wpC_ret ?_
    refine QH_ret rfl (RV.tmp rfl RV.nil) rfl ?_
    obtain rfl := Option.some.inj H
    replace hS := hS.cut 0
    exact ⟨rfl, hS⟩
  replace H := cond_t H hb
  refine wpC_skip ?_
  refine QH_seq_k hK19 ?_
  refine wpC_seq_k (fun K hK21 => ?_)
  refine wpC_block ?_
  refine wpC_seq_k (fun K hK22 => ?_)
  refine wpC_seq_k (fun K hK23 => ?_)
  refine wpC_region ?_
  refine wpS_put rfl rfl rfl (yv_fieldAddr fo_26_1 rfl) ?_
  refine wpS_put rfl rfl rfl (yv_load_box sc_24 rfl (RW.here _) hS hs0 trivial sg5_1) ?_
  refine wpS_quick 1 rfl ?_
  obtain ⟨e24, hi26, H⟩ := bind_some H
  obtain ⟨j25, hi26a, hi26b, hi26c⟩ := idx_some hi26
  refine wpS_put rfl rfl rfl (yx_idx el_24 rfl rfl hi26a hi26c (Rd.el (hS.rd0 s0_.rd) he_enE hi26b)) ?_
  refine wpS_put rfl rfl rfl (yx_ldA0 ag_56 rfl (RW.here _) (Rd.el (hS.rd0 s0_.rd) he_enE hi26b) sg0_3) ?_
  obtain ⟨r27, hm28, H⟩ := bind_some H
  refine wpS_call rfl rfl rfl rfl (by kernel_rfl) rfl (c_ref06_Right e24 _ hm28) ?_
  rintro e w ⟨rfl, hN⟩; refine ⟨_, rfl, ?_⟩; have hB := hN.pure; have hS := hS.join hN; clear hN
  refine wpS_put rfl rfl rfl (yv_not rfl) ?_
  refine wpS_quick 1 rfl ?_
  refine wpS_case 48 rfl (fun hb => ?_) (fun hb => ?_)
  · replace H := cond_t H hb
    refine wpS_quick 9 rfl ?_
    refine wpS_nil ?_
    refine QH_seq_k hK23 ?_
    refine wpC_cond_t rfl rfl ?_
    refine wpC_seq_k (fun K hK29 => ?_)
    refine wpC_region ?_
    refine wpS_quick 1 rfl ?_
    refine wpS_nil ?_
    refine QH_seq_k hK29 ?_
    refine wpC_ret ?_
    refine QH_then_ret ?_
    refine QH_block_ret ?_
    refine QH_then_ret ?_
    refine QH_then_ret ?_
    refine QH_block_ret ?_
    refine QH_then_ret ?_
    refine QH_ret rfl (RV.tmp rfl RV.nil) rfl ?_
    obtain rfl := Option.some.inj H
    replace hS := hS.cut 0
    exact ⟨rfl, hS⟩
  replace H := cond_f H hb
  refine wpS_put rfl rfl rfl (yv_fieldAddr fo_26_1 rfl) ?_
  refine wpS_put rfl rfl rfl (yv_load_box sc_24 rfl (RW.here _) hS hs0 trivial sg5_1) ?_
  refine wpS_quick 1 rfl ?_
  obtain ⟨e30, hi32, H⟩ := bind_some H
  obtain ⟨j31, hi32a, hi32b, hi32c⟩ := idx_some hi32
  refine wpS_put rfl rfl rfl (yx_idx el_24 rfl rfl hi32a hi32c (Rd.el (hS.rd0 s0_.rd) he_enE hi32b)) ?_
  refine wpS_put rfl rfl rfl (yx_fieldAddr fo_56_0 rfl (Rd.el (hS.rd0 s0_.rd) he_enE hi32b)) ?_
  refine wpS_put rfl rfl rfl (yx_ld0 sc_3 rfl (RW.here _) (Rd.el (hS.rd0 s0_.rd) he_enE hi32b) rfl) ?_
  refine wpS_quick 1 rfl ?_
  refine wpS_put rfl rfl rfl (yv_lss rfl rfl) ?_
  refine wpS_quick 1 rfl ?_
  refine wpS_nil ?_
  refine QH_seq_k hK23 ?_
  refine wpC_cond rfl (fun hb => ?_) (fun hb => ?_)
  · replace H := cond_t H hb
    refine wpC_seq_k (fun K hK33 => ?_)
    refine wpC_region ?_
    refine wpS_quick 1 rfl ?_
    refine wpS_nil ?_
    refine QH_seq_k hK33 ?_
    refine wpC_ret ?_
    refine QH_then_ret ?_
    refine QH_block_ret ?_
    refine QH_then_ret ?_
    refine QH_then_ret ?_
    refine QH_block_ret ?_
    refine QH_then_ret ?_
    refine QH_ret rfl (RV.tmp rfl RV.nil) rfl ?_
    obtain rfl := Option.some.inj H
    replace hS := hS.cut 0
    exact ⟨rfl, hS⟩
  replace H := cond_f H hb
  refine wpC_skip ?_
  refine QH_seq_k hK22 ?_
  refine wpC_region ?_
  refine wpS_put rfl rfl rfl (yv_fieldAddr fo_26_1 rfl) ?_
  refine wpS_put rfl rfl rfl (yv_load_box sc_24 rfl (RW.here _) hS hs0 trivial sg5_1) ?_
  refine wpS_quick 1 rfl ?_
  obtain ⟨e34, hi36, H⟩ := bind_some H
  obtain ⟨j35, hi36a, hi36b, hi36c⟩ := idx_some hi36
  refine wpS_put rfl rfl rfl (yx_idx el_24 rfl rfl hi36a hi36c (Rd.el (hS.rd0 s0_.rd) he_enE hi36b)) ?_
  refine wpS_put rfl rfl rfl (yx_fieldAddr fo_56_0 rfl (Rd.el (hS.rd0 s0_.rd) he_enE hi36b)) ?_
  refine wpS_put rfl rfl rfl (yx_ld0 sc_3 rfl (RW.here _) (Rd.el (hS.rd0 s0_.rd) he_enE hi36b) rfl) ?_
  refine wpS_quick 1 rfl ?_
  refine wpS_nil ?_
  refine QH_block_normal ?_
  refine QH_seq_k hK21 ?_
  refine wpC_region ?_
  refine wpS_quick 1 rfl ?_
  refine wpS_put rfl rfl rfl (yx_add rfl rfl) ?_
  refine wpS_quick 1 rfl ?_
  refine wpS_nil ?_
  exact QH_again (n, v16, e34.term, (IntKind.wrap .i64 (v18 + 1))) (by repeat (first | exact Sub.nil | refine Sub.cons rfl ?_)) ⟨hS, H⟩ (Nat.lt_succ_self _)
theorem c_ref12_Last (x0 : Tu) (A0_ : Option Addr) (c0_ : Nat) (w0 : World) (s0_ : SlI w0 enE A0_ c0_ x0.log) {r : Int} (H : m_ref12_Last x0 = some r) : Calls Try.prog 24 #[.agg #[.int .i64 x0.snap.index, .int .i64 x0.snap.term, .int .i64 x0.snap.sum, .int .i64 x0.snap.level, .bool x0.snap.final, .slice A0_ x0.log.length c0_, .int .i64 x0.term, .int .i64 x0.vote]] w0 fun e w' => e = .returned (.int .i64 r) ∧ St0 All w0 w' [] := by
  unfold m_ref12_Last at H
  refine gw_enter1 Try.func24 rfl Try.ntmps24 rfl ?_
  have hS := St0.start All w0
  refine wpC_seq_k (fun K hK1 => ?_)
  refine wpC_region ?_
  refine wpS_box rfl rfl rfl CellsOf.agg hS (fun b2 w hS hB => ?_)
  refine wpS_quick 1 rfl ?_
  refine wpS_nil ?_
  refine QH_seq_k hK1 ?_
  refine wpC_seq_k (fun K hK4 => ?_)
  refine wpC_region ?_
  refine wpS_put rfl rfl rfl (yv_fieldAddr fo_26_0 rfl) ?_
  refine wpS_put rfl rfl rfl (yv_fieldAddr fo_23_0 rfl) ?_
  refine wpS_put rfl rfl rfl (yv_load_box sc_3 rfl (RW.here _) hS hs0 trivial sg0_1) ?_
  refine wpS_put rfl rfl rfl (yv_fieldAddr fo_26_1 rfl) ?_
  refine wpS_put rfl rfl rfl (yv_load_box sc_24 rfl (RW.here _) hS hs0 trivial sg5_1) ?_
  refine wpS_put rfl rfl rfl (yv_len el_24 rfl) ?_
  refine wpS_put rfl rfl rfl (yx_add rfl rfl) ?_
  refine wpS_quick 1 rfl ?_
  refine wpS_nil ?_
  refine QH_seq_k hK4 ?_
  refine wpC_ret ?_
  refine QH_ret rfl (RV.tmp rfl RV.nil) rfl ?_
  obtain rfl := Option.some.inj H
  replace hS := hS.cut 0
  exact ⟨rfl, hS⟩
theorem c_ref06_Next (x0 : St) (x1 : En) (w0 : World) {r : St} (H : m_ref06_Next x0 x1 = some r) : Calls Try.prog 101 #[.agg #[.int .i64 x0.index, .int .i64 x0.term, .int .i64 x0.sum, .int .i64 x0.level, .bool x0.final], .agg #[.int .i64 x1.term, .int .i64 x1.kind, .int .i64 x1.value]] w0 fun e w' => e = .returned (.agg #[.int .i64 r.index, .int .i64 r.term, .int .i64 r.sum, .int .i64 r.level, .bool r.final]) ∧ St0 All w0 w' [] := by
  unfold m_ref06_Next at H
  refine gw_enter2 Try.func101 rfl Try.ntmps101 rfl ?_
  have hS := St0.start All w0
  refine wpC_seq_k (fun K hK1 => ?_)
  refine wpC_region ?_
  refine wpS_box rfl rfl rfl CellsOf.agg hS (fun b2 w hS hB => ?_)
  refine wpS_box rfl rfl rfl CellsOf.agg hS (fun b4 w hS hB => ?_)
  refine wpS_alloc rfl rfl zc_23 hS (fun b6 w hS hB => ?_)
  refine wpS_nil ?_
  refine QH_seq_k hK1 ?_
  refine wpC_seq_k (fun K hK8 => ?_)
  refine wpC_seq_k (fun K hK9 => ?_)
  refine wpC_region ?_
  refine wpS_put rfl rfl rfl (yv_load_boxA ag_56 rfl (RW.here _) hS hs1 trivial sg0_3) ?_
  obtain ⟨r10, hm11, H⟩ := bind_some H
  refine wpS_call rfl rfl rfl rfl (by kernel_rfl) rfl (c_ref06_Right x1 _ hm11) ?_
  rintro e w ⟨rfl, hN⟩; refine ⟨_, rfl, ?_⟩; have hB := hN.pure; have hS := hS.join hN; clear hN
  refine wpS_put rfl rfl rfl (yv_not rfl) ?_
  refine wpS_quick 1 rfl ?_
  refine wpS_case 8 rfl (fun hb => ?_) (fun hb => ?_)
  · replace H := cond_t H hb
    refine wpS_quick 9 rfl ?_
    refine wpS_nil ?_
    refine QH_seq_k hK9 ?_
    refine wpC_cond_t rfl rfl ?_
    refine wpC_seq_k (fun K hK12 => ?_)
    refine wpC_region ?_
    refine wpS_put rfl rfl rfl (yv_load_boxA ag_23 rfl (RW.here _) hS hs2 trivial sg0_5) ?_
    refine wpS_store rfl rfl rfl CellsOf.agg hS ps0 st0_5 (by kernel_rfl) rfl (fun w hS hB => ?_)
    refine wpS_nil ?_
    refine QH_seq_k hK12 ?_
    refine wpC_ret ?_
    refine QH_then_ret ?_
    refine QH_ret rfl (RV.cell rfl (load_boxA ag_23 hS hs0 sg0_5) RV.nil) rfl ?_
    obtain rfl := Option.some.inj H
    replace hS := hS.cut 0
    exact ⟨rfl, hS⟩
  replace H := cond_f H hb
  refine wpS_put rfl rfl rfl (yv_load_boxA ag_23 rfl (RW.here _) hS hs2 trivial sg0_5) ?_
  obtain ⟨r13, hm14, H⟩ := bind_some H
  refine wpS_call rfl rfl rfl rfl (by kernel_rfl) rfl (c_ref06_Fine x0 _ hm14) ?_
  rintro e w ⟨rfl, hN⟩; refine ⟨_, rfl, ?_⟩; have hB := hN.pure; have hS := hS.join hN; clear hN
  refine wpS_put rfl rfl rfl (yv_not rfl) ?_
  refine wpS_quick 2 rfl ?_
  refine wpS_case 13 rfl (fun hb => ?_) (fun hb => ?_)
  · replace H := cond_t H hb
    refine wpS_quick 4 rfl ?_
    refine wpS_nil ?_
    refine QH_seq_k hK9 ?_
    refine wpC_cond_t rfl rfl ?_
    refine wpC_seq_k (fun K hK15 => ?_)
    refine wpC_region ?_
    refine wpS_put rfl rfl rfl (yv_load_boxA ag_23 rfl (RW.here _) hS hs2 trivial sg0_5) ?_
    refine wpS_store rfl rfl rfl CellsOf.agg hS ps0 st0_5 (by kernel_rfl) rfl (fun w hS hB => ?_)
    refine wpS_nil ?_
    refine QH_seq_k hK15 ?_
    refine wpC_ret ?_
    refine QH_then_ret ?_
    refine QH_ret rfl (RV.cell rfl (load_boxA ag_23 hS hs0 sg0_5) RV.nil) rfl ?_
    obtain rfl := Option.some.inj H
    replace hS := hS.cut 0
    exact ⟨rfl, hS⟩
  replace H := cond_f H hb
  refine wpS_put rfl rfl rfl (yv_fieldAddr fo_23_0 rfl) ?_
  refine wpS_put rfl rfl rfl (yv_load_box sc_3 rfl (RW.here _) hS hs2 trivial sg0_1) ?_
  refine wpS_put rfl rfl rfl (yv_geq rfl rfl) ?_
  refine wpS_quick 1 rfl ?_
  refine wpS_nil ?_
  refine QH_seq_k hK9 ?_
  refine wpC_cond rfl (fun hb => ?_) (fun hb => ?_)
  · replace H := cond_t H hb
    refine wpC_seq_k (fun K hK16 => ?_)
    refine wpC_region ?_
    refine wpS_put rfl rfl rfl (yv_load_boxA ag_23 rfl (RW.here _) hS hs2 trivial sg0_5) ?_
    refine wpS_store rfl rfl rfl CellsOf.agg hS ps0 st0_5 (by kernel_rfl) rfl (fun w hS hB => ?_)
    refine wpS_nil ?_
    refine QH_seq_k hK16 ?_
    refine wpC_ret ?_
    refine QH_then_ret ?_
    refine QH_ret rfl (RV.cell rfl (load_boxA ag_23 hS hs0 sg0_5) RV.nil) rfl ?_
    obtain rfl := Option.some.inj H
    replace hS := hS.cut 0
    exact ⟨rfl, hS⟩
  replace H := cond_f H hb
  refine wpC_skip ?_
  refine QH_seq_k hK8 ?_
  refine wpC_seq_k (fun K hK17 => ?_)
  refine wpC_region ?_
  refine wpS_put rfl rfl rfl (yv_fieldAddr fo_23_0 rfl) ?_
  refine wpS_put rfl rfl rfl (yv_load_box sc_3 rfl (RW.here _) hS hs2 trivial sg0_1) ?_
  refine wpS_put rfl rfl rfl (yx_add rfl rfl) ?_
  refine wpS_put rfl rfl rfl (yv_fieldAddr fo_23_0 rfl) ?_
  refine wpS_store rfl rfl rfl CellsOf.int hS ps2 st0_1 (by kernel_rfl) rfl (fun w hS hB => ?_)
  refine wpS_nil ?_
  refine QH_seq_k hK17 ?_
  refine wpC_seq_k (fun K hK18 => ?_)
  refine wpC_region ?_
  refine wpS_put rfl rfl rfl (yv_fieldAddr fo_56_0 rfl) ?_
  refine wpS_put rfl rfl rfl (yv_load_box sc_3 rfl (RW.here _) hS hs1 trivial sg0_1) ?_
  refine wpS_put rfl rfl rfl (yv_fieldAddr fo_23_1 rfl) ?_
  refine wpS_store rfl rfl rfl CellsOf.int hS ps2 st1_1 (by kernel_rfl) rfl (fun w hS hB => ?_)
  refine wpS_nil ?_
  refine QH_seq_k hK18 ?_
  refine wpC_seq_k (fun K hK19 => ?_)
  refine wpC_seq_k (fun K hK20 => ?_)
  refine wpC_region ?_
  refine wpS_put rfl rfl rfl (yv_fieldAddr fo_56_1 rfl) ?_
  refine wpS_put rfl rfl rfl (yv_load_box sc_3 rfl (RW.here _) hS hs1 trivial sg1_1) ?_
  refine wpS_nil ?_
  refine QH_seq_k hK20 ?_
  refine wpC_block ?_
  refine wpC_seq_k (fun K hK21 => ?_)
  refine wpC_region ?_
  refine wpS_put rfl rfl rfl (yv_eql rfl rfl) ?_
  refine wpS_quick 1 rfl ?_
  refine wpS_nil ?_
  refine QH_seq_k hK21 ?_
  refine wpC_cond rfl (fun hb => ?_) (fun hb => ?_)
  · replace H := cond_t H hb
    refine wpC_region ?_
    refine wpS_put rfl rfl rfl (yv_fieldAddr fo_23_2 rfl) ?_
    refine wpS_put rfl rfl rfl (yv_load_box sc_3 rfl (RW.here _) hS hs2 trivial sg2_1) ?_
    refine wpS_put rfl rfl rfl (yx_mul rfl rfl) ?_
    refine wpS_put rfl rfl rfl (yv_fieldAddr fo_56_2 rfl) ?_
    refine wpS_put rfl rfl rfl (yv_load_box sc_3 rfl (RW.here _) hS hs1 trivial sg2_1) ?_
    refine wpS_put rfl rfl rfl (yx_add rfl rfl) ?_
    refine wpS_put rfl rfl rfl (yx_add rfl rfl) ?_
    refine wpS_put rfl rfl rfl (yx_rem rfl rfl (by decide)) ?_
    refine wpS_put rfl rfl rfl (yv_fieldAddr fo_23_2 rfl) ?_
    refine wpS_store rfl rfl rfl CellsOf.int hS ps2 st2_1 (by kernel_rfl) rfl (fun w hS hB => ?_)
    refine wpS_nil ?_
    refine QH_block_normal ?_
    refine QH_seq_k hK19 ?_
    refine wpC_seq_k (fun K hK22 => ?_)
    refine wpC_region ?_
    refine wpS_put rfl rfl rfl (yv_load_boxA ag_23 rfl (RW.here _) hS hs2 trivial sg0_5) ?_
    refine wpS_store rfl rfl rfl CellsOf.agg hS ps0 st0_5 (by kernel_rfl) rfl (fun w hS hB => ?_)
    refine wpS_nil ?_
    refine QH_seq_k hK22 ?_
    refine wpC_ret ?_
    refine QH_ret rfl (RV.cell rfl (load_boxA ag_23 hS hs0 sg0_5) RV.nil) rfl ?_
    obtain rfl := Option.some.inj H
    replace hS := hS.cut 0
    exact ⟨rfl, hS⟩
  replace H := cond_f H hb
  refine wpC_seq_k (fun K hK23 => ?_)
  refine wpC_region ?_
  refine wpS_put rfl rfl rfl (yv_eql rfl rfl) ?_
  refine wpS_quick 1 rfl ?_
  refine wpS_nil ?_
  refine QH_seq_k hK23 ?_
  refine wpC_cond rfl (fun hb => ?_) (fun hb => ?_)
  · replace H := cond_t H hb
    refine wpC_region ?_
    refine wpS_put rfl rfl rfl (yv_fieldAddr fo_23_3 rfl) ?_
    refine wpS_store rfl rfl rfl CellsOf.int hS ps2 st3_1 (by kernel_rfl) rfl (fun w hS hB => ?_)
    refine wpS_nil ?_
    refine QH_block_normal ?_
    refine QH_seq_k hK19 ?_
    refine wpC_seq_k (fun K hK24 => ?_)
    refine wpC_region ?_
    refine wpS_put rfl rfl rfl (yv_load_boxA ag_23 rfl (RW.here _) hS hs2 trivial sg0_5) ?_
    refine wpS_store rfl rfl rfl CellsOf.agg hS ps0 st0_5 (by kernel_rfl) rfl (fun w hS hB => ?_)
    refine wpS_nil ?_
    refine QH_seq_k hK24 ?_
    refine wpC_ret ?_
    refine QH_ret rfl (RV.cell rfl (load_boxA ag_23 hS hs0 sg0_5) RV.nil) rfl ?_
    obtain rfl := Option.some.inj H
    replace hS := hS.cut 0
    exact ⟨rfl, hS⟩
  replace H := cond_f H hb
  refine wpC_seq_k (fun K hK25 => ?_)
  refine wpC_region ?_
  refine wpS_put rfl rfl rfl (yv_eql rfl rfl) ?_
  refine wpS_quick 1 rfl ?_
  refine wpS_nil ?_
  refine QH_seq_k hK25 ?_
  refine wpC_cond rfl (fun hb => ?_) (fun hb => ?_)
  · replace H := cond_t H hb
    refine wpC_seq_k (fun K hK26 => ?_)
    refine wpC_region ?_
    refine wpS_put rfl rfl rfl (yv_fieldAddr fo_23_4 rfl) ?_
    refine wpS_put rfl rfl rfl (yv_load_box sc_4 rfl (RW.here _) hS hs2 trivial sg4_1) ?_
    refine wpS_put rfl rfl rfl (yv_not rfl) ?_
    refine wpS_nil ?_
    refine QH_seq_k hK26 ?_
    refine wpC_cond rfl (fun hb => ?_) (fun hb => ?_)
    rotate_left
    · replace H := cond_f H hb
      refine wpC_skip ?_
      refine QH_block_normal ?_
      refine QH_seq_k hK19 ?_
      refine wpC_seq_k (fun K hK28 => ?_)
      refine wpC_region ?_
      refine wpS_put rfl rfl rfl (yv_load_boxA ag_23 rfl (RW.here _) hS hs2 trivial sg0_5) ?_
      refine wpS_store rfl rfl rfl CellsOf.agg hS ps0 st0_5 (by kernel_rfl) rfl (fun w hS hB => ?_)
      refine wpS_nil ?_
      refine QH_seq_k hK28 ?_
      refine wpC_ret ?_
      refine QH_ret rfl (RV.cell rfl (load_boxA ag_23 hS hs0 sg0_5) RV.nil) rfl ?_
      obtain rfl := Option.some.inj H
      replace hS := hS.cut 0
      exact ⟨rfl, hS⟩
    replace H := cond_t H hb
    refine wpC_region ?_
    refine wpS_put rfl rfl rfl (yv_fieldAddr fo_23_3 rfl) ?_
    refine wpS_store rfl rfl rfl CellsOf.int hS ps2 st3_1 (by kernel_rfl) rfl (fun w hS hB => ?_)
    refine wpS_nil ?_
    refine QH_block_normal ?_
    refine QH_seq_k hK19 ?_
    refine wpC_seq_k (fun K hK27 => ?_)
    refine wpC_region ?_
    refine wpS_put rfl rfl rfl (yv_load_boxA ag_23 rfl (RW.here _) hS hs2 trivial sg0_5) ?_
    refine wpS_store rfl rfl rfl CellsOf.agg hS ps0 st0_5 (by kernel_rfl) rfl (fun w hS hB => ?_)
    refine wpS_nil ?_
    refine QH_seq_k hK27 ?_
    refine wpC_ret ?_
    refine QH_ret rfl (RV.cell rfl (load_boxA ag_23 hS hs0 sg0_5) RV.nil) rfl ?_
    obtain rfl := Option.some.inj H
    replace hS := hS.cut 0
    exact ⟨rfl, hS⟩
  replace H := cond_f H hb
  refine wpC_seq_k (fun K hK29 => ?_)
  refine wpC_region ?_
  refine wpS_put rfl rfl rfl (yv_eql rfl rfl) ?_
  refine wpS_quick 1 rfl ?_
  refine wpS_nil ?_
  refine QH_seq_k hK29 ?_
  refine wpC_cond rfl (fun hb => ?_) (fun hb => ?_)
  rotate_left
  · replace H := cond_f H hb
    refine wpC_skip ?_
    refine QH_block_normal ?_
    refine QH_seq_k hK19 ?_
    refine wpC_seq_k (fun K hK31 => ?_)
    refine wpC_region ?_
    refine wpS_put rfl rfl rfl (yv_load_boxA ag_23 rfl (RW.here _) hS hs2 trivial sg0_5) ?_
    refine wpS_store rfl rfl rfl CellsOf.agg hS ps0 st0_5 (by kernel_rfl) rfl (fun w hS hB => ?_)
    refine wpS_nil ?_
    refine QH_seq_k hK31 ?_
    refine wpC_ret ?_
    refine QH_ret rfl (RV.cell rfl (load_boxA ag_23 hS hs0 sg0_5) RV.nil) rfl ?_
    obtain rfl := Option.some.inj H
    replace hS := hS.cut 0
    exact ⟨rfl, hS⟩
  replace H := cond_t H hb
  refine wpC_region ?_
  refine wpS_put rfl rfl rfl (yv_fieldAddr fo_23_3 rfl) ?_
  refine wpS_put rfl rfl rfl (yv_load_box sc_3 rfl (RW.here _) hS hs2 trivial sg3_1) ?_
  refine wpS_put rfl rfl rfl (yv_eql rfl rfl) ?_
  refine wpS_put rfl rfl rfl (yv_fieldAddr fo_23_4 rfl) ?_
  refine wpS_store rfl rfl rfl CellsOf.bool hS ps2 st4_1 (by kernel_rfl) rfl (fun w hS hB => ?_)
  refine wpS_nil ?_
  refine QH_block_normal ?_
  refine QH_seq_k hK19 ?_
  refine wpC_seq_k (fun K hK30 => ?_)
  refine wpC_region ?_
  refine wpS_put rfl rfl rfl (yv_load_boxA ag_23 rfl (RW.here _) hS hs2 trivial sg0_5) ?_
  refine wpS_store rfl rfl rfl CellsOf.agg hS ps0 st0_5 (by kernel_rfl) rfl (fun w hS hB => ?_)
  refine wpS_nil ?_
  refine QH_seq_k hK30 ?_
  refine wpC_ret ?_
  refine QH_ret rfl (RV.cell rfl (load_boxA ag_23 hS hs0 sg0_5) RV.nil) rfl ?_
  obtain rfl := Option.some.inj H
  replace hS := hS.cut 0
  exact ⟨rfl, hS⟩
theorem c_ref06_All (x0 : St) (x1 : List En) (A0_ : Option Addr) (c0_ : Nat) (w0 : World) (s0_ : SlI w0 enE A0_ c0_ x1) {r : St} (H : m_ref06_All x0 x1 = some r) : Calls Try.prog 66 #[.agg #[.int .i64 x0.index, .int .i64 x0.term, .int .i64 x0.sum, .int .i64 x0.level, .bool x0.final], .slice A0_ x1.length c0_] w0 fun e w' => e = .returned (.agg #[.int .i64 r.index, .int .i64 r.term, .int .i64 r.sum, .int .i64 r.level, .bool r.final]) ∧ St0 All w0 w' [] := by
  unfold m_ref06_All at H
  refine gw_enter2 Try.func66 rfl Try.ntmps66 rfl ?_
  have hS := St0.start All w0
  refine wpC_seq_k (fun K hK1 => ?_)
  refine wpC_region ?_
  refine wpS_box rfl rfl rfl CellsOf.agg hS (fun b2 w hS hB => ?_)
  refine wpS_alloc rfl rfl zc_23 hS (fun b4 w hS hB => ?_)
  refine wpS_nil ?_
  refine QH_seq_k hK1 ?_
  refine wpC_seq_k (fun K hK6 => ?_)
  refine wpC_seq_k (fun K hK7 => ?_)
  refine wpC_region ?_
  refine wpS_quick 1 rfl ?_
  refine wpS_nil ?_
  refine QH_seq_k hK7 ?_
  refine wpC_block ?_
  refine wpC_loop (X := Nat × Int × Int × Int × Int × Int × Bool) (fun x => (1, .slice A0_ x1.length c0_) :: (2, .pointer (some ⟨b2, 0, none⟩)) :: (4, .pointer (some ⟨b4, 0, none⟩)) :: (5, .int .i64 x.2.1) :: []) (fun x w => St0 All w0 w (.box b4 [.int .i64 0, .int .i64 0, .int .i64 0, .int .i64 0, .bool false] 23 :: .box b2 [.int .i64 x.2.2.1, .int .i64 x.2.2.2.1, .int .i64 x.2.2.2.2.1, .int .i64 x.2.2.2.2.2.1, .bool x.2.2.2.2.2.2] 23 :: []) ∧ m_ref06_All_l1 x1 x.1 x.2.1 x.2.2.1 x.2.2.2.1 x.2.2.2.2.1 x.2.2.2.2.2.1 x.2.2.2.2.2.2 = some r) (fun x => x.1) (fuelN, 0, x0.index, x0.term, x0.sum, x0.level, x0.final) (by repeat (first | exact Sub.nil | refine Sub.cons rfl ?_)) ⟨hS, H⟩ ?_
  rintro ⟨n, v8, v9, v10, v11, v12, v13⟩ w ⟨hS, H⟩
  dsimp only at hS H ⊢
  obtain _ | n := n
  · have H0 : none = some r := H
    cases H0
  rw [m_ref06_All_l1] at H
  refine wpC_seq_k (fun K hK14 => ?_)
  refine wpC_seq_k (fun K hK15 => ?_)
  refine wpC_region ?_
  refine wpS_quick 2 rfl ?_
  refine wpS_put rfl rfl rfl (yv_len el_24 rfl) ?_
  refine wpS_put rfl rfl rfl (yv_lss rfl rfl) ?_
  refine wpS_nil ?_
  refine QH_seq_k hK15 ?_
  refine wpC_cond rfl (fun hb => ?_) (fun hb => ?_)
  rotate_left
  · replace H := cond_f H hb
    refine wpC_exit ?_
    refine QH_then_exit ?_
    refine QH_then_exit ?_
    refine QH_block_hit ?_
    refine QH_seq_k hK6 ?_
    refine wpC_seq_k (fun K hK22 => ?_)
    refine wpC_region ?_
    refine wpS_put rfl rfl rfl (yv_load_boxA ag_23 rfl (RW.here _) hS hs1 trivial sg0_5) ?_
    refine wpS_store rfl rfl rfl CellsOf.agg hS ps0 st0_5 (by kernel_rfl) rfl (fun w hS hB => ?_)
    refine wpS_nil ?_
    refine QH_seq_k hK22 ?_
    refine wpC_ret ?_
    refine QH_ret rfl (RV.cell rfl (load_boxA ag_23 hS hs0 sg0_5) RV.nil) rfl ?_
    obtain rfl := Option.some.inj H
    replace hS := hS.cut 0
    exact ⟨rfl, hS⟩
  replace H := cond_t H hb
  refine wpC_skip ?_
  refine QH_seq_k hK14 ?_
  refine wpC_seq_k (fun K hK16 => ?_)
  refine wpC_block ?_
  refine wpC_draw 7 [6] (fun i b => (i = 6 → b ≠ b2)) ⟨by kernel_rfl, by kernel_rfl⟩ hS (fun w hS hB => ?_)
  refine wpR_batch [true, true, true, true, true] (by decide +kernel) (by repeat (first | exact PF.body | exact PF.round | apply PF.then | apply PF.inBlock | apply PF.jump)) ?_
  refine LtK.put rfl rfl rfl (yv_load_boxA ag_23 rfl (RW.below _) hS hs1 trivial sg0_5) ?_
  refine LtK.put rfl rfl rfl (yv_move rfl) ?_
  refine LtK.put rfl rfl rfl (yv_move rfl) ?_
  obtain ⟨e17, hi19, H⟩ := bind_some H
  obtain ⟨j18, hi19a, hi19b, hi19c⟩ := idx_some hi19
  refine LtK.put rfl rfl rfl (yx_idx el_24 rfl rfl hi19a hi19c (Rd.el (hS.rd0 s0_.rd) he_enE hi19b)) ?_
  refine LtK.put rfl rfl rfl (yx_ldA0 ag_56 rfl (RW.below _) (Rd.el (hS.rd0 s0_.rd) he_enE hi19b) sg0_3) ?_
  refine LtK.nil ?_
  refine wpR_call [false, false, false, false, false, true] 5 ⟨by decide, by kernel_rfl, by kernel_rfl⟩ rfl rfl ?_
  try dsimp only [pickL]
  obtain ⟨r20, hm21, H⟩ := bind_some H
  refine wpS_call rfl rfl rfl rfl (by kernel_rfl) rfl (c_ref06_Next (⟨v9, v10, v11, v12, v13⟩ : St) e17 _ hm21) ?_
  rintro e w ⟨rfl, hN⟩; refine ⟨_, rfl, ?_⟩; have hB := hN.pure; have hS := hS.join hN; clear hN
  refine wpS_nil ?_
  refine QH_step hB ?_
  refine wpR_seal [false, false, false, false, false, false, true] 6 ⟨by decide, by kernel_rfl, by kernel_rfl⟩ rfl rfl ?_
  try dsimp only [pickL]
  refine wpS_store rfl rfl rfl CellsOf.agg hS ps1 st0_5 (by kernel_rfl) rfl (fun w hS hB => ?_)
  refine wpS_nil ?_
  refine QH_stepG (hB.sub (fun _ _ h => by simpa using h)) ?_
  refine wpR_end (by kernel_rfl) ?_
  refine QH_block_normal ?_
  refine QH_seq_k hK16 ?_
  refine wpC_region ?_
  refine wpS_quick 1 rfl ?_
  refine wpS_put rfl rfl rfl (yx_add rfl rfl) ?_
  refine wpS_quick 1 rfl ?_
  refine wpS_nil ?_
  exact QH_again (n, (IntKind.wrap .i64 (v8 + 1)), r20.index, r20.term, r20.sum, r20.level, r20.final) (by repeat (first | exact Sub.nil | refine Sub.cons rfl ?_)) ⟨hS, H⟩ (Nat.lt_succ_self _)
theorem c_ref12_State (x0 : Tu) (x1 : Int) (A0_ : Option Addr) (c0_ : Nat) (w0 : World) (s0_ : SlI w0 enE A0_ c0_ x0.log) {r : St × Bool} (H : m_ref12_State x0 x1 = some r) : Calls Try.prog 34 #[.agg #[.int .i64 x0.snap.index, .int .i64 x0.snap.term, .int .i64 x0.snap.sum, .int .i64 x0.snap.level, .bool x0.snap.final, .slice A0_ x0.log.length c0_, .int .i64 x0.term, .int .i64 x0.vote], .int .i64 x1] w0 fun e w' => e = .returned (.tuple #[.agg #[.int .i64 r.1.index, .int .i64 r.1.term, .int .i64 r.1.sum, .int .i64 r.1.level, .bool r.1.final], .bool r.2]) ∧ St0 All w0 w' [] := by
  unfold m_ref12_State at H
  refine gw_enter2 Try.func34 rfl Try.ntmps34 rfl ?_
  have hS := St0.start All w0
  refine wpC_seq_k (fun K hK1 => ?_)
  refine wpC_region ?_
  refine wpS_box rfl rfl rfl CellsOf.agg hS (fun b2 w hS hB => ?_)
  refine wpS_alloc rfl rfl zc_23 hS (fun b4 w hS hB => ?_)
  refine wpS_quick 1 rfl ?_
  refine wpS_nil ?_
  refine QH_seq_k hK1 ?_
  refine wpC_seq_k (fun K hK6 => ?_)
  refine wpC_seq_k (fun K hK7 => ?_)
  refine wpC_region ?_
  refine wpS_quick 1 rfl ?_
  refine wpS_put rfl rfl rfl (yv_fieldAddr fo_26_0 rfl) ?_
  refine wpS_put rfl rfl rfl (yv_fieldAddr fo_23_0 rfl) ?_
  refine wpS_put rfl rfl rfl (yv_load_box sc_3 rfl (RW.here _) hS hs1 trivial sg0_1) ?_
  refine wpS_put rfl rfl rfl (yv_lss rfl rfl) ?_
  refine wpS_quick 1 rfl ?_
  refine wpS_case 11 rfl (fun hb => ?_) (fun hb => ?_)
  · replace H := cond_t H hb
    refine wpS_quick 5 rfl ?_
    refine wpS_nil ?_
    refine QH_seq_k hK7 ?_
    refine wpC_cond_t rfl rfl ?_
    refine wpC_seq_k (fun K hK8 => ?_)
    refine wpC_region ?_
    refine wpS_put rfl rfl rfl (yv_build (cells := [.int .i64 0, .int .i64 0, .int .i64 0, .int .i64 0, .bool false]) rfl (by kernel_rfl)) ?_
    refine wpS_store rfl rfl rfl CellsOf.agg hS ps0 st0_5 (by kernel_rfl) rfl (fun w hS hB => ?_)
    refine wpS_quick 1 rfl ?_
    refine wpS_nil ?_
    refine QH_seq_k hK8 ?_
    refine wpC_ret ?_
    refine QH_then_ret ?_
    refine QH_ret rfl (RV.cell rfl (load_boxA ag_23 hS hs0 sg0_5) (RV.tmp rfl RV.nil)) rfl ?_
    obtain rfl := Option.some.inj H
    replace hS := hS.cut 0
    exact ⟨rfl, hS⟩
  replace H := cond_f H hb
  refine wpS_quick 1 rfl ?_
  refine wpS_put rfl rfl rfl (yv_load_boxA ag_26 rfl (RW.here _) hS hs1 trivial sg0_8) ?_
  obtain ⟨r9, hm10, H⟩ := bind_some H
  refine wpS_call rfl rfl rfl rfl (by kernel_rfl) rfl (c_ref12_Last x0 A0_ c0_ _ (SlI.of_rd s0_.k (hS.rd0 s0_.rd) (hS.blk0 s0_.blk)) hm10) ?_
  rintro e w ⟨rfl, hN⟩; refine ⟨_, rfl, ?_⟩; have hB := hN.pure; have hS := hS.join hN; clear hN
  refine wpS_put rfl rfl rfl (yv_gtr rfl rfl) ?_
  refine wpS_quick 1 rfl ?_
  refine wpS_nil ?_
  refine QH_seq_k hK7 ?_
  refine wpC_cond rfl (fun hb => ?_) (fun hb => ?_)
  · replace H := cond_t H hb
    refine wpC_seq_k (fun K hK11 => ?_)
    refine wpC_region ?_
    refine wpS_put rfl rfl rfl (yv_build (cells := [.int .i64 0, .int .i64 0, .int .i64 0, .int .i64 0, .bool false]) rfl (by kernel_rfl)) ?_
    refine wpS_store rfl rfl rfl CellsOf.agg hS ps0 st0_5 (by kernel_rfl) rfl (fun w hS hB => ?_)
    refine wpS_quick 1 rfl ?_
    refine wpS_nil ?_
    refine QH_seq_k hK11 ?_
    refine wpC_ret ?_
    refine QH_then_ret ?_
    refine QH_ret rfl (RV.cell rfl (load_boxA ag_23 hS hs0 sg0_5) (RV.tmp rfl RV.nil)) rfl ?_
    obtain rfl := Option.some.inj H
    replace hS := hS.cut 0
    exact ⟨rfl, hS⟩
  replace H := cond_f H hb
  refine wpC_skip ?_
  refine QH_seq_k hK6 ?_
  refine wpC_seq_k (fun K hK12 => ?_)
  refine wpC_draw 13 [11] (fun i b => (i = 11 → b ≠ b4)) ⟨by kernel_rfl, by kernel_rfl⟩ hS (fun w hS hB => ?_)
  refine wpR_batch [true, true, true, true, true, true, true, true, true, true] (by decide +kernel) (by repeat (first | exact PF.body | exact PF.round | apply PF.then | apply PF.inBlock | apply PF.jump)) ?_
  refine LtK.put rfl rfl rfl (yv_fieldAddr fo_26_0 rfl) ?_
  refine LtK.put rfl rfl rfl (yv_load_boxA ag_23 rfl (RW.below _) hS hs1 trivial sg0_5) ?_
  refine LtK.put rfl rfl rfl (yv_fieldAddr fo_26_1 rfl) ?_
  refine LtK.put rfl rfl rfl (yv_load_box sc_24 rfl (RW.below _) hS hs1 trivial sg5_1) ?_
  refine LtK.put rfl rfl rfl (yv_move rfl) ?_
  refine LtK.put rfl rfl rfl (yv_fieldAddr fo_26_0 rfl) ?_
  refine LtK.put rfl rfl rfl (yv_fieldAddr fo_23_0 rfl) ?_
  refine LtK.put rfl rfl rfl (yv_load_box sc_3 rfl (RW.below _) hS hs1 trivial sg0_1) ?_
  refine LtK.put rfl rfl rfl (yx_sub rfl rfl) ?_
  obtain ⟨l13, ht14, H⟩ := bind_some H
  refine LtK.put rfl rfl rfl (yx_slice_h el_24 rfl rfl s0_.k.1 ht14) ?_
  refine LtK.nil ?_
  refine wpR_call [false, false, false, false, false, false, false, false, false, false, true] 10 ⟨by decide, by kernel_rfl, by kernel_rfl⟩ rfl rfl ?_
  try dsimp only [pickL]
  obtain ⟨r15, hm16, H⟩ := bind_some H
  refine wpS_call rfl rfl rfl rfl (by kernel_rfl) rfl (c_ref06_All x0.snap l13 A0_ c0_ _ (SlI.of_rd (k_take s0_.k ht14) (Rd.takeI he_enE (hS.rd0 s0_.rd) ht14) (hS.blk0 s0_.blk)) hm16) ?_
  rintro e w ⟨rfl, hN⟩; refine ⟨_, rfl, ?_⟩; have hB := hN.pure; have hS := hS.join hN; clear hN
  refine wpS_nil ?_
  refine QH_step hB ?_
  refine wpR_seal [false, false, false, false, false, false, false, false, false, false, false, true] 11 ⟨by decide, by kernel_rfl, by kernel_rfl⟩ rfl rfl ?_
  try dsimp only [pickL]
  refine wpS_store rfl rfl rfl CellsOf.agg hS ps0 st0_5 (by kernel_rfl) rfl (fun w hS hB => ?_)
  refine wpS_nil ?_
  refine QH_stepG (hB.sub (fun _ _ h => by simpa using h)) ?_
  refine wpR_batch [false, false, false, false, false, false, false, false, false, false, false, false, true] (by decide +kernel) (by repeat (first | exact PF.body | exact PF.round | apply PF.then | apply PF.inBlock | apply PF.jump)) ?_
  refine LtK.put rfl rfl rfl (yv_assign rfl) ?_
  refine LtK.nil ?_
  refine wpR_end (by kernel_rfl) ?_
  refine QH_seq_k hK12 ?_
  refine wpC_ret ?_
  refine QH_ret rfl (RV.cell rfl (load_boxA ag_23 hS hs0 sg0_5) (RV.tmp rfl RV.nil)) rfl ?_
  obtain rfl := Option.some.inj H
  replace hS := hS.cut 0
  exact ⟨rfl, hS⟩
theorem c_ref20_Right (x0 : Co) (A0_ : Option Addr) (c0_ : Nat) (A1_ : Option Addr) (c1_ : Nat) (A2_ : Option Addr) (c2_ : Nat) (A3_ : Option Addr) (c3_ : Nat) (A4_ : Option Addr) (c4_ : Nat) (w0 : World) (s0_ : SlI w0 enE A0_ c0_ x0.tuple.log) (s1_ : SlI w0 enO A1_ c1_ x0.votes) (s2_ : SlI w0 enI A2_ c2_ x0.next) (s3_ : SlI w0 enI A3_ c3_ x0.mtch) (s4_ : SlI w0 enI A4_ c4_ x0.caps) {r : Bool} (H : m_ref20_Right x0 = some r) : Calls Try.prog 10 #[.agg #[.int .i64 x0.id, .int .i64 x0.n, .int .u8 x0.role, .int .i64 x0.binary, .int .i64 x0.tuple.snap.index, .int .i64 x0.tuple.snap.term, .int .i64 x0.tuple.snap.sum, .int .i64 x0.tuple.snap.level, .bool x0.tuple.snap.final, .slice A0_ x0.tuple.log.length c0_, .int .i64 x0.tuple.term, .int .i64 x0.tuple.vote, .int .i64 x0.commit, .int .i64 x0.applied.index, .int .i64 x0.applied.term, .int .i64 x0.applied.sum, .int .i64 x0.applied.level, .bool x0.applied.final, .slice A1_ x0.votes.length c1_, .slice A2_ x0.next.length c2_, .slice A3_ x0.mtch.length c3_, .slice A4_ x0.caps.length c4_]] w0 fun e w' => e = .returned (.bool r) ∧ St0 All w0 w' [] := by
  unfold m_ref20_Right at H
  refine gw_enter1 Try.func10 rfl Try.ntmps10 rfl ?_
  have hS := St0.start All w0
  refine wpC_seq_k (fun K hK1 => ?_)
  refine wpC_region ?_
  refine wpS_box rfl rfl rfl CellsOf.agg hS (fun b2 w hS hB => ?_)
  refine wpS_quick 1 rfl ?_
  refine wpS_nil ?_
  refine QH_seq_k hK1 ?_
  refine wpC_seq_k (fun K hK4 => ?_)
  refine wpC_seq_k (fun K hK5 => ?_)
  refine wpC_region ?_
  refine wpS_put rfl rfl rfl (yv_fieldAddr fo_30_1 rfl) ?_
  refine wpS_put rfl rfl rfl (yv_load_box sc_3 rfl (RW.here _) hS hs0 trivial sg1_1) ?_
  refine wpS_put rfl rfl rfl (yv_lss rfl rfl) ?_
  refine wpS_quick 1 rfl ?_
  refine wpS_case 10 rfl (fun hb => ?_) (fun hb => ?_)
  · replace H := cond_t H hb
    refine wpS_quick 37 rfl ?_
    refine wpS_nil ?_
    refine QH_seq_k hK5 ?_
    refine wpC_cond_t rfl rfl ?_
    refine wpC_seq_k (fun K hK6 => ?_)
    refine wpC_region ?_
    refine wpS_quick 1 rfl ?_
    refine wpS_nil ?_
    refine QH_seq_k hK6 ?_
    refine wpC_ret ?_
    refine QH_then_ret ?_
    refine QH_ret rfl (RV.tmp rfl RV.nil) rfl ?_
    obtain rfl := Option.some.inj H
    replace hS := hS.cut 0
    exact ⟨rfl, hS⟩
  replace H := cond_f H hb
  refine wpS_put rfl rfl rfl (yv_fieldAddr fo_30_1 rfl) ?_
  refine wpS_put rfl rfl rfl (yv_load_box sc_3 rfl (RW.here _) hS hs0 trivial sg1_1) ?_
  refine wpS_put rfl rfl rfl (yv_gtr rfl rfl) ?_
  refine wpS_quick 2 rfl ?_
  refine wpS_case 15 rfl (fun hb => ?_) (fun hb => ?_)
  · replace H := cond_t H hb
    refine wpS_quick 32 rfl ?_
    refine wpS_nil ?_
    refine QH_seq_k hK5 ?_
    refine wpC_cond_t rfl rfl ?_
    refine wpC_seq_k (fun K hK7 => ?_)
    refine wpC_region ?_
    refine wpS_quick 1 rfl ?_
    refine wpS_nil ?_
    refine QH_seq_k hK7 ?_
    refine wpC_ret ?_
    refine QH_then_ret ?_
    refine QH_ret rfl (RV.tmp rfl RV.nil) rfl ?_
    obtain rfl := Option.some.inj H
    replace hS := hS.cut 0
    exact ⟨rfl, hS⟩
  replace H := cond_f H hb
  refine wpS_put rfl rfl rfl (yv_fieldAddr fo_30_0 rfl) ?_
  refine wpS_put rfl rfl rfl (yv_load_box sc_3 rfl (RW.here _) hS hs0 trivial sg0_1) ?_
  refine wpS_put rfl rfl rfl (yv_lss rfl rfl) ?_
  refine wpS_quick 2 rfl ?_
  refine wpS_case 20 rfl (fun hb => ?_) (fun hb => ?_)
  · replace H := cond_t H hb
    refine wpS_quick 27 rfl ?_
    refine wpS_nil ?_
    refine QH_seq_k hK5 ?_
    refine wpC_cond_t rfl rfl ?_
    refine wpC_seq_k (fun K hK8 => ?_)
    refine wpC_region ?_
    refine wpS_quick 1 rfl ?_
    refine wpS_nil ?_
    refine QH_seq_k hK8 ?_
    refine wpC_ret ?_
    refine QH_then_ret ?_
    refine QH_ret rfl (RV.tmp rfl RV.nil) rfl ?_
    obtain rfl := Option.some.inj H
    replace hS := hS.cut 0
    exact ⟨rfl, hS⟩
  replace H := cond_f H hb
  refine wpS_put rfl rfl rfl (yv_fieldAddr fo_30_0 rfl) ?_
  refine wpS_put rfl rfl rfl (yv_load_box sc_3 rfl (RW.here _) hS hs0 trivial sg0_1) ?_
  refine wpS_put rfl rfl rfl (yv_fieldAddr fo_30_1 rfl) ?_
  refine wpS_put rfl rfl rfl (yv_load_box sc_3 rfl (RW.here _) hS hs0 trivial sg1_1) ?_
  refine wpS_put rfl rfl rfl (yv_gtr rfl rfl) ?_
  refine wpS_quick 2 rfl ?_
  refine wpS_case 27 rfl (fun hb => ?_) (fun hb => ?_)
  · replace H := cond_t H hb
    refine wpS_quick 20 rfl ?_
    refine wpS_nil ?_
    refine QH_seq_k hK5 ?_
    refine wpC_cond_t rfl rfl ?_
    refine wpC_seq_k (fun K hK9 => ?_)
    refine wpC_region ?_
    refine wpS_quick 1 rfl ?_
    refine wpS_nil ?_
    refine QH_seq_k hK9 ?_
    refine wpC_ret ?_
    refine QH_then_ret ?_
    refine QH_ret rfl (RV.tmp rfl RV.nil) rfl ?_
    obtain rfl := Option.some.inj H
    replace hS := hS.cut 0
    exact ⟨rfl, hS⟩
  replace H := cond_f H hb
  refine wpS_put rfl rfl rfl (yv_fieldAddr fo_30_2 rfl) ?_
  refine wpS_put rfl rfl rfl (yv_load_box sc_5 rfl (RW.here _) hS hs0 trivial sg2_1) ?_
  refine wpS_put rfl rfl rfl (yv_gtr rfl rfl) ?_
  refine wpS_quick 2 rfl ?_
  refine wpS_case 32 rfl (fun hb => ?_) (fun hb => ?_)
  · replace H := cond_t H hb
    refine wpS_quick 15 rfl ?_
    refine wpS_nil ?_
    refine QH_seq_k hK5 ?_
    refine wpC_cond_t rfl rfl ?_
    refine wpC_seq_k (fun K hK10 => ?_)
    refine wpC_region ?_
    refine wpS_quick 1 rfl ?_
    refine wpS_nil ?_
    refine QH_seq_k hK10 ?_
    refine wpC_ret ?_
    refine QH_then_ret ?_
    refine QH_ret rfl (RV.tmp rfl RV.nil) rfl ?_
    obtain rfl := Option.some.inj H
    replace hS := hS.cut 0
    exact ⟨rfl, hS⟩
  replace H := cond_f H hb
  refine wpS_put rfl rfl rfl (yv_fieldAddr fo_30_3 rfl) ?_
  refine wpS_put rfl rfl rfl (yv_load_box sc_3 rfl (RW.here _) hS hs0 trivial sg3_1) ?_
  refine wpS_put rfl rfl rfl (yv_lss rfl rfl) ?_
  refine wpS_quick 2 rfl ?_
  refine wpS_case 37 rfl (fun hb => ?_) (fun hb => ?_)
  · replace H := cond_t H hb
    refine wpS_quick 10 rfl ?_
    refine wpS_nil ?_
    refine QH_seq_k hK5 ?_
    refine wpC_cond_t rfl rfl ?_
    refine wpC_seq_k (fun K hK11 => ?_)
    refine wpC_region ?_
    refine wpS_quick 1 rfl ?_
    refine wpS_nil ?_
    refine QH_seq_k hK11 ?_
    refine wpC_ret ?_
    refine QH_then_ret ?_
    refine QH_ret rfl (RV.tmp rfl RV.nil) rfl ?_
    obtain rfl := Option.some.inj H
    replace hS := hS.cut 0
    exact ⟨rfl, hS⟩
  replace H := cond_f H hb
  refine wpS_put rfl rfl rfl (yv_fieldAddr fo_30_3 rfl) ?_
  refine wpS_put rfl rfl rfl (yv_load_box sc_3 rfl (RW.here _) hS hs0 trivial sg3_1) ?_
  refine wpS_put rfl rfl rfl (yv_gtr rfl rfl) ?_
  refine wpS_quick 2 rfl ?_
  refine wpS_case 42 rfl (fun hb => ?_) (fun hb => ?_)
  · replace H := cond_t H hb
    refine wpS_quick 5 rfl ?_
    refine wpS_nil ?_
    refine QH_seq_k hK5 ?_
    refine wpC_cond_t rfl rfl ?_
    refine wpC_seq_k (fun K hK12 => ?_)
    refine wpC_region ?_
    refine wpS_quick 1 rfl ?_
    refine wpS_nil ?_
    refine QH_seq_k hK12 ?_
    refine wpC_ret ?_
    refine QH_then_ret ?_
    refine QH_ret rfl (RV.tmp rfl RV.nil) rfl ?_
    obtain rfl := Option.some.inj H
    replace hS := hS.cut 0
    exact ⟨rfl, hS⟩
  replace H := cond_f H hb
  refine wpS_put rfl rfl rfl (yv_fieldAddr fo_30_4 rfl) ?_
  refine wpS_put rfl rfl rfl (yv_load_boxA ag_26 rfl (RW.here _) hS hs0 trivial sg4_8) ?_
  obtain ⟨r13, hm14, H⟩ := bind_some H
  refine wpS_call rfl rfl rfl rfl (by kernel_rfl) rfl (c_ref12_Right x0.tuple A0_ c0_ _ (SlI.of_rd s0_.k (hS.rd0 s0_.rd) (hS.blk0 s0_.blk)) hm14) ?_
  rintro e w ⟨rfl, hN⟩; refine ⟨_, rfl, ?_⟩; have hB := hN.pure; have hS := hS.join hN; clear hN
  refine wpS_put rfl rfl rfl (yv_not rfl) ?_
  refine wpS_quick 1 rfl ?_
  refine wpS_nil ?_
  refine QH_seq_k hK5 ?_
  refine wpC_cond rfl (fun hb => ?_) (fun hb => ?_)
  · replace H := cond_t H hb
    refine wpC_seq_k (fun K hK15 => ?_)
    refine wpC_region ?_
    refine wpS_quick 1 rfl ?_
    refine wpS_nil ?_
    refine QH_seq_k hK15 ?_
    refine wpC_ret ?_
    refine QH_then_ret ?_
    refine QH_ret rfl (RV.tmp rfl RV.nil) rfl ?_
    obtain rfl := Option.some.inj H
    replace hS := hS.cut 0
    exact ⟨rfl, hS⟩
  replace H := cond_f H hb
  refine wpC_skip ?_
  refine QH_seq_k hK4 ?_
  refine wpC_seq_k (fun K hK16 => ?_)
  refine wpC_region ?_
  refine wpS_put rfl rfl rfl (yv_fieldAddr fo_30_4 rfl) ?_
  refine wpS_put rfl rfl rfl (yv_load_boxA ag_26 rfl (RW.here _) hS hs0 trivial sg4_8) ?_
  refine wpS_put rfl rfl rfl (yv_fieldAddr fo_30_5 rfl) ?_
  refine wpS_put rfl rfl rfl (yv_load_box sc_3 rfl (RW.here _) hS hs0 trivial sg12_1) ?_
  obtain ⟨r17, hm18, H⟩ := bind_some H
  refine wpS_call rfl rfl rfl rfl (by kernel_rfl) rfl (c_ref12_State x0.tuple x0.commit A0_ c0_ _ (SlI.of_rd s0_.k (hS.rd0 s0_.rd) (hS.blk0 s0_.blk)) hm18) ?_
  rintro e w ⟨rfl, hN⟩; refine ⟨_, rfl, ?_⟩; have hB := hN.pure; have hS := hS.join hN; clear hN
  refine wpS_quick 1 rfl ?_
  refine wpS_put rfl rfl rfl (yv_extract rfl rfl) ?_
  refine wpS_put rfl rfl rfl (yv_extract rfl rfl) ?_
  refine wpS_alloc rfl rfl zc_23 hS (fun b19 w hS hB => ?_)
  refine wpS_store rfl rfl rfl CellsOf.agg hS ps0 st0_5 (by kernel_rfl) rfl (fun w hS hB => ?_)
  refine wpS_quick 1 rfl ?_
  refine wpS_nil ?_
  refine QH_seq_k hK16 ?_
  refine wpC_seq_k (fun K hK21 => ?_)
  refine wpC_seq_k (fun K hK22 => ?_)
  refine wpC_region ?_
  refine wpS_quick 1 rfl ?_
  refine wpS_put rfl rfl rfl (yv_not rfl) ?_
  refine wpS_quick 1 rfl ?_
  refine wpS_case 58 rfl (fun hb => ?_) (fun hb => ?_)
  · replace H := cond_t H hb
    refine wpS_quick 37 rfl ?_
    refine wpS_nil ?_
    refine QH_seq_k hK22 ?_
    refine wpC_cond_t rfl rfl ?_
    refine wpC_seq_k (fun K hK23 => ?_)
    refine wpC_region ?_
    refine wpS_quick 1 rfl ?_
    refine wpS_nil ?_
    refine QH_seq_k hK23 ?_
    refine wpC_ret ?_
    refine QH_then_ret ?_
    refine QH_ret rfl (RV.tmp rfl RV.nil) rfl ?_
    obtain rfl := Option.some.inj H
    replace hS := hS.cut 0
    exact ⟨rfl, hS⟩
  replace H := cond_f H hb
  refine wpS_put rfl rfl rfl (yv_load_boxA ag_23 rfl (RW.here _) hS hs0 trivial sg0_5) ?_
  refine wpS_put rfl rfl rfl (yv_fieldAddr fo_30_6 rfl) ?_
  refine wpS_put rfl rfl rfl (yv_load_boxA ag_23 rfl (RW.here _) hS hs1 trivial sg13_5) ?_
  refine wpS_put rfl rfl rfl (yv_neqS (by kernel_rfl) rfl rfl (eqT_23 _ _ _ _ _ _ _ _ _ _)) ?_
  refine wpS_quick 2 rfl ?_
  refine wpS_case 64 rfl (fun hb => ?_) (fun hb => ?_)
  · replace H := cond_t H hb
    refine wpS_quick 31 rfl ?_
    refine wpS_nil ?_
    refine QH_seq_k hK22 ?_
    refine wpC_cond_t rfl rfl ?_
    refine wpC_seq_k (fun K hK24 => ?_)
    refine wpC_region ?_
    refine wpS_quick 1 rfl ?_
    refine wpS_nil ?_
    refine QH_seq_k hK24 ?_
    refine wpC_ret ?_
    refine QH_then_ret ?_
    refine QH_ret rfl (RV.tmp rfl RV.nil) rfl ?_
    obtain rfl := Option.some.inj H
    replace hS := hS.cut 0
    exact ⟨rfl, hS⟩
  replace H := cond_f H hb
  refine wpS_put rfl rfl rfl (yv_fieldAddr fo_30_7 rfl) ?_
  refine wpS_put rfl rfl rfl (yv_load_box sc_27 rfl (RW.here _) hS hs1 trivial sg18_1) ?_
  refine wpS_put rfl rfl rfl (yv_len el_27 rfl) ?_
  refine wpS_put rfl rfl rfl (yv_fieldAddr fo_30_1 rfl) ?_
  refine wpS_put rfl rfl rfl (yv_load_box sc_3 rfl (RW.here _) hS hs1 trivial sg1_1) ?_
  refine wpS_put rfl rfl rfl (yv_neq rfl rfl) ?_
  refine wpS_quick 2 rfl ?_
  refine wpS_case 72 rfl (fun hb => ?_) (fun hb => ?_)
  · replace H := cond_t H hb
    refine wpS_quick 23 rfl ?_
    refine wpS_nil ?_
    refine QH_seq_k hK22 ?_
    refine wpC_cond_t rfl rfl ?_
    refine wpC_seq_k (fun K hK25 => ?_)
    refine wpC_region ?_
    refine wpS_quick 1 rfl ?_
    refine wpS_nil ?_
    refine QH_seq_k hK25 ?_
    refine wpC_ret ?_
    refine QH_then_ret ?_
    refine QH_ret rfl (RV.tmp rfl RV.nil) rfl ?_
    obtain rfl := Option.some.inj H
    replace hS := hS.cut 0
    exact ⟨rfl, hS⟩
  replace H := cond_f H hb
  refine wpS_put rfl rfl rfl (yv_fieldAddr fo_30_8 rfl) ?_
  refine wpS_put rfl rfl rfl (yv_load_box sc_28 rfl (RW.here _) hS hs1 trivial sg19_1) ?_
  refine wpS_put rfl rfl rfl (yv_len el_28 rfl) ?_
  refine wpS_put rfl rfl rfl (yv_fieldAddr fo_30_1 rfl) ?_
  refine wpS_put rfl rfl rfl (yv_load_box sc_3 rfl (RW.here _) hS hs1 trivial sg1_1) ?_
  refine wpS_put rfl rfl rfl (yv_neq rfl rfl) ?_
  refine wpS_quick 2 rfl ?_
  refine wpS_case 80 rfl (fun hb => ?_) (fun hb => ?_)
  · replace H := cond_t H hb
    refine wpS_quick 15 rfl ?_
    refine wpS_nil ?_
    refine QH_seq_k hK22 ?_
    refine wpC_cond_t rfl rfl ?_
    refine wpC_seq_k (fun K hK26 => ?_)
    refine wpC_region ?_
    refine wpS_quick 1 rfl ?_
    refine wpS_nil ?_
    refine QH_seq_k hK26 ?_
    refine wpC_ret ?_
    refine QH_then_ret ?_
    refine QH_ret rfl (RV.tmp rfl RV.nil) rfl ?_
    obtain rfl := Option.some.inj H
    replace hS := hS.cut 0
    exact ⟨rfl, hS⟩
  replace H := cond_f H hb
  refine wpS_put rfl rfl rfl (yv_fieldAddr fo_30_9 rfl) ?_
  refine wpS_put rfl rfl rfl (yv_load_box sc_28 rfl (RW.here _) hS hs1 trivial sg20_1) ?_
  refine wpS_put rfl rfl rfl (yv_len el_28 rfl) ?_
  refine wpS_put rfl rfl rfl (yv_fieldAddr fo_30_1 rfl) ?_
  refine wpS_put rfl rfl rfl (yv_load_box sc_3 rfl (RW.here _) hS hs1 trivial sg1_1) ?_
  refine wpS_put rfl rfl rfl (yv_neq rfl rfl) ?_
  refine wpS_quick 2 rfl ?_
  refine wpS_case 88 rfl (fun hb => ?_) (fun hb => ?_)
  · replace H := cond_t H hb
    refine wpS_quick 7 rfl ?_
    refine wpS_nil ?_
    refine QH_seq_k hK22 ?_
    refine wpC_cond_t rfl rfl ?_
    refine wpC_seq_k (fun K hK27 => ?_)
    refine wpC_region ?_
    refine wpS_quick 1 rfl ?_
    refine wpS_nil ?_
    refine QH_seq_k hK27 ?_
    refine wpC_ret ?_
    refine QH_then_ret ?_
    refine QH_ret rfl (RV.tmp rfl RV.nil) rfl ?_
    obtain rfl := Option.some.inj H
    replace hS := hS.cut 0
    exact ⟨rfl, hS⟩
  replace H := cond_f H hb
  refine wpS_put rfl rfl rfl (yv_fieldAddr fo_30_10 rfl) ?_
  refine wpS_put rfl rfl rfl (yv_load_box sc_28 rfl (RW.here _) hS hs1 trivial sg21_1) ?_
  refine wpS_put rfl rfl rfl (yv_len el_28 rfl) ?_
  refine wpS_put rfl rfl rfl (yv_fieldAddr fo_30_1 rfl) ?_
  refine wpS_put rfl rfl rfl (yv_load_box sc_3 rfl (RW.here _) hS hs1 trivial sg1_1) ?_
  refine wpS_put rfl rfl rfl (yv_neq rfl rfl) ?_
  refine wpS_quick 1 rfl ?_
  refine wpS_nil ?_
  refine QH_seq_k hK22 ?_
  refine wpC_cond rfl (fun hb => ?_) (fun hb => ?_)
  · replace H := cond_t H hb
    refine wpC_seq_k (fun K hK28 => ?_)
    refine wpC_region ?_
    refine wpS_quick 1 rfl ?_
    refine wpS_nil ?_
    refine QH_seq_k hK28 ?_
    refine wpC_ret ?_
    refine QH_then_ret ?_
    refine QH_ret rfl (RV.tmp rfl RV.nil) rfl ?_
    obtain rfl := Option.some.inj H
    replace hS := hS.cut 0
    exact ⟨rfl, hS⟩
  replace H := cond_f H hb
  refine wpC_skip ?_
  refine QH_seq_k hK21 ?_
  refine wpC_seq_k (fun K hK29 => ?_)
  refine wpC_region ?_
  refine wpS_put rfl rfl rfl (yv_fieldAddr fo_30_4 rfl) ?_
  refine wpS_put rfl rfl rfl (yv_load_boxA ag_26 rfl (RW.here _) hS hs1 trivial sg4_8) ?_
  obtain ⟨r30, hm31, H⟩ := bind_some H
  refine wpS_call rfl rfl rfl rfl (by kernel_rfl) rfl (c_ref12_Last x0.tuple A0_ c0_ _ (SlI.of_rd s0_.k (hS.rd0 s0_.rd) (hS.blk0 s0_.blk)) hm31) ?_
  rintro e w ⟨rfl, hN⟩; refine ⟨_, rfl, ?_⟩; have hB := hN.pure; have hS := hS.join hN; clear hN
  refine wpS_quick 1 rfl ?_
  refine wpS_nil ?_
  refine QH_seq_k hK29 ?_
  refine wpC_seq_k (fun K hK32 => ?_)
  refine wpC_seq_k (fun K hK33 => ?_)
  refine wpC_region ?_
  refine wpS_quick 1 rfl ?_
  refine wpS_nil ?_
  refine QH_seq_k hK33 ?_
  refine wpC_block ?_
  refine wpC_loop (X := Nat × Bool × Int) (fun x => (1, .pointer (some ⟨b2, 0, none⟩)) :: (2, .bool x.2.1) :: (5, .int .i64 r30) :: (6, .int .i64 x.2.2) :: []) (fun x w => St0 All w0 w (.box b19 [.int .i64 r17.1.index, .int .i64 r17.1.term, .int .i64 r17.1.sum, .int .i64 r17.1.level, .bool r17.1.final] 23 :: .box b2 [.int .i64 x0.id, .int .i64 x0.n, .int .u8 x0.role, .int .i64 x0.binary, .int .i64 x0.tuple.snap.index, .int .i64 x0.tuple.snap.term, .int .i64 x0.tuple.snap.sum, .int .i64 x0.tuple.snap.level, .bool x0.tuple.snap.final, .slice A0_ x0.tuple.log.length c0_, .int .i64 x0.tuple.term, .int .i64 x0.tuple.vote, .int .i64 x0.commit, .int .i64 x0.applied.index, .int .i64 x0.applied.term, .int .i64 x0.applied.sum, .int .i64 x0.applied.level, .bool x0.applied.final, .slice A1_ x0.votes.length c1_, .slice A2_ x0.next.length c2_, .slice A3_ x0.mtch.length c3_, .slice A4_ x0.caps.length c4_] 30 :: []) ∧ m_ref20_Right_l1 x0 r30 x.1 x.2.1 x.2.2 = some r) (fun x => x.1) (fuelN, false, 0) (by repeat (first | exact Sub.nil | refine Sub.cons rfl ?_)) ⟨hS, H⟩ ?_
  rintro ⟨n, v34, v35⟩ w ⟨hS, H⟩
  dsimp only at hS H ⊢
  obtain _ | n := n
  · have H0 : none = some r := H
    cases H0
  rw [m_ref20_Right_l1] at H
  refine wpC_seq_k (fun K hK36 => ?_)
  refine wpC_seq_k (fun K hK37 => ?_)
  refine wpC_region ?_
  refine wpS_quick 1 rfl ?_
  refine wpS_put rfl rfl rfl (yv_fieldAddr fo_30_1 rfl) ?_
  refine wpS_put rfl rfl rfl (yv_load_box sc_3 rfl (RW.here _) hS hs1 trivial sg1_1) ?_
  refine wpS_put rfl rfl rfl (yv_lss rfl rfl) ?_
  refine wpS_nil ?_
  refine QH_seq_k hK37 ?_
  refine wpC_cond rfl (fun hb => ?_) (fun hb => ?_)
  rotate_left
  · replace H := cond_f H hb
    refine wpC_exit ?_
    refine QH_then_exit ?_
    refine QH_then_exit ?_
    refine QH_block_hit ?_
    refine QH_seq_k hK32 ?_
    refine wpC_seq_k (fun K hK64 => ?_)
    refine wpC_seq_k (fun K hK65 => ?_)
    refine wpC_region ?_
    refine wpS_put rfl rfl rfl (yv_fieldAddr fo_30_2 rfl) ?_
    refine wpS_put rfl rfl rfl (yv_load_box sc_5 rfl (RW.here _) hS hs1 trivial sg2_1) ?_
    refine wpS_put rfl rfl rfl (yv_neq rfl rfl) ?_
    refine wpS_quick 1 rfl ?_
    refine wpS_case 157 rfl (fun hb => ?_) (fun hb => ?_)
    rotate_left
    · replace H := cond_f H hb
      refine wpS_quick 13 rfl ?_
      refine wpS_nil ?_
      refine QH_seq_k hK65 ?_
      refine wpC_cond_f rfl rfl ?_
      refine wpC_skip ?_
      refine QH_seq_k hK64 ?_
      refine wpC_seq_k (fun K hK72 => ?_)
      refine wpC_draw 11 [] (fun _ _ => True) ⟨by kernel_rfl, by kernel_rfl⟩ hS (fun w hS hB => ?_)
      refine wpR_batch [true, true, true, true, true, true, true, true, true, true, true] (by decide +kernel) (by repeat (first | exact PF.body | exact PF.round | apply PF.then | apply PF.inBlock | apply PF.jump)) ?_
      refine LtK.put rfl rfl rfl (yv_fieldAddr fo_30_10 rfl) ?_
      refine LtK.put rfl rfl rfl (yv_load_box sc_28 rfl (RW.below _) hS hs1 trivial sg21_1) ?_
      refine LtK.put rfl rfl rfl (yv_fieldAddr fo_30_0 rfl) ?_
      refine LtK.put rfl rfl rfl (yv_load_box sc_3 rfl (RW.below _) hS hs1 trivial sg0_1) ?_
      refine LtK.put rfl rfl rfl (yx_sub rfl rfl) ?_
      obtain ⟨e73, hi75, H⟩ := bind_some H
      obtain ⟨j74, hi75a, hi75b, hi75c⟩ := idx_some hi75
      refine LtK.put rfl rfl rfl (yx_idx el_28 rfl rfl hi75a hi75c (Rd.el (hS.rd0 s4_.rd) he_enI hi75b)) ?_
      refine LtK.put rfl rfl rfl (yx_ld0 sc_3 rfl (RW.below _) (Rd.el (hS.rd0 s4_.rd) he_enI hi75b) rfl) ?_
      refine LtK.put rfl rfl rfl (yv_fieldAddr fo_30_3 rfl) ?_
      refine LtK.put rfl rfl rfl (yv_load_box sc_3 rfl (RW.below _) hS hs1 trivial sg3_1) ?_
      refine LtK.put rfl rfl rfl (yv_eql rfl rfl) ?_
      refine LtK.put rfl rfl rfl (yv_assign rfl) ?_
      refine LtK.nil ?_
      refine wpR_end (by kernel_rfl) ?_
      refine QH_seq_k hK72 ?_
      refine wpC_ret ?_
      refine QH_ret rfl (RV.tmp rfl RV.nil) rfl ?_
      obtain rfl := Option.some.inj H
      replace hS := hS.cut 0
      exact ⟨rfl, hS⟩
    replace H := cond_t H hb
    refine wpS_put rfl rfl rfl (yv_fieldAddr fo_30_4 rfl) ?_
    refine wpS_put rfl rfl rfl (yv_fieldAddr fo_26_2 rfl) ?_
    refine wpS_put rfl rfl rfl (yv_load_box sc_3 rfl (RW.here _) hS hs1 trivial sg10_1) ?_
    refine wpS_put rfl rfl rfl (yv_lss rfl rfl) ?_
    refine wpS_quick 1 rfl ?_
    refine wpS_case 162 rfl (fun hb => ?_) (fun hb => ?_)
    · replace H := cond_t H hb
      refine wpS_quick 8 rfl ?_
      refine wpS_nil ?_
      refine QH_seq_k hK65 ?_
      refine wpC_cond_t rfl rfl ?_
      refine wpC_seq_k (fun K hK66 => ?_)
      refine wpC_region ?_
      refine wpS_quick 1 rfl ?_
      refine wpS_nil ?_
      refine QH_seq_k hK66 ?_
      refine wpC_ret ?_
      refine QH_then_ret ?_
      refine QH_ret rfl (RV.tmp rfl RV.nil) rfl ?_
      obtain rfl := Option.some.inj H
      replace hS := hS.cut 0
      exact ⟨rfl, hS⟩
    replace H := cond_f H hb
    refine wpS_put rfl rfl rfl (yv_fieldAddr fo_30_4 rfl) ?_
    refine wpS_put rfl rfl rfl (yv_fieldAddr fo_26_3 rfl) ?_
    refine wpS_put rfl rfl rfl (yv_load_box sc_3 rfl (RW.here _) hS hs1 trivial sg11_1) ?_
    refine wpS_put rfl rfl rfl (yv_fieldAddr fo_30_0 rfl) ?_
    refine wpS_put rfl rfl rfl (yv_load_box sc_3 rfl (RW.here _) hS hs1 trivial sg0_1) ?_
    refine wpS_put rfl rfl rfl (yv_neq rfl rfl) ?_
    refine wpS_quick 2 rfl ?_
    refine wpS_nil ?_
    refine QH_seq_k hK65 ?_
    refine wpC_cond rfl (fun hb => ?_) (fun hb => ?_)
    · replace H := cond_t H hb
      refine wpC_seq_k (fun K hK67 => ?_)
      refine wpC_region ?_
      refine wpS_quick 1 rfl ?_
      refine wpS_nil ?_
      refine QH_seq_k hK67 ?_
      refine wpC_ret ?_
      refine QH_then_ret ?_
      refine QH_ret rfl (RV.tmp rfl RV.nil) rfl ?_
      obtain rfl := Option.some.inj H
      replace hS := hS.cut 0
      exact ⟨rfl, hS⟩
    replace H := cond_f H hb
    refine wpC_skip ?_
    refine QH_seq_k hK64 ?_
    refine wpC_seq_k (fun K hK68 => ?_)
    refine wpC_draw 11 [] (fun _ _ => True) ⟨by kernel_rfl, by kernel_rfl⟩ hS (fun w hS hB => ?_)
    refine wpR_batch [true, true, true, true, true, true, true, true, true, true, true] (by decide +kernel) (by repeat (first | exact PF.body | exact PF.round | apply PF.then | apply PF.inBlock | apply PF.jump)) ?_
    refine LtK.put rfl rfl rfl (yv_fieldAddr fo_30_10 rfl) ?_
    refine LtK.put rfl rfl rfl (yv_load_box sc_28 rfl (RW.below _) hS hs1 trivial sg21_1) ?_
    refine LtK.put rfl rfl rfl (yv_fieldAddr fo_30_0 rfl) ?_
    refine LtK.put rfl rfl rfl (yv_load_box sc_3 rfl (RW.below _) hS hs1 trivial sg0_1) ?_
    refine LtK.put rfl rfl rfl (yx_sub rfl rfl) ?_
    obtain ⟨e69, hi71, H⟩ := bind_some H
    obtain ⟨j70, hi71a, hi71b, hi71c⟩ := idx_some hi71
    refine LtK.put rfl rfl rfl (yx_idx el_28 rfl rfl hi71a hi71c (Rd.el (hS.rd0 s4_.rd) he_enI hi71b)) ?_
    refine LtK.put rfl rfl rfl (yx_ld0 sc_3 rfl (RW.below _) (Rd.el (hS.rd0 s4_.rd) he_enI hi71b) rfl) ?_
    refine LtK.put rfl rfl rfl (yv_fieldAddr fo_30_3 rfl) ?_
    refine LtK.put rfl rfl rfl (yv_load_box sc_3 rfl (RW.below _) hS hs1 trivial sg3_1) ?_
    refine LtK.put rfl rfl rfl (yv_eql rfl rfl) ?_
    refine LtK.put rfl rfl rfl (yv_assign rfl) ?_
    refine LtK.nil ?_
    refine wpR_end (by kernel_rfl) ?_
    refine QH_seq_k hK68 ?_
    refine wpC_ret ?_
    refine QH_ret rfl (RV.tmp rfl RV.nil) rfl ?_
    obtain rfl := Option.some.inj H
    replace hS := hS.cut 0
    exact ⟨rfl, hS⟩
  replace H := cond_t H hb
  refine wpC_skip ?_
  refine QH_seq_k hK36 ?_
  refine wpC_seq_k (fun K hK38 => ?_)
  refine wpC_block ?_
  refine wpC_seq_k (fun K hK39 => ?_)
  refine wpC_region ?_
  refine wpS_put rfl rfl rfl (yv_fieldAddr fo_30_8 rfl) ?_
  refine wpS_put rfl rfl rfl (yv_load_box sc_28 rfl (RW.here _) hS hs1 trivial sg19_1) ?_
  refine wpS_quick 1 rfl ?_
  obtain ⟨e40, hi42, H⟩ := bind_some H
  obtain ⟨j41, hi42a, hi42b, hi42c⟩ := idx_some hi42
  refine wpS_put rfl rfl rfl (yx_idx el_28 rfl rfl hi42a hi42c (Rd.el (hS.rd0 s2_.rd) he_enI hi42b)) ?_
  refine wpS_put rfl rfl rfl (yx_ld0 sc_3 rfl (RW.here _) (Rd.el (hS.rd0 s2_.rd) he_enI hi42b) rfl) ?_
  refine wpS_put rfl rfl rfl (yv_lss rfl rfl) ?_
  refine wpS_quick 1 rfl ?_
  refine wpS_case 111 rfl (fun hb => ?_) (fun hb => ?_)
  · replace H := cond_t H hb
    refine wpS_quick 42 rfl ?_
    refine wpS_nil ?_
    refine QH_seq_k hK39 ?_
    refine wpC_cond_t rfl rfl ?_
    refine wpC_seq_k (fun K hK43 => ?_)
    refine wpC_region ?_
    refine wpS_quick 1 rfl ?_
    refine wpS_nil ?_
    refine QH_seq_k hK43 ?_
    refine wpC_ret ?_
    refine QH_block_ret ?_
    refine QH_then_ret ?_
    refine QH_then_ret ?_
    refine QH_block_ret ?_
    refine QH_then_ret ?_
    refine QH_ret rfl (RV.tmp rfl RV.nil) rfl ?_
    obtain rfl := Option.some.inj H
    replace hS := hS.cut 0
    exact ⟨rfl, hS⟩
  replace H := cond_f H hb
  refine wpS_put rfl rfl rfl (yv_fieldAddr fo_30_8 rfl) ?_
  refine wpS_put rfl rfl rfl (yv_load_box sc_28 rfl (RW.here _) hS hs1 trivial sg19_1) ?_
  refine wpS_quick 1 rfl ?_
  obtain ⟨e44, hi46, H⟩ := bind_some H
  obtain ⟨j45, hi46a, hi46b, hi46c⟩ := idx_some hi46
  refine wpS_put rfl rfl rfl (yx_idx el_28 rfl rfl hi46a hi46c (Rd.el (hS.rd0 s2_.rd) he_enI hi46b)) ?_
  refine wpS_put rfl rfl rfl (yx_ld0 sc_3 rfl (RW.here _) (Rd.el (hS.rd0 s2_.rd) he_enI hi46b) rfl) ?_
  refine wpS_quick 1 rfl ?_
  refine wpS_put rfl rfl rfl (yx_add rfl rfl) ?_
  refine wpS_put rfl rfl rfl (yv_gtr rfl rfl) ?_
  refine wpS_quick 2 rfl ?_
  refine wpS_case 121 rfl (fun hb => ?_) (fun hb => ?_)
  · replace H := cond_t H hb
    refine wpS_quick 32 rfl ?_
    refine wpS_nil ?_
    refine QH_seq_k hK39 ?_
    refine wpC_cond_t rfl rfl ?_
    refine wpC_seq_k (fun K hK47 => ?_)
    refine wpC_region ?_
    refine wpS_quick 1 rfl ?_
    refine wpS_nil ?_
    refine QH_seq_k hK47 ?_
    refine wpC_ret ?_
    refine QH_block_ret ?_
    refine QH_then_ret ?_
    refine QH_then_ret ?_
    refine QH_block_ret ?_
    refine QH_then_ret ?_
    refine QH_ret rfl (RV.tmp rfl RV.nil) rfl ?_
    obtain rfl := Option.some.inj H
    replace hS := hS.cut 0
    exact ⟨rfl, hS⟩
  replace H := cond_f H hb
  refine wpS_put rfl rfl rfl (yv_fieldAddr fo_30_9 rfl) ?_
  refine wpS_put rfl rfl rfl (yv_load_box sc_28 rfl (RW.here _) hS hs1 trivial sg20_1) ?_
  refine wpS_quick 1 rfl ?_
  obtain ⟨e48, hi50, H⟩ := bind_some H
  obtain ⟨j49, hi50a, hi50b, hi50c⟩ := idx_some hi50
  refine wpS_put rfl rfl rfl (yx_idx el_28 rfl rfl hi50a hi50c (Rd.el (hS.rd0 s3_.rd) he_enI hi50b)) ?_
  refine wpS_put rfl rfl rfl (yx_ld0 sc_3 rfl (RW.here _) (Rd.el (hS.rd0 s3_.rd) he_enI hi50b) rfl) ?_
  refine wpS_put rfl rfl rfl (yv_lss rfl rfl) ?_
  refine wpS_quick 2 rfl ?_
  refine wpS_case 129 rfl (fun hb => ?_) (fun hb => ?_)
  · replace H := cond_t H hb
    refine wpS_quick 24 rfl ?_
    refine wpS_nil ?_
    refine QH_seq_k hK39 ?_
    refine wpC_cond_t rfl rfl ?_
    refine wpC_seq_k (fun K hK51 => ?_)
    refine wpC_region ?_
    refine wpS_quick 1 rfl ?_
    refine wpS_nil ?_
    refine QH_seq_k hK51 ?_
    refine wpC_ret ?_
    refine QH_block_ret ?_
    refine QH_then_ret ?_
    refine QH_then_ret ?_
    refine QH_block_ret ?_
    refine QH_then_ret ?_
    refine QH_ret rfl (RV.tmp rfl RV.nil) rfl ?_
    obtain rfl := Option.some.inj H
    replace hS := hS.cut 0
    exact ⟨rfl, hS⟩
  replace H := cond_f H hb
  refine wpS_put rfl rfl rfl (yv_fieldAddr fo_30_9 rfl) ?_
  refine wpS_put rfl rfl rfl (yv_load_box sc_28 rfl (RW.here _) hS hs1 trivial sg20_1) ?_
  refine wpS_quick 1 rfl ?_
  obtain ⟨e52, hi54, H⟩ := bind_some H
  obtain ⟨j53, hi54a, hi54b, hi54c⟩ := idx_some hi54
  refine wpS_put rfl rfl rfl (yx_idx el_28 rfl rfl hi54a hi54c (Rd.el (hS.rd0 s3_.rd) he_enI hi54b)) ?_
  refine wpS_put rfl rfl rfl (yx_ld0 sc_3 rfl (RW.here _) (Rd.el (hS.rd0 s3_.rd) he_enI hi54b) rfl) ?_
  refine wpS_quick 1 rfl ?_
  refine wpS_put rfl rfl rfl (yv_gtr rfl rfl) ?_
  refine wpS_quick 2 rfl ?_
  refine wpS_case 138 rfl (fun hb => ?_) (fun hb => ?_)
  · replace H := cond_t H hb
    refine wpS_quick 15 rfl ?_
    refine wpS_nil ?_
    refine QH_seq_k hK39 ?_
    refine wpC_cond_t rfl rfl ?_
    refine wpC_seq_k (fun K hK55 => ?_)
    refine wpC_region ?_
    refine wpS_quick 1 rfl ?_
    refine wpS_nil ?_
    refine QH_seq_k hK55 ?_
    refine wpC_ret ?_
    refine QH_block_ret ?_
    refine QH_then_ret ?_
    refine QH_then_ret ?_
    refine QH_block_ret ?_
    refine QH_then_ret ?_
    refine QH_ret rfl (RV.tmp rfl RV.nil) rfl ?_
    obtain rfl := Option.some.inj H
    replace hS := hS.cut 0
    exact ⟨rfl, hS⟩
  replace H := cond_f H hb
  refine wpS_put rfl rfl rfl (yv_fieldAddr fo_30_10 rfl) ?_
  refine wpS_put rfl rfl rfl (yv_load_box sc_28 rfl (RW.here _) hS hs1 trivial sg21_1) ?_
  refine wpS_quick 1 rfl ?_
  obtain ⟨e56, hi58, H⟩ := bind_some H
  obtain ⟨j57, hi58a, hi58b, hi58c⟩ := idx_some hi58
  refine wpS_put rfl rfl rfl (yx_idx el_28 rfl rfl hi58a hi58c (Rd.el (hS.rd0 s4_.rd) he_enI hi58b)) ?_
  refine wpS_put rfl rfl rfl (yx_ld0 sc_3 rfl (RW.here _) (Rd.el (hS.rd0 s4_.rd) he_enI hi58b) rfl) ?_
  refine wpS_put rfl rfl rfl (yv_lss rfl rfl) ?_
  refine wpS_quick 2 rfl ?_
  refine wpS_case 146 rfl (fun hb => ?_) (fun hb => ?_)
  · replace H := cond_t H hb
    refine wpS_quick 7 rfl ?_
    refine wpS_nil ?_
    refine QH_seq_k hK39 ?_
    refine wpC_cond_t rfl rfl ?_
    refine wpC_seq_k (fun K hK59 => ?_)
    refine wpC_region ?_
    refine wpS_quick 1 rfl ?_
    refine wpS_nil ?_
    refine QH_seq_k hK59 ?_
    refine wpC_ret ?_
    refine QH_block_ret ?_
    refine QH_then_ret ?_
    refine QH_then_ret ?_
    refine QH_block_ret ?_
    refine QH_then_ret ?_
    refine QH_ret rfl (RV.tmp rfl RV.nil) rfl ?_
    obtain rfl := Option.some.inj H
    replace hS := hS.cut 0
    exact ⟨rfl, hS⟩
  replace H := cond_f H hb
  refine wpS_put rfl rfl rfl (yv_fieldAddr fo_30_10 rfl) ?_
  refine wpS_put rfl rfl rfl (yv_load_box sc_28 rfl (RW.here _) hS hs1 trivial sg21_1) ?_
  refine wpS_quick 1 rfl ?_
  obtain ⟨e60, hi62, H⟩ := bind_some H
  obtain ⟨j61, hi62a, hi62b, hi62c⟩ := idx_some hi62
  refine wpS_put rfl rfl rfl (yx_idx el_28 rfl rfl hi62a hi62c (Rd.el (hS.rd0 s4_.rd) he_enI hi62b)) ?_
  refine wpS_put rfl rfl rfl (yx_ld0 sc_3 rfl (RW.here _) (Rd.el (hS.rd0 s4_.rd) he_enI hi62b) rfl) ?_
  refine wpS_put rfl rfl rfl (yv_gtr rfl rfl) ?_
  refine wpS_quick 1 rfl ?_
  refine wpS_nil ?_
  refine QH_seq_k hK39 ?_
  refine wpC_cond rfl (fun hb => ?_) (fun hb => ?_)
  rotate_left
  · replace H := cond_f H hb
    refine wpC_skip ?_
    refine QH_block_normal ?_
    refine QH_seq_k hK38 ?_
    refine wpC_region ?_
    refine wpS_quick 1 rfl ?_
    refine wpS_put rfl rfl rfl (yx_add rfl rfl) ?_
    refine wpS_quick 1 rfl ?_
    refine wpS_nil ?_
    exact QH_again (n, v34, (IntKind.wrap .i64 (v35 + 1))) (by repeat (first | exact Sub.nil | refine Sub.cons rfl ?_)) ⟨hS, H⟩ (Nat.lt_succ_self _)
  replace H := cond_t H hb
  refine wpC_seq_k (fun K hK63 => ?_)
  refine wpC_region ?_
  refine wpS_quick 1 rfl ?_
  refine wpS_nil ?_
  refine QH_seq_k hK63 ?_
  refine wpC_ret ?_
  refine QH_block_ret ?_
  refine QH_then_ret ?_
  refine QH_then_ret ?_
  refine QH_block_ret ?_
  refine QH_then_ret ?_
  refine QH_ret rfl (RV.tmp rfl RV.nil) rfl ?_
  obtain rfl := Option.some.inj H
  replace hS := hS.cut 0
  exact ⟨rfl, hS⟩
theorem c_ref12_First (w0 : World) {r : Tu} (H : m_ref12_First = some r) : Calls Try.prog 16 #[] w0 fun e w' => ∃ (A0 : Option Addr) (c0 : Nat), e = .returned (.agg #[.int .i64 r.snap.index, .int .i64 r.snap.term, .int .i64 r.snap.sum, .int .i64 r.snap.level, .bool r.snap.final, .slice A0 r.log.length c0, .int .i64 r.term, .int .i64 r.vote]) ∧ (r.log.length ≤ c0 ∧ c0 ≤ maxLen) ∧ St0 All w0 w' [.rd A0 (encs enE r.log)] := by
  unfold m_ref12_First at H
  refine gw_enter0 Try.func16 rfl Try.ntmps16 rfl ?_
  have hS := St0.start All w0
  refine wpC_seq_k (fun K hK1 => ?_)
  refine wpC_region ?_
  refine wpS_alloc rfl rfl zc_26 hS (fun b2 w hS hB => ?_)
  refine wpS_nil ?_
  refine QH_seq_k hK1 ?_
  refine wpC_seq_k (fun K hK4 => ?_)
  refine wpC_region ?_
  obtain ⟨r5, hm6, H⟩ := bind_some H
  refine wpS_call rfl rfl rfl rfl (by kernel_rfl) rfl (c_ref06_First _ hm6) ?_
  rintro e w ⟨rfl, hN⟩; refine ⟨_, rfl, ?_⟩; have hB := hN.pure; have hS := hS.join hN; clear hN
  refine wpS_put rfl rfl rfl (yv_build (cells := [.int .i64 r5.index, .int .i64 r5.term, .int .i64 r5.sum, .int .i64 r5.level, .bool r5.final, .slice none 0 0, .int .i64 0, .int .i64 0]) rfl (by kernel_rfl)) ?_
  refine wpS_store rfl rfl rfl CellsOf.agg hS ps0 st0_8 (by kernel_rfl) rfl (fun w hS hB => ?_)
  refine wpS_nil ?_
  refine QH_seq_k hK4 ?_
  refine wpC_ret ?_
  refine QH_ret rfl (RV.cell rfl (load_boxA ag_26 hS hs0 sg0_8) RV.nil) rfl ?_
  obtain rfl := Option.some.inj H
  have hS := hS.nilRd
  replace hS := hS.cut 1
  exact ⟨none, 0, rfl, ⟨Nat.le_refl _, Nat.zero_le _⟩, hS⟩
theorem c_ref12_Own (x0 : Tu) (A0_ : Option Addr) (c0_ : Nat) (w0 : World) (s0_ : SlI w0 enE A0_ c0_ x0.log) {r : Tu} (H : m_ref12_Own x0 = some r) : Calls Try.prog 41 #[.agg #[.int .i64 x0.snap.index, .int .i64 x0.snap.term, .int .i64 x0.snap.sum, .int .i64 x0.snap.level, .bool x0.snap.final, .slice A0_ x0.log.length c0_, .int .i64 x0.term, .int .i64 x0.vote]] w0 fun e w' => ∃ (A0 : Option Addr) (c0 : Nat), e = .returned (.agg #[.int .i64 r.snap.index, .int .i64 r.snap.term, .int .i64 r.snap.sum, .int .i64 r.snap.level, .bool r.snap.final, .slice A0 r.log.length c0, .int .i64 r.term, .int .i64 r.vote]) ∧ (r.log.length ≤ c0 ∧ c0 ≤ maxLen) ∧ St0 All w0 w' [.row (.slice A0 r.log.length c0) 56 3 r.log.length (encs enE r.log)] := by
  unfold m_ref12_Own at H
  refine gw_enter1 Try.func41 rfl Try.ntmps41 rfl ?_
  have hS := St0.start All w0
  refine wpC_seq_k (fun K hK1 => ?_)
  refine wpC_region ?_
  refine wpS_box rfl rfl rfl CellsOf.agg hS (fun b2 w hS hB => ?_)
  refine wpS_alloc rfl rfl zc_26 hS (fun b4 w hS hB => ?_)
  refine wpS_nil ?_
  refine QH_seq_k hK1 ?_
  refine wpC_seq_k (fun K hK6 => ?_)
  refine wpC_region ?_
  refine wpS_slice0 el_24 rfl rfl hS (fun b7 w hS hB => ?_)
  refine wpS_put rfl rfl rfl (yv_fieldAddr fo_26_1 rfl) ?_
  refine wpS_put rfl rfl rfl (yv_load_box sc_24 rfl (RW.here _) hS hs2 trivial sg5_1) ?_
  obtain ⟨l9, hf10, H⟩ := bind_some H
  refine wpX_append (ys := x0.log) he_enE oc_enE em_24 (by decide) rfl rfl rfl rfl hS (fun _ => ps0) (hS.rd0 s0_.rd) hf10 (fun A11 c12 w k13 hS => ?_)
  refine wpS_put rfl rfl rfl (yv_fieldAddr fo_26_1 rfl) ?_
  refine wpS_store rfl rfl rfl CellsOf.slice hS ps2 st5_1 (by kernel_rfl) rfl (fun w hS hB => ?_)
  refine wpS_nil ?_
  refine QH_seq_k hK6 ?_
  refine wpC_seq_k (fun K hK14 => ?_)
  refine wpC_region ?_
  refine wpS_put rfl rfl rfl (yv_load_boxA ag_26 rfl (RW.here _) hS hs2 trivial sg0_8) ?_
  refine wpS_store rfl rfl rfl CellsOf.agg hS ps1 st0_8 (by kernel_rfl) rfl (fun w hS hB => ?_)
  refine wpS_nil ?_
  refine QH_seq_k hK14 ?_
  refine wpC_ret ?_
  refine QH_ret rfl (RV.cell rfl (load_boxA ag_26 hS hs1 sg0_8) RV.nil) rfl ?_
  obtain rfl := Option.some.inj H
  have hS := hS.front 0 rfl
  replace hS := hS.cut 1
  exact ⟨A11, c12, rfl, k13, hS⟩
theorem c_ref20_New (x0 : Int) (x1 : Int) (x2 : Int) (x3 : Tu) (A0_ : Option Addr) (c0_ : Nat) (w0 : World) (s0_ : SlI w0 enE A0_ c0_ x3.log) {r : Co} (H : m_ref20_New x0 x1 x2 x3 = some r) : Calls Try.prog 15 #[.int .i64 x0, .int .i64 x1, .int .i64 x2, .agg #[.int .i64 x3.snap.index, .int .i64 x3.snap.term, .int .i64 x3.snap.sum, .int .i64 x3.snap.level, .bool x3.snap.final, .slice A0_ x3.log.length c0_, .int .i64 x3.term, .int .i64 x3.vote]] w0 fun e w' => ∃ (A0 : Option Addr) (c0 : Nat) (A1 : Option Addr) (c1 : Nat) (A2 : Option Addr) (c2 : Nat) (A3 : Option Addr) (c3 : Nat) (A4 : Option Addr) (c4 : Nat), e = .returned (.agg #[.int .i64 r.id, .int .i64 r.n, .int .u8 r.role, .int .i64 r.binary, .int .i64 r.tuple.snap.index, .int .i64 r.tuple.snap.term, .int .i64 r.tuple.snap.sum, .int .i64 r.tuple.snap.level, .bool r.tuple.snap.final, .slice A0 r.tuple.log.length c0, .int .i64 r.tuple.term, .int .i64 r.tuple.vote, .int .i64 r.commit, .int .i64 r.applied.index, .int .i64 r.applied.term, .int .i64 r.applied.sum, .int .i64 r.applied.level, .bool r.applied.final, .slice A1 r.votes.length c1, .slice A2 r.next.length c2, .slice A3 r.mtch.length c3, .slice A4 r.caps.length c4]) ∧ (r.tuple.log.length ≤ c0 ∧ c0 ≤ maxLen) ∧ (r.votes.length ≤ c1 ∧ c1 ≤ maxLen) ∧ (r.next.length ≤ c2 ∧ c2 ≤ maxLen) ∧ (r.mtch.length ≤ c3 ∧ c3 ≤ maxLen) ∧ (r.caps.length ≤ c4 ∧ c4 ≤ maxLen) ∧ St0 All w0 w' [.row (.slice A0 r.tuple.log.length c0) 56 3 r.tuple.log.length (encs enE r.tuple.log), .row (.slice A1 r.votes.length c1) 4 1 r.votes.length (encs enO r.votes), .row (.slice A2 r.next.length c2) 3 1 r.next.length (encs enI r.next), .row (.slice A3 r.mtch.length c3) 3 1 r.mtch.length (encs enI r.mtch), .row (.slice A4 r.caps.length c4) 3 1 r.caps.length (encs enI r.caps)] := by
  unfold m_ref20_New at H
  refine gw_enter4 Try.func15 rfl Try.ntmps15 rfl ?_
  have hS := St0.start All w0
  refine wpC_seq_k (fun K hK1 => ?_)
  refine wpC_region ?_
  refine wpS_box rfl rfl rfl CellsOf.agg hS (fun b2 w hS hB => ?_)
  refine wpS_alloc rfl rfl zc_30 hS (fun b4 w hS hB => ?_)
  refine wpS_nil ?_
  refine QH_seq_k hK1 ?_
  refine wpC_seq_k (fun K hK6 => ?_)
  refine wpC_seq_k (fun K hK7 => ?_)
  refine wpC_region ?_
  refine wpS_quick 1 rfl ?_
  refine wpS_put rfl rfl rfl (yv_lss rfl rfl) ?_
  refine wpS_quick 1 rfl ?_
  refine wpS_case 13 rfl (fun hb => ?_) (fun hb => ?_)
  · replace H := cond_t H hb
    refine wpS_quick 12 rfl ?_
    refine wpS_nil ?_
    refine QH_seq_k hK7 ?_
    refine wpC_cond_t rfl rfl ?_
    refine wpC_seq_k (fun K hK8 => ?_)
    refine wpC_region ?_
    refine wpS_put rfl rfl rfl (yv_build (cells := [.int .i64 0, .int .i64 0, .int .u8 0, .int .i64 0, .int .i64 0, .int .i64 0, .int .i64 0, .int .i64 0, .bool false, .slice none 0 0, .int .i64 0, .int .i64 0, .int .i64 0, .int .i64 0, .int .i64 0, .int .i64 0, .int .i64 0, .bool false, .slice none 0 0, .slice none 0 0, .slice none 0 0, .slice none 0 0]) rfl (by kernel_rfl)) ?_
    refine wpS_store rfl rfl rfl CellsOf.agg hS ps0 st0_22 (by kernel_rfl) rfl (fun w hS hB => ?_)
    refine wpS_nil ?_
    refine QH_seq_k hK8 ?_
    refine wpC_ret ?_
    refine QH_then_ret ?_
    refine QH_ret rfl (RV.cell rfl (load_boxA ag_30 hS hs0 sg0_22) RV.nil) rfl ?_
    obtain rfl := Option.some.inj H
    have hS := hS.nilRow 3 1
    have hS := hS.nilRow 3 1
    have hS := hS.nilRow 3 1
    have hS := hS.nilRow 4 1
    have hS := hS.nilRow 56 3
    replace hS := hS.cut 5
    exact ⟨none, 0, none, 0, none, 0, none, 0, none, 0, rfl, ⟨Nat.le_refl _, Nat.zero_le _⟩, ⟨Nat.le_refl _, Nat.zero_le _⟩, ⟨Nat.le_refl _, Nat.zero_le _⟩, ⟨Nat.le_refl _, Nat.zero_le _⟩, ⟨Nat.le_refl _, Nat.zero_le _⟩, hS⟩
  replace H := cond_f H hb
  refine wpS_quick 1 rfl ?_
  refine wpS_put rfl rfl rfl (yv_gtr rfl rfl) ?_
  refine wpS_quick 2 rfl ?_
  refine wpS_case 17 rfl (fun hb => ?_) (fun hb => ?_)
  · replace H := cond_t H hb
    refine wpS_quick 8 rfl ?_
    refine wpS_nil ?_
    refine QH_seq_k hK7 ?_
    refine wpC_cond_t rfl rfl ?_
    refine wpC_seq_k (fun K hK9 => ?_)
    refine wpC_region ?_
    refine wpS_put rfl rfl rfl (yv_build (cells := [.int .i64 0, .int .i64 0, .int .u8 0, .int .i64 0, .int .i64 0, .int .i64 0, .int .i64 0, .int .i64 0, .bool false, .slice none 0 0, .int .i64 0, .int .i64 0, .int .i64 0, .int .i64 0, .int .i64 0, .int .i64 0, .int .i64 0, .bool false, .slice none 0 0, .slice none 0 0, .slice none 0 0, .slice none 0 0]) rfl (by kernel_rfl)) ?_
    refine wpS_store rfl rfl rfl CellsOf.agg hS ps0 st0_22 (by kernel_rfl) rfl (fun w hS hB => ?_)
    refine wpS_nil ?_
    refine QH_seq_k hK9 ?_
    refine wpC_ret ?_
    refine QH_then_ret ?_
    refine QH_ret rfl (RV.cell rfl (load_boxA ag_30 hS hs0 sg0_22) RV.nil) rfl ?_
    obtain rfl := Option.some.inj H
    have hS := hS.nilRow 3 1
    have hS := hS.nilRow 3 1
    have hS := hS.nilRow 3 1
    have hS := hS.nilRow 4 1
    have hS := hS.nilRow 56 3
    replace hS := hS.cut 5
    exact ⟨none, 0, none, 0, none, 0, none, 0, none, 0, rfl, ⟨Nat.le_refl _, Nat.zero_le _⟩, ⟨Nat.le_refl _, Nat.zero_le _⟩, ⟨Nat.le_refl _, Nat.zero_le _⟩, ⟨Nat.le_refl _, Nat.zero_le _⟩, ⟨Nat.le_refl _, Nat.zero_le _⟩, hS⟩
  replace H := cond_f H hb
  refine wpS_quick 1 rfl ?_
  refine wpS_put rfl rfl rfl (yv_lss rfl rfl) ?_
  refine wpS_quick 2 rfl ?_
  refine wpS_case 21 rfl (fun hb => ?_) (fun hb => ?_)
  · replace H := cond_t H hb
    refine wpS_quick 4 rfl ?_
    refine wpS_nil ?_
    refine QH_seq_k hK7 ?_
    refine wpC_cond_t rfl rfl ?_
    refine wpC_seq_k (fun K hK10 => ?_)
    refine wpC_region ?_
    refine wpS_put rfl rfl rfl (yv_build (cells := [.int .i64 0, .int .i64 0, .int .u8 0, .int .i64 0, .int .i64 0, .int .i64 0, .int .i64 0, .int .i64 0, .bool false, .slice none 0 0, .int .i64 0, .int .i64 0, .int .i64 0, .int .i64 0, .int .i64 0, .int .i64 0, .int .i64 0, .bool false, .slice none 0 0, .slice none 0 0, .slice none 0 0, .slice none 0 0]) rfl (by kernel_rfl)) ?_
    refine wpS_store rfl rfl rfl CellsOf.agg hS ps0 st0_22 (by kernel_rfl) rfl (fun w hS hB => ?_)
    refine wpS_nil ?_
    refine QH_seq_k hK10 ?_
    refine wpC_ret ?_
    refine QH_then_ret ?_
    refine QH_ret rfl (RV.cell rfl (load_boxA ag_30 hS hs0 sg0_22) RV.nil) rfl ?_
    obtain rfl := Option.some.inj H
    have hS := hS.nilRow 3 1
    have hS := hS.nilRow 3 1
    have hS := hS.nilRow 3 1
    have hS := hS.nilRow 4 1
    have hS := hS.nilRow 56 3
    replace hS := hS.cut 5
    exact ⟨none, 0, none, 0, none, 0, none, 0, none, 0, rfl, ⟨Nat.le_refl _, Nat.zero_le _⟩, ⟨Nat.le_refl _, Nat.zero_le _⟩, ⟨Nat.le_refl _, Nat.zero_le _⟩, ⟨Nat.le_refl _, Nat.zero_le _⟩, ⟨Nat.le_refl _, Nat.zero_le _⟩, hS⟩
  replace H := cond_f H hb
  refine wpS_quick 2 rfl ?_
  refine wpS_put rfl rfl rfl (yv_gtr rfl rfl) ?_
  refine wpS_quick 1 rfl ?_
  refine wpS_nil ?_
  refine QH_seq_k hK7 ?_
  refine wpC_cond rfl (fun hb => ?_) (fun hb => ?_)
  · replace H := cond_t H hb
    refine wpC_seq_k (fun K hK11 => ?_)
    refine wpC_region ?_
    refine wpS_put rfl rfl rfl (yv_build (cells := [.int .i64 0, .int .i64 0, .int .u8 0, .int .i64 0, .int .i64 0, .int .i64 0, .int .i64 0, .int .i64 0, .bool false, .slice none 0 0, .int .i64 0, .int .i64 0, .int .i64 0, .int .i64 0, .int .i64 0, .int .i64 0, .int .i64 0, .bool false, .slice none 0 0, .slice none 0 0, .slice none 0 0, .slice none 0 0]) rfl (by kernel_rfl)) ?_
    refine wpS_store rfl rfl rfl CellsOf.agg hS ps0 st0_22 (by kernel_rfl) rfl (fun w hS hB => ?_)
    refine wpS_nil ?_
    refine QH_seq_k hK11 ?_
    refine wpC_ret ?_
    refine QH_then_ret ?_
    refine QH_ret rfl (RV.cell rfl (load_boxA ag_30 hS hs0 sg0_22) RV.nil) rfl ?_
    obtain rfl := Option.some.inj H
    have hS := hS.nilRow 3 1
    have hS := hS.nilRow 3 1
    have hS := hS.nilRow 3 1
    have hS := hS.nilRow 4 1
    have hS := hS.nilRow 56 3
    replace hS := hS.cut 5
    exact ⟨none, 0, none, 0, none, 0, none, 0, none, 0, rfl, ⟨Nat.le_refl _, Nat.zero_le _⟩, ⟨Nat.le_refl _, Nat.zero_le _⟩, ⟨Nat.le_refl _, Nat.zero_le _⟩, ⟨Nat.le_refl _, Nat.zero_le _⟩, ⟨Nat.le_refl _, Nat.zero_le _⟩, hS⟩
  replace H := cond_f H hb
  refine wpC_skip ?_
  refine QH_seq_k hK6 ?_
  refine wpC_seq_k (fun K hK12 => ?_)
  refine wpC_draw 13 [12] (fun i b => (i = 12 → b = b4 ∨ b = b2)) ⟨by kernel_rfl, by kernel_rfl⟩ hS (fun w hS hB => ?_)
  refine wpRF_start [⟨11, 9, 30, [.int .i64 0, .int .i64 0, .int .u8 0, .int .i64 0, .int .i64 0, .int .i64 0, .int .i64 0, .int .i64 0, .bool false, .slice none 0 0, .int .i64 0, .int .i64 0, .int .i64 0, .int .i64 0, .int .i64 0, .int .i64 0, .int .i64 0, .bool false, .slice none 0 0, .slice none 0 0, .slice none 0 0, .slice none 0 0]⟩] (.cons rfl zc_30 rfl rfl rfl .nil) hS (fun hok => ?_)
  dsimp only [List.cons_append, List.nil_append]
  refine wpRF_batch [true, true, true, true, false, true, true, true, true, true] [] (fun _ => True) (by decide +kernel) (fun _ h => by cases h) (by repeat (first | exact PF.body | exact PF.round | apply PF.then | apply PF.inBlock | apply PF.jump)) (fun X Y tk ht w hS => ?_)
  refine LtK.put rfl rfl rfl (yv_move rfl) ?_
  refine LtK.put rfl rfl rfl (yv_move rfl) ?_
  refine LtK.put rfl rfl rfl (yv_move rfl) ?_
  refine LtK.put rfl rfl rfl (yv_load_boxA ag_26 rfl (RW.keepB _ _) hS hs1 trivial sg0_8) ?_
  refine LtK.put rfl rfl rfl (yv_fieldAddr fo_26_0 rfl) ?_
  refine LtK.put rfl rfl rfl (yv_fieldAddr fo_23_0 rfl) ?_
  refine LtK.put rfl rfl rfl (yv_load_box sc_3 rfl (RW.keepB _ _) hS hs1 trivial sg0_1) ?_
  refine LtK.put rfl rfl rfl (yv_fieldAddr fo_26_0 rfl) ?_
  refine LtK.put rfl rfl rfl (yv_load_boxA ag_23 rfl (RW.keepB _ _) hS hs1 trivial sg0_5) ?_
  refine LtK_F' ht hS (by repeat (first | exact App.nil | apply App.cons)) (by repeat (first | exact App.nil | apply App.cons)) ?_
  dsimp only [List.cons_append, List.nil_append]
  refine wpRF_call [false, false, false, false, true] 4 hok ⟨by decide, by decide +kernel, by decide, by decide⟩ rfl rfl (fun _ => rfl) (fun _ => rfl) rfl (hend_of (by decide +kernel)) (fun X Y tk ht w hS => ?_)
  try dsimp only [pickL]
  obtain ⟨r13, hm14, H⟩ := bind_some H
  refine wpS_call rfl rfl rfl rfl (by kernel_rfl) rfl (c_ref12_Own x3 A0_ c0_ _ (SlI.of_rd s0_.k (hS.rd0 s0_.rd) (hS.blk0 s0_.blk)) hm14) ?_
  rintro e w ⟨A15, c16, rfl, k17, hN⟩; refine ⟨_, rfl, ?_⟩; have hB := hN.pure; have hS := hS.join hN; clear hN
  refine wpS_nil ?_
  refine QH_stepF' ht hS hB (by repeat (first | exact App.nil | apply App.cons)) (by repeat (first | exact App.nil | apply App.cons)) ?_
  dsimp only [List.cons_append, List.nil_append]
  refine wpRF_batch [false, false, false, false, false, false, false, false, false, false, true] [] (fun _ => True) (by decide +kernel) (fun _ h => by cases h) (by repeat (first | exact PF.body | exact PF.round | apply PF.then | apply PF.inBlock | apply PF.jump)) (fun X Y tk ht w hS => ?_)
  refine LtK.put rfl rfl rfl (yv_build (cells := [.int .i64 x0, .int .i64 x1, .int .u8 0, .int .i64 x2, .int .i64 r13.snap.index, .int .i64 r13.snap.term, .int .i64 r13.snap.sum, .int .i64 r13.snap.level, .bool r13.snap.final, .slice A15 r13.log.length c16, .int .i64 r13.term, .int .i64 r13.vote, .int .i64 x3.snap.index, .int .i64 x3.snap.index, .int .i64 x3.snap.term, .int .i64 x3.snap.sum, .int .i64 x3.snap.level, .bool x3.snap.final, .slice none 0 0, .slice none 0 0, .slice none 0 0, .slice none 0 0]) rfl (by kernel_rfl)) ?_
  refine LtK_F' ht hS (by repeat (first | exact App.nil | apply App.cons)) (by repeat (first | exact App.nil | apply App.cons)) ?_
  dsimp only [List.cons_append, List.nil_append]
  refine wpRF_done hok (by decide) (by decide +kernel) (fun _ => rfl) (fun _ => rfl) rfl (fun tk htk w hS => ?_)
  obtain ⟨b19, tkb19, rfl, htk21⟩ := tk_cons htk
  obtain rfl := tk_nil htk21
  dsimp only [tkH, tkL, List.map] at hS ⊢
  refine wpR_seal [false, false, false, false, false, false, false, false, false, false, false, false, true] 12 ⟨by decide, by kernel_rfl, by kernel_rfl⟩ rfl rfl ?_
  try dsimp only [pickL]
  refine wpS_store rfl rfl rfl CellsOf.agg hS ps3 st0_22 (by kernel_rfl) rfl (fun w hS hB => ?_)
  refine wpS_nil ?_
  refine QH_stepG (hB.sub (fun b _ h => by have h0 : b = b4 ∨ b = b2 := (by simpa using h); rcases h0 with h0 | h0; (rw [h0]; exact hS.ne 1 3 rfl rfl rfl); (rw [h0]; exact hS.ne 2 3 rfl rfl rfl))) ?_
  refine wpR_end (by kernel_rfl) ?_
  refine QH_seq_k hK12 ?_
  refine wpC_seq_k (fun K hK22 => ?_)
  refine wpC_seq_k (fun K hK23 => ?_)
  refine wpC_region ?_
  refine wpS_quick 1 rfl ?_
  refine wpS_nil ?_
  refine QH_seq_k hK23 ?_
  refine wpC_block ?_
  replace hS := hS.nilRow 4 1
  replace hS := hS.nilRow 3 1
  replace hS := hS.nilRow 3 1
  replace hS := hS.nilRow 3 1
  refine wpC_loop (X := Nat × Int × List Bool × Option Addr × Nat × List Int × Option Addr × Nat × List Int × Option Addr × Nat × List Int × Option Addr × Nat) (fun x => (0, .int .i64 x0) :: (1, .int .i64 x1) :: (2, .int .i64 x2) :: (7, .pointer (some ⟨b2, 0, none⟩)) :: (8, .pointer (some ⟨b4, 0, none⟩)) :: (9, .pointer (some ⟨b19, 0, none⟩)) :: (10, .int .i64 x.2.1) :: []) (fun x w => St0 All w0 w (.row (.slice x.2.2.2.2.2.2.2.2.2.2.2.2.1 x.2.2.2.2.2.2.2.2.2.2.2.1.length x.2.2.2.2.2.2.2.2.2.2.2.2.2) 3 1 x.2.2.2.2.2.2.2.2.2.2.2.1.length (encs enI x.2.2.2.2.2.2.2.2.2.2.2.1) :: .row (.slice x.2.2.2.2.2.2.2.2.2.1 x.2.2.2.2.2.2.2.2.1.length x.2.2.2.2.2.2.2.2.2.2.1) 3 1 x.2.2.2.2.2.2.2.2.1.length (encs enI x.2.2.2.2.2.2.2.2.1) :: .row (.slice x.2.2.2.2.2.2.1 x.2.2.2.2.2.1.length x.2.2.2.2.2.2.2.1) 3 1 x.2.2.2.2.2.1.length (encs enI x.2.2.2.2.2.1) :: .row (.slice x.2.2.2.1 x.2.2.1.length x.2.2.2.2.1) 4 1 x.2.2.1.length (encs enO x.2.2.1) :: .row (.slice A15 r13.log.length c16) 56 3 r13.log.length (encs enE r13.log) :: .box b4 [.int .i64 0, .int .i64 0, .int .u8 0, .int .i64 0, .int .i64 0, .int .i64 0, .int .i64 0, .int .i64 0, .bool false, .slice none 0 0, .int .i64 0, .int .i64 0, .int .i64 0, .int .i64 0, .int .i64 0, .int .i64 0, .int .i64 0, .bool false, .slice none 0 0, .slice none 0 0, .slice none 0 0, .slice none 0 0] 30 :: .box b2 [.int .i64 x3.snap.index, .int .i64 x3.snap.term, .int .i64 x3.snap.sum, .int .i64 x3.snap.level, .bool x3.snap.final, .slice A0_ x3.log.length c0_, .int .i64 x3.term, .int .i64 x3.vote] 26 :: .box b19 [.int .i64 x0, .int .i64 x1, .int .u8 0, .int .i64 x2, .int .i64 r13.snap.index, .int .i64 r13.snap.term, .int .i64 r13.snap.sum, .int .i64 r13.snap.level, .bool r13.snap.final, .slice A15 r13.log.length c16, .int .i64 r13.term, .int .i64 r13.vote, .int .i64 x3.snap.index, .int .i64 x3.snap.index, .int .i64 x3.snap.term, .int .i64 x3.snap.sum, .int .i64 x3.snap.level, .bool x3.snap.final, .slice x.2.2.2.1 x.2.2.1.length x.2.2.2.2.1, .slice x.2.2.2.2.2.2.1 x.2.2.2.2.2.1.length x.2.2.2.2.2.2.2.1, .slice x.2.2.2.2.2.2.2.2.2.1 x.2.2.2.2.2.2.2.2.1.length x.2.2.2.2.2.2.2.2.2.2.1, .slice x.2.2.2.2.2.2.2.2.2.2.2.2.1 x.2.2.2.2.2.2.2.2.2.2.2.1.length x.2.2.2.2.2.2.2.2.2.2.2.2.2] 30 :: []) ∧ (x.2.2.1.length ≤ x.2.2.2.2.1 ∧ x.2.2.2.2.1 ≤ maxLen) ∧ (x.2.2.2.2.2.1.length ≤ x.2.2.2.2.2.2.2.1 ∧ x.2.2.2.2.2.2.2.1 ≤ maxLen) ∧ (x.2.2.2.2.2.2.2.2.1.length ≤ x.2.2.2.2.2.2.2.2.2.2.1 ∧ x.2.2.2.2.2.2.2.2.2.2.1 ≤ maxLen) ∧ (x.2.2.2.2.2.2.2.2.2.2.2.1.length ≤ x.2.2.2.2.2.2.2.2.2.2.2.2.2 ∧ x.2.2.2.2.2.2.2.2.2.2.2.2.2 ≤ maxLen) ∧ m_ref20_New_l1 x0 x1 x2 x3 r13 x.1 x.2.1 x.2.2.1 x.2.2.2.2.2.1 x.2.2.2.2.2.2.2.2.1 x.2.2.2.2.2.2.2.2.2.2.2.1 = some r) (fun x => x.1) (fuelN, 1, [], none, 0, [], none, 0, [], none, 0, [], none, 0) (by repeat (first | exact Sub.nil | refine Sub.cons rfl ?_)) ⟨hS, ⟨Nat.le_refl _, Nat.zero_le _⟩, ⟨Nat.le_refl _, Nat.zero_le _⟩, ⟨Nat.le_refl _, Nat.zero_le _⟩, ⟨Nat.le_refl _, Nat.zero_le _⟩, H⟩ ?_
  rintro ⟨n, v24, v25, A26, c27, v30, A31, c32, v35, A36, c37, v40, A41, c42⟩ w ⟨hS, k28, k33, k38, k43, H⟩
  dsimp only at hS k28 k33 k38 k43 H ⊢
  obtain _ | n := n
  · have H0 : none = some r := H
    cases H0
  rw [m_ref20_New_l1] at H
  refine wpC_seq_k (fun K hK45 => ?_)
  refine wpC_seq_k (fun K hK46 => ?_)
  refine wpC_region ?_
  refine wpS_quick 2 rfl ?_
  refine wpS_put rfl rfl rfl (yv_leq rfl rfl) ?_
  refine wpS_nil ?_
  refine QH_seq_k hK46 ?_
  refine wpC_cond rfl (fun hb => ?_) (fun hb => ?_)
  rotate_left
  · replace H := cond_f H hb
    refine wpC_exit ?_
    refine QH_then_exit ?_
    refine QH_then_exit ?_
    refine QH_block_hit ?_
    refine QH_seq_k hK22 ?_
    refine wpC_seq_k (fun K hK81 => ?_)
    refine wpC_region ?_
    refine wpS_put rfl rfl rfl (yv_fieldAddr fo_30_10 rfl) ?_
    refine wpS_put rfl rfl rfl (yv_load_box sc_28 rfl (RW.here _) hS hs7 trivial sg21_1) ?_
    refine wpS_quick 1 rfl ?_
    refine wpS_put rfl rfl rfl (yx_sub rfl rfl) ?_
    refine wpS_quick 1 rfl ?_
    obtain ⟨e82, hi84, H⟩ := bind_some H
    obtain ⟨j83, hi84a, hi84b, hi84c⟩ := idx_some hi84
    refine wpS_put rfl rfl rfl (yx_idx el_28 rfl rfl hi84a hi84c (Rd.el (hS.row_rd hs0) he_enI hi84b)) ?_
    refine wpX_storeR (a' := x2) (zs := (setI v40 (IntKind.wrap .i64 (x0 - 1)) x2)) he_enI rfl rfl rfl CellsOf.int hS ps0 (Rd.el (hS.row_rd hs0) he_enI hi84b) hi84a hi84b rfl st0_1 (by kernel_rfl) rfl (fun w hS => ?_)
    refine wpS_nil ?_
    refine QH_seq_k hK81 ?_
    refine wpC_seq_k (fun K hK85 => ?_)
    refine wpC_region ?_
    refine wpS_put rfl rfl rfl (yv_load_boxA ag_30 rfl (RW.here _) hS hs7 trivial sg0_22) ?_
    refine wpS_store rfl rfl rfl CellsOf.agg hS ps5 st0_22 (by kernel_rfl) rfl (fun w hS hB => ?_)
    refine wpS_nil ?_
    refine QH_seq_k hK85 ?_
    refine wpC_ret ?_
    refine QH_ret rfl (RV.cell rfl (load_boxA ag_30 hS hs5 sg0_22) RV.nil) rfl ?_
    obtain rfl := Option.some.inj H
    have hS := hS.front 0 rfl
    have hS := hS.front 1 rfl
    have hS := hS.front 2 rfl
    have hS := hS.front 3 rfl
    have hS := hS.front 4 rfl
    replace hS := hS.cut 5
    exact ⟨A15, c16, A26, c27, A31, c32, A36, c37, A41, c42, by rw [(setI_len rfl)]; rfl, k17, k28, k33, k38, (k_set k43), hS.eqv (by rw [(setI_len rfl)]; rfl)⟩
  replace H := cond_t H hb
  refine wpC_skip ?_
  refine QH_seq_k hK45 ?_
  refine wpC_seq_k (fun K hK47 => ?_)
  refine wpC_block ?_
  refine wpC_seq_k (fun K hK48 => ?_)
  refine wpC_region ?_
  refine wpS_put rfl rfl rfl (yv_fieldAddr fo_30_7 rfl) ?_
  refine wpS_put rfl rfl rfl (yv_load_box sc_27 rfl (RW.here _) hS hs7 trivial sg18_1) ?_
  refine wpS_sliceM (ps := [(0, .const (.bool false))]) [.bool false] el_27 zc_4 rfl rfl rfl rfl rfl (by kernel_rfl) hS (fun b49 w hS hB => ?_)
  obtain ⟨l51, hf52, H⟩ := bind_some H
  refine wpX_append (ys := ([false] : List Bool)) he_enO oc_enO em_27 (by decide) rfl rfl rfl rfl hS (fun _ => ps4) (hS.box_rd hs0) hf52 (fun A53 c54 w k55 hS => ?_)
  refine wpS_put rfl rfl rfl (yv_fieldAddr fo_30_7 rfl) ?_
  refine wpS_store rfl rfl rfl CellsOf.slice hS ps8 st18_1 (by kernel_rfl) rfl (fun w hS hB => ?_)
  refine wpS_nil ?_
  refine QH_seq_k hK48 ?_
  refine wpC_seq_k (fun K hK56 => ?_)
  refine wpC_draw 9 [6, 8] (fun i b => (i = 6 → False) ∧ (i = 8 → b ≠ b19)) ⟨by kernel_rfl, by kernel_rfl⟩ hS (fun w hS hB => ?_)
  refine wpR_batchG [true] [6] (fun _ => False) (by decide +kernel) (by intro j hj b hb; simp only [List.mem_cons, List.not_mem_nil, or_false] at hj; (try rcases hj with rfl | rfl | rfl | rfl | rfl) <;> first | (simp [hb]; done) | simp_all) (by repeat (first | exact PF.body | exact PF.round | apply PF.then | apply PF.inBlock | apply PF.jump)) ?_
  refine LtK.put rfl rfl rfl (yv_fieldAddr fo_30_8 rfl) ?_
  refine LtK.nil ?_
  refine wpR_batch [false, true] (by decide +kernel) (by repeat (first | exact PF.body | exact PF.round | apply PF.then | apply PF.inBlock | apply PF.jump)) ?_
  refine LtK.put rfl rfl rfl (yv_load_box sc_28 rfl (RW.below _) hS hs8 trivial sg19_1) ?_
  refine LtK.nil ?_
  refine wpR_call [false, false, true] 2 ⟨by decide, by kernel_rfl, by kernel_rfl⟩ rfl rfl ?_
  try dsimp only [pickL]
  refine wpS_put rfl rfl rfl (yv_load_boxA ag_26 rfl (RW.here _) hS hs7 trivial sg0_8) ?_
  refine wpS_nil ?_
  refine QH_step (Below.refl _ _) ?_
  refine wpR_call [false, false, false, true] 3 ⟨by decide, by kernel_rfl, by kernel_rfl⟩ rfl rfl ?_
  try dsimp only [pickL]
  obtain ⟨r57, hm58, H⟩ := bind_some H
  refine wpS_call rfl rfl rfl rfl (by kernel_rfl) rfl (c_ref12_Last x3 A0_ c0_ _ (SlI.of_rd s0_.k (hS.rd0 s0_.rd) (hS.blk0 s0_.blk)) hm58) ?_
  rintro e w ⟨rfl, hN⟩; refine ⟨_, rfl, ?_⟩; have hB := hN.pure; have hS := hS.join hN; clear hN
  refine wpS_nil ?_
  refine QH_step hB ?_
  refine wpR_batchG [false, false, false, false, true] [6] (fun _ => False) (by decide +kernel) (by intro j hj b hb; simp only [List.mem_cons, List.not_mem_nil, or_false] at hj; (try rcases hj with rfl | rfl | rfl | rfl | rfl) <;> first | (simp [hb]; done) | simp_all) (by repeat (first | exact PF.body | exact PF.round | apply PF.then | apply PF.inBlock | apply PF.jump)) ?_
  refine LtK.put rfl rfl rfl (yx_add rfl rfl) ?_
  refine LtK.nil ?_
  refine wpR_call [false, false, false, false, false, true] 5 ⟨by decide, by kernel_rfl, by kernel_rfl⟩ rfl rfl ?_
  try dsimp only [pickL]
  refine wpS_sliceM (ps := [(0, .tmp 52)]) [.int .i64 (IntKind.wrap .i64 (r57 + 1))] el_28 zc_3 rfl rfl rfl rfl rfl (by kernel_rfl) hS (fun b59 w hS hB => ?_)
  refine wpS_nil ?_
  refine QH_step hB ?_
  refine wpR_seal [false, false, false, false, false, false, true] 6 ⟨by decide, by kernel_rfl, by kernel_rfl⟩ rfl rfl ?_
  try dsimp only [pickL]
  obtain ⟨l61, hf62, H⟩ := bind_some H
  refine wpX_append2 (ys := ([(IntKind.wrap .i64 (r57 + 1))] : List Int)) he_enI oc_enI em_28 (by decide) rfl rfl rfl rfl hS (fun _ => ps4) (hS.box_rd hs0) hf62 (fun A63 c64 w k65 hS hB => ?_)
  refine wpS_nil ?_
  refine QH_stepG (hB.sub (fun _ _ h => by simp at h)) ?_
  refine wpR_batch [false, false, false, false, false, false, false, true] (by decide +kernel) (by repeat (first | exact PF.body | exact PF.round | apply PF.then | apply PF.inBlock | apply PF.jump)) ?_
  refine LtK.put rfl rfl rfl (yv_fieldAddr fo_30_8 rfl) ?_
  refine LtK.nil ?_
  refine wpR_seal [false, false, false, false, false, false, false, false, true] 8 ⟨by decide, by kernel_rfl, by kernel_rfl⟩ rfl rfl ?_
  try dsimp only [pickL]
  refine wpS_store rfl rfl rfl CellsOf.slice hS ps9 st19_1 (by kernel_rfl) rfl (fun w hS hB => ?_)
  refine wpS_nil ?_
  refine QH_stepG (hB.sub (fun _ _ h => by simpa using h)) ?_
  refine wpR_end (by kernel_rfl) ?_
  refine QH_seq_k hK56 ?_
  refine wpC_seq_k (fun K hK66 => ?_)
  refine wpC_region ?_
  refine wpS_put rfl rfl rfl (yv_fieldAddr fo_30_9 rfl) ?_
  refine wpS_put rfl rfl rfl (yv_load_box sc_28 rfl (RW.here _) hS hs9 trivial sg20_1) ?_
  refine wpS_sliceM (ps := [(0, .const (.int .i64 0))]) [.int .i64 0] el_28 zc_3 rfl rfl rfl rfl rfl (by kernel_rfl) hS (fun b67 w hS hB => ?_)
  obtain ⟨l69, hf70, H⟩ := bind_some H
  refine wpX_append (ys := ([0] : List Int)) he_enI oc_enI em_28 (by decide) rfl rfl rfl rfl hS (fun _ => ps4) (hS.box_rd hs0) hf70 (fun A71 c72 w k73 hS => ?_)
  refine wpS_put rfl rfl rfl (yv_fieldAddr fo_30_9 rfl) ?_
  refine wpS_store rfl rfl rfl CellsOf.slice hS ps10 st20_1 (by kernel_rfl) rfl (fun w hS hB => ?_)
  refine wpS_nil ?_
  refine QH_seq_k hK66 ?_
  refine wpC_region ?_
  refine wpS_put rfl rfl rfl (yv_fieldAddr fo_30_10 rfl) ?_
  refine wpS_put rfl rfl rfl (yv_load_box sc_28 rfl (RW.here _) hS hs10 trivial sg21_1) ?_
  refine wpS_sliceM (ps := [(0, .const (.int .i64 0))]) [.int .i64 0] el_28 zc_3 rfl rfl rfl rfl rfl (by kernel_rfl) hS (fun b74 w hS hB => ?_)
  obtain ⟨l76, hf77, H⟩ := bind_some H
  refine wpX_append (ys := ([0] : List Int)) he_enI oc_enI em_28 (by decide) rfl rfl rfl rfl hS (fun _ => ps4) (hS.box_rd hs0) hf77 (fun A78 c79 w k80 hS => ?_)
  refine wpS_put rfl rfl rfl (yv_fieldAddr fo_30_10 rfl) ?_
  refine wpS_store rfl rfl rfl CellsOf.slice hS ps11 st21_1 (by kernel_rfl) rfl (fun w hS hB => ?_)
  refine wpS_nil ?_
  refine QH_block_normal ?_
  refine QH_seq_k hK47 ?_
  refine wpC_region ?_
  refine wpS_quick 1 rfl ?_
  refine wpS_put rfl rfl rfl (yx_add rfl rfl) ?_
  refine wpS_quick 1 rfl ?_
  refine wpS_nil ?_
  exact QH_again (n, (IntKind.wrap .i64 (v24 + 1)), l51, A53, c54, l61, A63, c64, l69, A71, c72, l76, A78, c79) (by repeat (first | exact Sub.nil | refine Sub.cons rfl ?_)) ⟨(hS.sub (List.Sublist.cons _ (List.Sublist.cons _ (List.Sublist.cons _ (List.Sublist.cons _ (List.Sublist.cons_cons _ (List.Sublist.cons_cons _ (List.Sublist.cons_cons _ (List.Sublist.cons_cons _ (List.Sublist.cons_cons _ (List.Sublist.cons_cons _ (List.Sublist.cons_cons _ (List.Sublist.cons_cons _ List.Sublist.slnil))))))))))))), k55, k65, k73, k80, H⟩ (Nat.lt_succ_self _)
theorem c_slices_Clone___api_Entry_api_Entry_ (x0 : List En) (A0_ : Option Addr) (c0_ : Nat) (w0 : World) (s0_ : SlI w0 enE A0_ c0_ x0) {r : List En} (H : m_slices_Clone___api_Entry_api_Entry_ x0 = some r) : Calls Try.prog 83 #[.slice A0_ x0.length c0_] w0 fun e w' => ∃ (A0 : Option Addr) (c0 : Nat), e = .returned (.slice A0 r.length c0) ∧ (r.length ≤ c0 ∧ c0 ≤ maxLen) ∧ St0 All w0 w' [.row (.slice A0 r.length c0) 56 3 r.length (encs enE r)] := by
  unfold m_slices_Clone___api_Entry_api_Entry_ at H
  obtain ⟨rfl, hfew⟩ := fewI_some H
  cases A0_ with
  | none =>
    obtain rfl : r = [] := by
      cases r with
      | nil => rfl
      | cons e l => obtain ⟨b, o, h, _⟩ := s0_.rd 0 _ rfl; cases h
    refine gw_enter1 Try.func83 rfl Try.ntmps83 rfl ?_
    have hS := St0.start All w0
    refine wpC_seq_k (fun K hK1 => ?_)
    refine wpC_region ?_
    refine wpS_quick 1 rfl ?_
    refine wpS_nil ?_
    refine QH_seq_k hK1 ?_
    refine wpC_seq_k (fun K hK2 => ?_)
    refine wpC_seq_k (fun K hK3 => ?_)
    refine wpC_region ?_
    refine wpS_quick 1 rfl ?_
    refine wpS_put rfl rfl rfl (yv_eqlNil (e := 56) (by kernel_rfl) rfl rfl) ?_
    refine wpS_nil ?_
    refine QH_seq_k hK3 ?_
    refine wpC_cond_t rfl rfl ?_
    refine wpC_seq_k (fun K hK4 => ?_)
    refine wpC_region ?_
    refine wpS_quick 1 rfl ?_
    refine wpS_nil ?_
    refine QH_seq_k hK4 ?_
    refine wpC_ret ?_
    refine QH_then_ret ?_
    refine QH_ret rfl (RV.tmp rfl RV.nil) rfl ?_
    have hS := hS.nilRow 56 3
    replace hS := hS.cut 1
    exact ⟨none, 0, rfl, ⟨Nat.le_refl _, Nat.zero_le _⟩, hS⟩
  | some a0 =>
    refine gw_enter1 Try.func83 rfl Try.ntmps83 rfl ?_
    have hS := St0.start All w0
    have H : (fewI ([] ++ r)).bind (fun z => some z) = some r := by rw [List.nil_append, H]; rfl
    refine wpC_seq_k (fun K hK5 => ?_)
    refine wpC_region ?_
    refine wpS_quick 1 rfl ?_
    refine wpS_nil ?_
    refine QH_seq_k hK5 ?_
    refine wpC_seq_k (fun K hK6 => ?_)
    refine wpC_seq_k (fun K hK7 => ?_)
    refine wpC_region ?_
    refine wpS_quick 1 rfl ?_
    refine wpS_put rfl rfl rfl (yv_eqlNil (e := 56) (by kernel_rfl) rfl rfl) ?_
    refine wpS_nil ?_
    refine QH_seq_k hK7 ?_
    refine wpC_cond_f rfl rfl ?_
    refine wpC_skip ?_
    refine QH_seq_k hK6 ?_
    refine wpC_seq_k (fun K hK8 => ?_)
    refine wpC_region ?_
    refine wpS_slice0 el_24 rfl rfl hS (fun b9 w hS hB => ?_)
    refine wpS_quick 1 rfl ?_
    obtain ⟨l11, hf12, H⟩ := bind_some H
    refine wpX_append (ys := r) he_enE oc_enE em_24 (by decide) rfl rfl rfl rfl hS (fun _ => ps0) (hS.rd0 s0_.rd) hf12 (fun A13 c14 w k15 hS => ?_)
    refine wpS_quick 1 rfl ?_
    refine wpS_nil ?_
    refine QH_seq_k hK8 ?_
    refine wpC_ret ?_
    refine QH_ret rfl (RV.tmp rfl RV.nil) rfl ?_
    obtain rfl := Option.some.inj H
    have hS := hS.front 0 rfl
    replace hS := hS.cut 1
    exact ⟨A13, c14, rfl, k15, hS⟩
theorem c_tuple_Own (x0 : Tu) (A0_ : Option Addr) (c0_ : Nat) (w0 : World) (s0_ : SlI w0 enE A0_ c0_ x0.log) {r : Tu} (H : m_tuple_Own x0 = some r) : Calls Try.prog 70 #[.agg #[.int .i64 x0.snap.index, .int .i64 x0.snap.term, .int .i64 x0.snap.sum, .int .i64 x0.snap.level, .bool x0.snap.final, .slice A0_ x0.log.length c0_, .int .i64 x0.term, .int .i64 x0.vote]] w0 fun e w' => ∃ (A0 : Option Addr) (c0 : Nat), e = .returned (.agg #[.int .i64 r.snap.index, .int .i64 r.snap.term, .int .i64 r.snap.sum, .int .i64 r.snap.level, .bool r.snap.final, .slice A0 r.log.length c0, .int .i64 r.term, .int .i64 r.vote]) ∧ (r.log.length ≤ c0 ∧ c0 ≤ maxLen) ∧ St0 All w0 w' [.row (.slice A0 r.log.length c0) 56 3 r.log.length (encs enE r.log)] := by
  unfold m_tuple_Own at H
  refine gw_enter1 Try.func70 rfl Try.ntmps70 rfl ?_
  have hS := St0.start All w0
  refine wpC_seq_k (fun K hK1 => ?_)
  refine wpC_region ?_
  refine wpS_box rfl rfl rfl CellsOf.agg hS (fun b2 w hS hB => ?_)
  refine wpS_alloc rfl rfl zc_26 hS (fun b4 w hS hB => ?_)
  refine wpS_nil ?_
  refine QH_seq_k hK1 ?_
  refine wpC_seq_k (fun K hK6 => ?_)
  refine wpC_region ?_
  refine wpS_put rfl rfl rfl (yv_fieldAddr fo_26_1 rfl) ?_
  refine wpS_put rfl rfl rfl (yv_load_box sc_24 rfl (RW.here _) hS hs1 trivial sg5_1) ?_
  obtain ⟨r7, hm8, H⟩ := bind_some H
  refine wpS_call rfl rfl rfl rfl (by kernel_rfl) rfl (c_slices_Clone___api_Entry_api_Entry_ x0.log A0_ c0_ _ (SlI.of_rd s0_.k (hS.rd0 s0_.rd) (hS.blk0 s0_.blk)) hm8) ?_
  rintro e w ⟨A9, c10, rfl, k11, hN⟩; refine ⟨_, rfl, ?_⟩; have hB := hN.pure; have hS := hS.join hN; clear hN
  refine wpS_put rfl rfl rfl (yv_fieldAddr fo_26_1 rfl) ?_
  refine wpS_store rfl rfl rfl CellsOf.slice hS ps2 st5_1 (by kernel_rfl) rfl (fun w hS hB => ?_)
  refine wpS_nil ?_
  refine QH_seq_k hK6 ?_
  refine wpC_seq_k (fun K hK13 => ?_)
  refine wpC_region ?_
  refine wpS_put rfl rfl rfl (yv_load_boxA ag_26 rfl (RW.here _) hS hs2 trivial sg0_8) ?_
  refine wpS_store rfl rfl rfl CellsOf.agg hS ps1 st0_8 (by kernel_rfl) rfl (fun w hS hB => ?_)
  refine wpS_nil ?_
  refine QH_seq_k hK13 ?_
  refine wpC_ret ?_
  refine QH_ret rfl (RV.cell rfl (load_boxA ag_26 hS hs1 sg0_8) RV.nil) rfl ?_
  obtain rfl := Option.some.inj H
  have hS := hS.front 0 rfl
  replace hS := hS.cut 1
  exact ⟨A9, c10, rfl, k11, hS⟩
theorem c_slices_Clone___bool_bool_ (x0 : List Bool) (A0_ : Option Addr) (c0_ : Nat) (w0 : World) (s0_ : SlI w0 enO A0_ c0_ x0) {r : List Bool} (H : m_slices_Clone___bool_bool_ x0 = some r) : Calls Try.prog 71 #[.slice A0_ x0.length c0_] w0 fun e w' => ∃ (A0 : Option Addr) (c0 : Nat), e = .returned (.slice A0 r.length c0) ∧ (r.length ≤ c0 ∧ c0 ≤ maxLen) ∧ St0 All w0 w' [.row (.slice A0 r.length c0) 4 1 r.length (encs enO r)] := by
  unfold m_slices_Clone___bool_bool_ at H
  obtain ⟨rfl, hfew⟩ := fewI_some H
  cases A0_ with
  | none =>
    obtain rfl : r = [] := by
      cases r with
      | nil => rfl
      | cons e l => obtain ⟨b, o, h, _⟩ := s0_.rd 0 _ rfl; cases h
    refine gw_enter1 Try.func71 rfl Try.ntmps71 rfl ?_
    have hS := St0.start All w0
    refine wpC_seq_k (fun K hK1 => ?_)
    refine wpC_region ?_
    refine wpS_quick 1 rfl ?_
    refine wpS_nil ?_
    refine QH_seq_k hK1 ?_
    refine wpC_seq_k (fun K hK2 => ?_)
    refine wpC_seq_k (fun K hK3 => ?_)
    refine wpC_region ?_
    refine wpS_quick 1 rfl ?_
    refine wpS_put rfl rfl rfl (yv_eqlNil (e := 4) (by kernel_rfl) rfl rfl) ?_
    refine wpS_nil ?_
    refine QH_seq_k hK3 ?_
    refine wpC_cond_t rfl rfl ?_
    refine wpC_seq_k (fun K hK4 => ?_)
    refine wpC_region ?_
    refine wpS_quick 1 rfl ?_
    refine wpS_nil ?_
    refine QH_seq_k hK4 ?_
    refine wpC_ret ?_
    refine QH_then_ret ?_
    refine QH_ret rfl (RV.tmp rfl RV.nil) rfl ?_
    have hS := hS.nilRow 4 1
    replace hS := hS.cut 1
    exact ⟨none, 0, rfl, ⟨Nat.le_refl _, Nat.zero_le _⟩, hS⟩
  | some a0 =>
    refine gw_enter1 Try.func71 rfl Try.ntmps71 rfl ?_
    have hS := St0.start All w0
    have H : (fewI ([] ++ r)).bind (fun z => some z) = some r := by rw [List.nil_append, H]; rfl
    refine wpC_seq_k (fun K hK5 => ?_)
    refine wpC_region ?_
    refine wpS_quick 1 rfl ?_
    refine wpS_nil ?_
    refine QH_seq_k hK5 ?_
    refine wpC_seq_k (fun K hK6 => ?_)
    refine wpC_seq_k (fun K hK7 => ?_)
    refine wpC_region ?_
    refine wpS_quick 1 rfl ?_
    refine wpS_put rfl rfl rfl (yv_eqlNil (e := 4) (by kernel_rfl) rfl rfl) ?_
    refine wpS_nil ?_
    refine QH_seq_k hK7 ?_
    refine wpC_cond_f rfl rfl ?_
    refine wpC_skip ?_
    refine QH_seq_k hK6 ?_
    refine wpC_seq_k (fun K hK8 => ?_)
    refine wpC_region ?_
    refine wpS_slice0 el_27 rfl rfl hS (fun b9 w hS hB => ?_)
    refine wpS_quick 1 rfl ?_
    obtain ⟨l11, hf12, H⟩ := bind_some H
    refine wpX_append (ys := r) he_enO oc_enO em_27 (by decide) rfl rfl rfl rfl hS (fun _ => ps0) (hS.rd0 s0_.rd) hf12 (fun A13 c14 w k15 hS => ?_)
    refine wpS_quick 1 rfl ?_
    refine wpS_nil ?_
    refine QH_seq_k hK8 ?_
    refine wpC_ret ?_
    refine QH_ret rfl (RV.tmp rfl RV.nil) rfl ?_
    obtain rfl := Option.some.inj H
    have hS := hS.front 0 rfl
    replace hS := hS.cut 1
    exact ⟨A13, c14, rfl, k15, hS⟩
theorem c_slices_Clone___int_int_ (x0 : List Int) (A0_ : Option Addr) (c0_ : Nat) (w0 : World) (s0_ : SlI w0 enI A0_ c0_ x0) {r : List Int} (H : m_slices_Clone___int_int_ x0 = some r) : Calls Try.prog 72 #[.slice A0_ x0.length c0_] w0 fun e w' => ∃ (A0 : Option Addr) (c0 : Nat), e = .returned (.slice A0 r.length c0) ∧ (r.length ≤ c0 ∧ c0 ≤ maxLen) ∧ St0 All w0 w' [.row (.slice A0 r.length c0) 3 1 r.length (encs enI r)] := by
  unfold m_slices_Clone___int_int_ at H
  obtain ⟨rfl, hfew⟩ := fewI_some H
  cases A0_ with
  | none =>
    obtain rfl : r = [] := by
      cases r with
      | nil => rfl
      | cons e l => obtain ⟨b, o, h, _⟩ := s0_.rd 0 _ rfl; cases h
    refine gw_enter1 Try.func72 rfl Try.ntmps72 rfl ?_
    have hS := St0.start All w0
    refine wpC_seq_k (fun K hK1 => ?_)
    refine wpC_region ?_
    refine wpS_quick 1 rfl ?_
    refine wpS_nil ?_
    refine QH_seq_k hK1 ?_
    refine wpC_seq_k (fun K hK2 => ?_)
    refine wpC_seq_k (fun K hK3 => ?_)
    refine wpC_region ?_
    refine wpS_quick 1 rfl ?_
    refine wpS_put rfl rfl rfl (yv_eqlNil (e := 3) (by kernel_rfl) rfl rfl) ?_
    refine wpS_nil ?_
    refine QH_seq_k hK3 ?_
    refine wpC_cond_t rfl rfl ?_
    refine wpC_seq_k (fun K hK4 => ?_)
    refine wpC_region ?_
    refine wpS_quick 1 rfl ?_
    refine wpS_nil ?_
    refine QH_seq_k hK4 ?_
    refine wpC_ret ?_
    refine QH_then_ret ?_
    refine QH_ret rfl (RV.tmp rfl RV.nil) rfl ?_
    have hS := hS.nilRow 3 1
    replace hS := hS.cut 1
    exact ⟨none, 0, rfl, ⟨Nat.le_refl _, Nat.zero_le _⟩, hS⟩
  | some a0 =>
    refine gw_enter1 Try.func72 rfl Try.ntmps72 rfl ?_
    have hS := St0.start All w0
    have H : (fewI ([] ++ r)).bind (fun z => some z) = some r := by rw [List.nil_append, H]; rfl
    refine wpC_seq_k (fun K hK5 => ?_)
    refine wpC_region ?_
    refine wpS_quick 1 rfl ?_
    refine wpS_nil ?_
    refine QH_seq_k hK5 ?_
    refine wpC_seq_k (fun K hK6 => ?_)
    refine wpC_seq_k (fun K hK7 => ?_)
    refine wpC_region ?_
    refine wpS_quick 1 rfl ?_
    refine wpS_put rfl rfl rfl (yv_eqlNil (e := 3) (by kernel_rfl) rfl rfl) ?_
    refine wpS_nil ?_
    refine QH_seq_k hK7 ?_
    refine wpC_cond_f rfl rfl ?_
    refine wpC_skip ?_
    refine QH_seq_k hK6 ?_
    refine wpC_seq_k (fun K hK8 => ?_)
    refine wpC_region ?_
    refine wpS_slice0 el_28 rfl rfl hS (fun b9 w hS hB => ?_)
    refine wpS_quick 1 rfl ?_
    obtain ⟨l11, hf12, H⟩ := bind_some H
    refine wpX_append (ys := r) he_enI oc_enI em_28 (by decide) rfl rfl rfl rfl hS (fun _ => ps0) (hS.rd0 s0_.rd) hf12 (fun A13 c14 w k15 hS => ?_)
    refine wpS_quick 1 rfl ?_
    refine wpS_nil ?_
    refine QH_seq_k hK8 ?_
    refine wpC_ret ?_
    refine QH_ret rfl (RV.tmp rfl RV.nil) rfl ?_
    obtain rfl := Option.some.inj H
    have hS := hS.front 0 rfl
    replace hS := hS.cut 1
    exact ⟨A13, c14, rfl, k15, hS⟩
theorem c_msg_Own (x0 : Co) (A0_ : Option Addr) (c0_ : Nat) (A1_ : Option Addr) (c1_ : Nat) (A2_ : Option Addr) (c2_ : Nat) (A3_ : Option Addr) (c3_ : Nat) (A4_ : Option Addr) (c4_ : Nat) (w0 : World) (s0_ : SlI w0 enE A0_ c0_ x0.tuple.log) (s1_ : SlI w0 enO A1_ c1_ x0.votes) (s2_ : SlI w0 enI A2_ c2_ x0.next) (s3_ : SlI w0 enI A3_ c3_ x0.mtch) (s4_ : SlI w0 enI A4_ c4_ x0.caps) {r : Co} (H : m_msg_Own x0 = some r) : Calls Try.prog 43 #[.agg #[.int .i64 x0.id, .int .i64 x0.n, .int .u8 x0.role, .int .i64 x0.binary, .int .i64 x0.tuple.snap.index, .int .i64 x0.tuple.snap.term, .int .i64 x0.tuple.snap.sum, .int .i64 x0.tuple.snap.level, .bool x0.tuple.snap.final, .slice A0_ x0.tuple.log.length c0_, .int .i64 x0.tuple.term, .int .i64 x0.tuple.vote, .int .i64 x0.commit, .int .i64 x0.applied.index, .int .i64 x0.applied.term, .int .i64 x0.applied.sum, .int .i64 x0.applied.level, .bool x0.applied.final, .slice A1_ x0.votes.length c1_, .slice A2_ x0.next.length c2_, .slice A3_ x0.mtch.length c3_, .slice A4_ x0.caps.length c4_]] w0 fun e w' => ∃ (A0 : Option Addr) (c0 : Nat) (A1 : Option Addr) (c1 : Nat) (A2 : Option Addr) (c2 : Nat) (A3 : Option Addr) (c3 : Nat) (A4 : Option Addr) (c4 : Nat), e = .returned (.agg #[.int .i64 r.id, .int .i64 r.n, .int .u8 r.role, .int .i64 r.binary, .int .i64 r.tuple.snap.index, .int .i64 r.tuple.snap.term, .int .i64 r.tuple.snap.sum, .int .i64 r.tuple.snap.level, .bool r.tuple.snap.final, .slice A0 r.tuple.log.length c0, .int .i64 r.tuple.term, .int .i64 r.tuple.vote, .int .i64 r.commit, .int .i64 r.applied.index, .int .i64 r.applied.term, .int .i64 r.applied.sum, .int .i64 r.applied.level, .bool r.applied.final, .slice A1 r.votes.length c1, .slice A2 r.next.length c2, .slice A3 r.mtch.length c3, .slice A4 r.caps.length c4]) ∧ (r.tuple.log.length ≤ c0 ∧ c0 ≤ maxLen) ∧ (r.votes.length ≤ c1 ∧ c1 ≤ maxLen) ∧ (r.next.length ≤ c2 ∧ c2 ≤ maxLen) ∧ (r.mtch.length ≤ c3 ∧ c3 ≤ maxLen) ∧ (r.caps.length ≤ c4 ∧ c4 ≤ maxLen) ∧ St0 All w0 w' [.row (.slice A0 r.tuple.log.length c0) 56 3 r.tuple.log.length (encs enE r.tuple.log), .row (.slice A1 r.votes.length c1) 4 1 r.votes.length (encs enO r.votes), .row (.slice A2 r.next.length c2) 3 1 r.next.length (encs enI r.next), .row (.slice A3 r.mtch.length c3) 3 1 r.mtch.length (encs enI r.mtch), .row (.slice A4 r.caps.length c4) 3 1 r.caps.length (encs enI r.caps)] := by
  unfold m_msg_Own at H
  refine gw_enter1 Try.func43 rfl Try.ntmps43 rfl ?_
  have hS := St0.start All w0
  refine wpC_seq_k (fun K hK1 => ?_)
  refine wpC_region ?_
  refine wpS_box rfl rfl rfl CellsOf.agg hS (fun b2 w hS hB => ?_)
  refine wpS_alloc rfl rfl zc_30 hS (fun b4 w hS hB => ?_)
  refine wpS_nil ?_
  refine QH_seq_k hK1 ?_
  refine wpC_seq_k (fun K hK6 => ?_)
  refine wpC_region ?_
  refine wpS_put rfl rfl rfl (yv_fieldAddr fo_30_4 rfl) ?_
  refine wpS_put rfl rfl rfl (yv_load_boxA ag_26 rfl (RW.here _) hS hs1 trivial sg4_8) ?_
  obtain ⟨r7, hm8, H⟩ := bind_some H
  refine wpS_call rfl rfl rfl rfl (by kernel_rfl) rfl (c_tuple_Own x0.tuple A0_ c0_ _ (SlI.of_rd s0_.k (hS.rd0 s0_.rd) (hS.blk0 s0_.blk)) hm8) ?_
  rintro e w ⟨A9, c10, rfl, k11, hN⟩; refine ⟨_, rfl, ?_⟩; have hB := hN.pure; have hS := hS.join hN; clear hN
  refine wpS_put rfl rfl rfl (yv_fieldAddr fo_30_4 rfl) ?_
  refine wpS_store rfl rfl rfl CellsOf.agg hS ps2 st4_8 (by kernel_rfl) rfl (fun w hS hB => ?_)
  refine wpS_nil ?_
  refine QH_seq_k hK6 ?_
  refine wpC_seq_k (fun K hK13 => ?_)
  refine wpC_draw 20 [13, 15, 17, 19] (fun i b => (i = 13 → b ≠ b2) ∧ (i = 15 → b ≠ b2) ∧ (i = 17 → b ≠ b2) ∧ (i = 19 → b ≠ b2)) ⟨by kernel_rfl, by kernel_rfl⟩ hS (fun w hS hB => ?_)
  refine wpR_batch [true, true, false, true, true, false, true, true, false, true, true] (by decide +kernel) (by repeat (first | exact PF.body | exact PF.round | apply PF.then | apply PF.inBlock | apply PF.jump)) ?_
  refine LtK.put rfl rfl rfl (yv_fieldAddr fo_30_7 rfl) ?_
  refine LtK.put rfl rfl rfl (yv_load_box sc_27 rfl (RW.below _) hS hs2 trivial sg18_1) ?_
  refine LtK.put rfl rfl rfl (yv_fieldAddr fo_30_8 rfl) ?_
  refine LtK.put rfl rfl rfl (yv_load_box sc_28 rfl (RW.below _) hS hs2 trivial sg19_1) ?_
  refine LtK.put rfl rfl rfl (yv_fieldAddr fo_30_9 rfl) ?_
  refine LtK.put rfl rfl rfl (yv_load_box sc_28 rfl (RW.below _) hS hs2 trivial sg20_1) ?_
  refine LtK.put rfl rfl rfl (yv_fieldAddr fo_30_10 rfl) ?_
  refine LtK.put rfl rfl rfl (yv_load_box sc_28 rfl (RW.below _) hS hs2 trivial sg21_1) ?_
  refine LtK.nil ?_
  refine wpR_call [false, false, true] 2 ⟨by decide, by kernel_rfl, by kernel_rfl⟩ rfl rfl ?_
  try dsimp only [pickL]
  obtain ⟨r14, hm15, H⟩ := bind_some H
  refine wpS_call rfl rfl rfl rfl (by kernel_rfl) rfl (c_slices_Clone___bool_bool_ x0.votes A1_ c1_ _ (SlI.of_rd s1_.k (hS.rd0 s1_.rd) (hS.blk0 s1_.blk)) hm15) ?_
  rintro e w ⟨A16, c17, rfl, k18, hN⟩; refine ⟨_, rfl, ?_⟩; have hB := hN.pure; have hS := hS.join hN; clear hN
  refine wpS_nil ?_
  refine QH_step hB ?_
  refine wpR_batch [false, false, false, false, false, false, false, false, false, false, false, false, true] (by decide +kernel) (by repeat (first | exact PF.body | exact PF.round | apply PF.then | apply PF.inBlock | apply PF.jump)) ?_
  refine LtK.put rfl rfl rfl (yv_fieldAddr fo_30_7 rfl) ?_
  refine LtK.nil ?_
  refine wpR_call [false, false, false, false, false, true] 5 ⟨by decide, by kernel_rfl, by kernel_rfl⟩ rfl rfl ?_
  try dsimp only [pickL]
  obtain ⟨r20, hm21, H⟩ := bind_some H
  refine wpS_call rfl rfl rfl rfl (by kernel_rfl) rfl (c_slices_Clone___int_int_ x0.next A2_ c2_ _ (SlI.of_rd s2_.k (hS.rd0 s2_.rd) (hS.blk0 s2_.blk)) hm21) ?_
  rintro e w ⟨A22, c23, rfl, k24, hN⟩; refine ⟨_, rfl, ?_⟩; have hB := hN.pure; have hS := hS.join hN; clear hN
  refine wpS_nil ?_
  refine QH_step hB ?_
  refine wpR_call [false, false, false, false, false, false, false, false, true] 8 ⟨by decide, by kernel_rfl, by kernel_rfl⟩ rfl rfl ?_
  try dsimp only [pickL]
  obtain ⟨r26, hm27, H⟩ := bind_some H
  refine wpS_call rfl rfl rfl rfl (by kernel_rfl) rfl (c_slices_Clone___int_int_ x0.mtch A3_ c3_ _ (SlI.of_rd s3_.k (hS.rd0 s3_.rd) (hS.blk0 s3_.blk)) hm27) ?_
  rintro e w ⟨A28, c29, rfl, k30, hN⟩; refine ⟨_, rfl, ?_⟩; have hB := hN.pure; have hS := hS.join hN; clear hN
  refine wpS_nil ?_
  refine QH_step hB ?_
  refine wpR_call [false, false, false, false, false, false, false, false, false, false, false, true] 11 ⟨by decide, by kernel_rfl, by kernel_rfl⟩ rfl rfl ?_
  try dsimp only [pickL]
  obtain ⟨r32, hm33, H⟩ := bind_some H
  refine wpS_call rfl rfl rfl rfl (by kernel_rfl) rfl (c_slices_Clone___int_int_ x0.caps A4_ c4_ _ (SlI.of_rd s4_.k (hS.rd0 s4_.rd) (hS.blk0 s4_.blk)) hm33) ?_
  rintro e w ⟨A34, c35, rfl, k36, hN⟩; refine ⟨_, rfl, ?_⟩; have hB := hN.pure; have hS := hS.join hN; clear hN
  refine wpS_nil ?_
  refine QH_step hB ?_
  refine wpR_seal [false, false, false, false, false, false, false, false, false, false, false, false, false, true] 13 ⟨by decide, by kernel_rfl, by kernel_rfl⟩ rfl rfl ?_
  try dsimp only [pickL]
  refine wpS_store rfl rfl rfl CellsOf.slice hS ps6 st18_1 (by kernel_rfl) rfl (fun w hS hB => ?_)
  refine wpS_nil ?_
  refine QH_stepG (hB.sub (fun _ _ h => by simpa using h)) ?_
  refine wpR_batch [false, false, false, false, false, false, false, false, false, false, false, false, false, false, true] (by decide +kernel) (by repeat (first | exact PF.body | exact PF.round | apply PF.then | apply PF.inBlock | apply PF.jump)) ?_
  refine LtK.put rfl rfl rfl (yv_fieldAddr fo_30_8 rfl) ?_
  refine LtK.nil ?_
  refine wpR_seal [false, false, false, false, false, false, false, false, false, false, false, false, false, false, false, true] 15 ⟨by decide, by kernel_rfl, by kernel_rfl⟩ rfl rfl ?_
  try dsimp only [pickL]
  refine wpS_store rfl rfl rfl CellsOf.slice hS ps6 st19_1 (by kernel_rfl) rfl (fun w hS hB => ?_)
  refine wpS_nil ?_
  refine QH_stepG (hB.sub (fun _ _ h => by simpa using h)) ?_
  refine wpR_batch [false, false, false, false, false, false, false, false, false, false, false, false, false, false, false, false, true] (by decide +kernel) (by repeat (first | exact PF.body | exact PF.round | apply PF.then | apply PF.inBlock | apply PF.jump)) ?_
  refine LtK.put rfl rfl rfl (yv_fieldAddr fo_30_9 rfl) ?_
  refine LtK.nil ?_
  refine wpR_seal [false, false, false, false, false, false, false, false, false, false, false, false, false, false, false, false, false, true] 17 ⟨by decide, by kernel_rfl, by kernel_rfl⟩ rfl rfl ?_
  try dsimp only [pickL]
  refine wpS_store rfl rfl rfl CellsOf.slice hS ps6 st20_1 (by kernel_rfl) rfl (fun w hS hB => ?_)
  refine wpS_nil ?_
  refine QH_stepG (hB.sub (fun _ _ h => by simpa using h)) ?_
  refine wpR_batch [false, false, false, false, false, false, false, false, false, false, false, false, false, false, false, false, false, false, true] (by decide +kernel) (by repeat (first | exact PF.body | exact PF.round | apply PF.then | apply PF.inBlock | apply PF.jump)) ?_
  refine LtK.put rfl rfl rfl (yv_fieldAddr fo_30_10 rfl) ?_
  refine LtK.nil ?_
  refine wpR_seal [false, false, false, false, false, false, false, false, false, false, false, false, false, false, false, false, false, false, false, true] 19 ⟨by decide, by kernel_rfl, by kernel_rfl⟩ rfl rfl ?_
  try dsimp only [pickL]
  refine wpS_store rfl rfl rfl CellsOf.slice hS ps6 st21_1 (by kernel_rfl) rfl (fun w hS hB => ?_)
  refine wpS_nil ?_
  refine QH_stepG (hB.sub (fun _ _ h => by simpa using h)) ?_
  refine wpR_end (by kernel_rfl) ?_
  refine QH_seq_k hK13 ?_
  refine wpC_seq_k (fun K hK38 => ?_)
  refine wpC_region ?_
  refine wpS_put rfl rfl rfl (yv_load_boxA ag_30 rfl (RW.here _) hS hs6 trivial sg0_22) ?_
  refine wpS_store rfl rfl rfl CellsOf.agg hS ps5 st0_22 (by kernel_rfl) rfl (fun w hS hB => ?_)
  refine wpS_nil ?_
  refine QH_seq_k hK38 ?_
  refine wpC_ret ?_
  refine QH_ret rfl (RV.cell rfl (load_boxA ag_30 hS hs5 sg0_22) RV.nil) rfl ?_
  obtain rfl := Option.some.inj H
  have hS := hS.front 0 rfl
  have hS := hS.front 1 rfl
  have hS := hS.front 2 rfl
  have hS := hS.front 3 rfl
  have hS := hS.front 4 rfl
  replace hS := hS.cut 5
  exact ⟨A9, c10, A16, c17, A22, c23, A28, c29, A34, c35, rfl, k11, k18, k24, k30, k36, hS⟩
theorem c_tuple_Last (x0 : Tu) (A0_ : Option Addr) (c0_ : Nat) (w0 : World) (s0_ : SlI w0 enE A0_ c0_ x0.log) {r : Int} (H : m_tuple_Last x0 = some r) : Calls Try.prog 54 #[.agg #[.int .i64 x0.snap.index, .int .i64 x0.snap.term, .int .i64 x0.snap.sum, .int .i64 x0.snap.level, .bool x0.snap.final, .slice A0_ x0.log.length c0_, .int .i64 x0.term, .int .i64 x0.vote]] w0 fun e w' => e = .returned (.int .i64 r) ∧ St0 All w0 w' [] := by
  unfold m_tuple_Last at H
  refine gw_enter1 Try.func54 rfl Try.ntmps54 rfl ?_
  have hS := St0.start All w0
  refine wpC_seq_k (fun K hK1 => ?_)
  refine wpC_region ?_
  refine wpS_box rfl rfl rfl CellsOf.agg hS (fun b2 w hS hB => ?_)
  refine wpS_quick 1 rfl ?_
  refine wpS_nil ?_
  refine QH_seq_k hK1 ?_
  refine wpC_seq_k (fun K hK4 => ?_)
  refine wpC_region ?_
  refine wpS_put rfl rfl rfl (yv_fieldAddr fo_26_0 rfl) ?_
  refine wpS_put rfl rfl rfl (yv_fieldAddr fo_23_0 rfl) ?_
  refine wpS_put rfl rfl rfl (yv_load_box sc_3 rfl (RW.here _) hS hs0 trivial sg0_1) ?_
  refine wpS_put rfl rfl rfl (yv_fieldAddr fo_26_1 rfl) ?_
  refine wpS_put rfl rfl rfl (yv_load_box sc_24 rfl (RW.here _) hS hs0 trivial sg5_1) ?_
  refine wpS_put rfl rfl rfl (yv_len el_24 rfl) ?_
  refine wpS_put rfl rfl rfl (yx_add rfl rfl) ?_
  refine wpS_quick 1 rfl ?_
  refine wpS_nil ?_
  refine QH_seq_k hK4 ?_
  refine wpC_ret ?_
  refine QH_ret rfl (RV.tmp rfl RV.nil) rfl ?_
  obtain rfl := Option.some.inj H
  replace hS := hS.cut 0
  exact ⟨rfl, hS⟩
theorem c_msg_within (x0 : Int) (x1 : Int) (x2 : Int) (w0 : World) {r : Bool} (H : m_msg_within x0 x1 x2 = some r) : Calls Try.prog 74 #[.int .i64 x0, .int .i64 x1, .int .i64 x2] w0 fun e w' => e = .returned (.bool r) ∧ St0 All w0 w' [] := by
  unfold m_msg_within at H
  refine gw_enter3 Try.func74 rfl Try.ntmps74 rfl ?_
  have hS := St0.start All w0
  refine wpC_seq_k (fun K hK1 => ?_)
  refine wpC_region ?_
  refine wpS_quick 1 rfl ?_
  refine wpS_nil ?_
  refine QH_seq_k hK1 ?_
  refine wpC_seq_k (fun K hK2 => ?_)
  refine wpC_region ?_
  refine wpS_quick 2 rfl ?_
  refine wpS_put rfl rfl rfl (yv_geq rfl rfl) ?_
  refine wpS_quick 1 rfl ?_
  refine wpS_case 10 rfl (fun hb => ?_) (fun hb => ?_)
  rotate_left
  · replace H := cond_f H hb
    refine wpS_quick 5 rfl ?_
    refine wpS_nil ?_
    refine QH_seq_k hK2 ?_
    refine wpC_ret ?_
    refine QH_ret rfl (RV.tmp rfl RV.nil) rfl ?_
    obtain rfl := Option.some.inj H
    replace hS := hS.cut 0
    exact ⟨rfl, hS⟩
  replace H := cond_t H hb
  refine wpS_quick 2 rfl ?_
  refine wpS_put rfl rfl rfl (yv_leq rfl rfl) ?_
  refine wpS_quick 2 rfl ?_
  refine wpS_nil ?_
  refine QH_seq_k hK2 ?_
  refine wpC_ret ?_
  refine QH_ret rfl (RV.tmp rfl RV.nil) rfl ?_
  obtain rfl := Option.some.inj H
  replace hS := hS.cut 0
  exact ⟨rfl, hS⟩
theorem c_entry_First (w0 : World) {r : St} (H : m_entry_First = some r) : Calls Try.prog 121 #[] w0 fun e w' => e = .returned (.agg #[.int .i64 r.index, .int .i64 r.term, .int .i64 r.sum, .int .i64 r.level, .bool r.final]) ∧ St0 All w0 w' [] := by
  unfold m_entry_First at H
  refine gw_enter0 Try.func121 rfl Try.ntmps121 rfl ?_
  have hS := St0.start All w0
  refine wpC_seq_k (fun K hK1 => ?_)
  refine wpC_region ?_
  refine wpS_alloc rfl rfl zc_23 hS (fun b2 w hS hB => ?_)
  refine wpS_nil ?_
  refine QH_seq_k hK1 ?_
  refine wpC_seq_k (fun K hK4 => ?_)
  refine wpC_region ?_
  refine wpS_put rfl rfl rfl (yv_build (cells := [.int .i64 0, .int .i64 0, .int .i64 0, .int .i64 1, .bool false]) rfl (by kernel_rfl)) ?_
  refine wpS_store rfl rfl rfl CellsOf.agg hS ps0 st0_5 (by kernel_rfl) rfl (fun w hS hB => ?_)
  refine wpS_nil ?_
  refine QH_seq_k hK4 ?_
  refine wpC_ret ?_
  refine QH_ret rfl (RV.cell rfl (load_boxA ag_23 hS hs0 sg0_5) RV.nil) rfl ?_
  obtain rfl := Option.some.inj H
  replace hS := hS.cut 0
  exact ⟨rfl, hS⟩
theorem c_entry_number (x0 : Int) (w0 : World) {r : Bool} (H : m_entry_number x0 = some r) : Calls Try.prog 122 #[.int .i64 x0] w0 fun e w' => e = .returned (.bool r) ∧ St0 All w0 w' [] := by
  unfold m_entry_number at H
  refine gw_enter1 Try.func122 rfl Try.ntmps122 rfl ?_
  have hS := St0.start All w0
  refine wpC_seq_k (fun K hK1 => ?_)
  refine wpC_region ?_
  refine wpS_quick 1 rfl ?_
  refine wpS_nil ?_
  refine QH_seq_k hK1 ?_
  refine wpC_seq_k (fun K hK2 => ?_)
  refine wpC_region ?_
  refine wpS_quick 1 rfl ?_
  refine wpS_put rfl rfl rfl (yv_geq rfl rfl) ?_
  refine wpS_quick 1 rfl ?_
  refine wpS_case 5 rfl (fun hb => ?_) (fun hb => ?_)
  rotate_left
  · replace H := cond_f H hb
    refine wpS_quick 4 rfl ?_
    refine wpS_nil ?_
    refine QH_seq_k hK2 ?_
    refine wpC_ret ?_
    refine QH_ret rfl (RV.tmp rfl RV.nil) rfl ?_
    obtain rfl := Option.some.inj H
    replace hS := hS.cut 0
    exact ⟨rfl, hS⟩
  replace H := cond_t H hb
  refine wpS_quick 1 rfl ?_
  refine wpS_put rfl rfl rfl (yv_leq rfl rfl) ?_
  refine wpS_quick 2 rfl ?_
  refine wpS_nil ?_
  refine QH_seq_k hK2 ?_
  refine wpC_ret ?_
  refine QH_ret rfl (RV.tmp rfl RV.nil) rfl ?_
  obtain rfl := Option.some.inj H
  replace hS := hS.cut 0
  exact ⟨rfl, hS⟩
theorem c_entry_Fine (x0 : St) (w0 : World) {r : Bool} (H : m_entry_Fine x0 = some r) : Calls Try.prog 112 #[.agg #[.int .i64 x0.index, .int .i64 x0.term, .int .i64 x0.sum, .int .i64 x0.level, .bool x0.final]] w0 fun e w' => e = .returned (.bool r) ∧ St0 All w0 w' [] := by
  unfold m_entry_Fine at H
  refine gw_enter1 Try.func112 rfl Try.ntmps112 rfl ?_
  have hS := St0.start All w0
  refine wpC_seq_k (fun K hK1 => ?_)
  refine wpC_region ?_
  refine wpS_box rfl rfl rfl CellsOf.agg hS (fun b2 w hS hB => ?_)
  refine wpS_quick 1 rfl ?_
  refine wpS_nil ?_
  refine QH_seq_k hK1 ?_
  refine wpC_seq_k (fun K hK4 => ?_)
  refine wpC_block ?_
  refine wpC_seq_k (fun K hK5 => ?_)
  refine wpC_region ?_
  refine wpS_put rfl rfl rfl (yv_fieldAddr fo_23_0 rfl) ?_
  refine wpS_put rfl rfl rfl (yv_load_box sc_3 rfl (RW.here _) hS hs0 trivial sg0_1) ?_
  refine wpS_put rfl rfl rfl (yv_eql rfl rfl) ?_
  refine wpS_quick 1 rfl ?_
  refine wpS_nil ?_
  refine QH_seq_k hK5 ?_
  refine wpC_cond rfl (fun hb => ?_) (fun hb => ?_)
  · replace H := cond_t H hb
    refine wpC_seq_k (fun K hK6 => ?_)
    refine wpC_draw 4 [] (fun _ _ => True) ⟨by kernel_rfl, by kernel_rfl⟩ hS (fun w hS hB => ?_)
    refine wpR_batch [true] (by decide +kernel) (by repeat (first | exact PF.body | exact PF.round | apply PF.then | apply PF.inBlock | apply PF.jump)) ?_
    refine LtK.put rfl rfl rfl (yv_load_boxA ag_23 rfl (RW.below _) hS hs0 trivial sg0_5) ?_
    refine LtK.nil ?_
    refine wpR_call [false, true] 1 ⟨by decide, by kernel_rfl, by kernel_rfl⟩ rfl rfl ?_
    try dsimp only [pickL]
    obtain ⟨r7, hm8, H⟩ := bind_some H
    refine wpS_call rfl rfl rfl rfl (by kernel_rfl) rfl (c_entry_First _ hm8) ?_
    rintro e w ⟨rfl, hN⟩; refine ⟨_, rfl, ?_⟩; have hB := hN.pure; have hS := hS.join hN; clear hN
    refine wpS_nil ?_
    refine QH_step hB ?_
    refine wpR_batch [false, false, true, true] (by decide +kernel) (by repeat (first | exact PF.body | exact PF.round | apply PF.then | apply PF.inBlock | apply PF.jump)) ?_
    refine LtK.put rfl rfl rfl (yv_eqlS (by kernel_rfl) rfl rfl (eqT_23 _ _ _ _ _ _ _ _ _ _)) ?_
    refine LtK.put rfl rfl rfl (yv_assign rfl) ?_
    refine LtK.nil ?_
    refine wpR_end (by kernel_rfl) ?_
    refine QH_seq_k hK6 ?_
    refine wpC_ret ?_
    refine QH_block_ret ?_
    refine QH_then_ret ?_
    refine QH_ret rfl (RV.tmp rfl RV.nil) rfl ?_
    obtain rfl := Option.some.inj H
    replace hS := hS.cut 0
    exact ⟨rfl, hS⟩
  replace H := cond_f H hb
  refine wpC_seq_k (fun K hK9 => ?_)
  refine wpC_region ?_
  refine wpS_put rfl rfl rfl (yv_fieldAddr fo_23_4 rfl) ?_
  refine wpS_put rfl rfl rfl (yv_load_box sc_4 rfl (RW.here _) hS hs0 trivial sg4_1) ?_
  refine wpS_quick 1 rfl ?_
  refine wpS_nil ?_
  refine QH_seq_k hK9 ?_
  refine wpC_cond rfl (fun hb => ?_) (fun hb => ?_)
  · replace H := cond_t H hb
    refine wpC_seq_k (fun K hK10 => ?_)
    refine wpC_region ?_
    refine wpS_put rfl rfl rfl (yv_fieldAddr fo_23_3 rfl) ?_
    refine wpS_put rfl rfl rfl (yv_load_box sc_3 rfl (RW.here _) hS hs0 trivial sg3_1) ?_
    refine wpS_put rfl rfl rfl (yv_eql rfl rfl) ?_
    refine wpS_quick 1 rfl ?_
    refine wpS_case 16 rfl (fun hb => ?_) (fun hb => ?_)
    rotate_left
    · replace H := cond_f H hb
      refine wpS_quick 20 rfl ?_
      refine wpS_nil ?_
      refine QH_seq_k hK10 ?_
      refine wpC_ret ?_
      refine QH_block_ret ?_
      refine QH_then_ret ?_
      refine QH_ret rfl (RV.tmp rfl RV.nil) rfl ?_
      obtain rfl := Option.some.inj H
      replace hS := hS.cut 0
      exact ⟨rfl, hS⟩
    replace H := cond_t H hb
    refine wpS_put rfl rfl rfl (yv_fieldAddr fo_23_0 rfl) ?_
    refine wpS_put rfl rfl rfl (yv_load_box sc_3 rfl (RW.here _) hS hs0 trivial sg0_1) ?_
    obtain ⟨r11, hm12, H⟩ := bind_some H
    refine wpS_call rfl rfl rfl rfl (by kernel_rfl) rfl (c_entry_number x0.index _ hm12) ?_
    rintro e w ⟨rfl, hN⟩; refine ⟨_, rfl, ?_⟩; have hB := hN.pure; have hS := hS.join hN; clear hN
    refine wpS_quick 2 rfl ?_
    refine wpS_case 21 rfl (fun hb => ?_) (fun hb => ?_)
    rotate_left
    · replace H := cond_f H hb
      refine wpS_quick 15 rfl ?_
      refine wpS_nil ?_
      refine QH_seq_k hK10 ?_
      refine wpC_ret ?_
      refine QH_block_ret ?_
      refine QH_then_ret ?_
      refine QH_ret rfl (RV.tmp rfl RV.nil) rfl ?_
      obtain rfl := Option.some.inj H
      replace hS := hS.cut 0
      exact ⟨rfl, hS⟩
    replace H := cond_t H hb
    refine wpS_put rfl rfl rfl (yv_fieldAddr fo_23_1 rfl) ?_
    refine wpS_put rfl rfl rfl (yv_load_box sc_3 rfl (RW.here _) hS hs0 trivial sg1_1) ?_
    refine wpS_put rfl rfl rfl (yv_gtr rfl rfl) ?_
    refine wpS_quick 2 rfl ?_
    refine wpS_case 26 rfl (fun hb => ?_) (fun hb => ?_)
    rotate_left
    · replace H := cond_f H hb
      refine wpS_quick 10 rfl ?_
      refine wpS_nil ?_
      refine QH_seq_k hK10 ?_
      refine wpC_ret ?_
      refine QH_block_ret ?_
      refine QH_then_ret ?_
      refine QH_ret rfl (RV.tmp rfl RV.nil) rfl ?_
      obtain rfl := Option.some.inj H
      replace hS := hS.cut 0
      exact ⟨rfl, hS⟩
    replace H := cond_t H hb
    refine wpS_put rfl rfl rfl (yv_fieldAddr fo_23_1 rfl) ?_
    refine wpS_put rfl rfl rfl (yv_load_box sc_3 rfl (RW.here _) hS hs0 trivial sg1_1) ?_
    obtain ⟨r13, hm14, H⟩ := bind_some H
    refine wpS_call rfl rfl rfl rfl (by kernel_rfl) rfl (c_entry_number x0.term _ hm14) ?_
    rintro e w ⟨rfl, hN⟩; refine ⟨_, rfl, ?_⟩; have hB := hN.pure; have hS := hS.join hN; clear hN
    refine wpS_quick 2 rfl ?_
    refine wpS_case 31 rfl (fun hb => ?_) (fun hb => ?_)
    rotate_left
    · replace H := cond_f H hb
      refine wpS_quick 5 rfl ?_
      refine wpS_nil ?_
      refine QH_seq_k hK10 ?_
      refine wpC_ret ?_
      refine QH_block_ret ?_
      refine QH_then_ret ?_
      refine QH_ret rfl (RV.tmp rfl RV.nil) rfl ?_
      obtain rfl := Option.some.inj H
      replace hS := hS.cut 0
      exact ⟨rfl, hS⟩
    replace H := cond_t H hb
    refine wpS_put rfl rfl rfl (yv_fieldAddr fo_23_2 rfl) ?_
    refine wpS_put rfl rfl rfl (yv_load_box sc_3 rfl (RW.here _) hS hs0 trivial sg2_1) ?_
    obtain ⟨r15, hm16, H⟩ := bind_some H
    refine wpS_call rfl rfl rfl rfl (by kernel_rfl) rfl (c_entry_number x0.sum _ hm16) ?_
    rintro e w ⟨rfl, hN⟩; refine ⟨_, rfl, ?_⟩; have hB := hN.pure; have hS := hS.join hN; clear hN
    refine wpS_quick 2 rfl ?_
    refine wpS_nil ?_
    refine QH_seq_k hK10 ?_
    refine wpC_ret ?_
    refine QH_block_ret ?_
    refine QH_then_ret ?_
    refine QH_ret rfl (RV.tmp rfl RV.nil) rfl ?_
    obtain rfl := Option.some.inj H
    replace hS := hS.cut 0
    exact ⟨rfl, hS⟩
  replace H := cond_f H hb
  refine wpC_skip ?_
  refine QH_block_normal ?_
  refine QH_seq_k hK4 ?_
  refine wpC_seq_k (fun K hK17 => ?_)
  refine wpC_region ?_
  refine wpS_put rfl rfl rfl (yv_fieldAddr fo_23_3 rfl) ?_
  refine wpS_put rfl rfl rfl (yv_load_box sc_3 rfl (RW.here _) hS hs0 trivial sg3_1) ?_
  refine wpS_put rfl rfl rfl (yv_eql rfl rfl) ?_
  refine wpS_quick 1 rfl ?_
  refine wpS_case 39 rfl (fun hb => ?_) (fun hb => ?_)
  · replace H := cond_t H hb
    refine wpS_quick 5 rfl ?_
    refine wpS_put rfl rfl rfl (yv_fieldAddr fo_23_0 rfl) ?_
    refine wpS_put rfl rfl rfl (yv_load_box sc_3 rfl (RW.here _) hS hs0 trivial sg0_1) ?_
    obtain ⟨r18, hm19, H⟩ := bind_some H
    refine wpS_call rfl rfl rfl rfl (by kernel_rfl) rfl (c_entry_number x0.index _ hm19) ?_
    rintro e w ⟨rfl, hN⟩; refine ⟨_, rfl, ?_⟩; have hB := hN.pure; have hS := hS.join hN; clear hN
    refine wpS_quick 2 rfl ?_
    refine wpS_case 49 rfl (fun hb => ?_) (fun hb => ?_)
    rotate_left
    · replace H := cond_f H hb
      refine wpS_quick 15 rfl ?_
      refine wpS_nil ?_
      refine QH_seq_k hK17 ?_
      refine wpC_ret ?_
      refine QH_ret rfl (RV.tmp rfl RV.nil) rfl ?_
      obtain rfl := Option.some.inj H
      replace hS := hS.cut 0
      exact ⟨rfl, hS⟩
    replace H := cond_t H hb
    refine wpS_put rfl rfl rfl (yv_fieldAddr fo_23_1 rfl) ?_
    refine wpS_put rfl rfl rfl (yv_load_box sc_3 rfl (RW.here _) hS hs0 trivial sg1_1) ?_
    refine wpS_put rfl rfl rfl (yv_gtr rfl rfl) ?_
    refine wpS_quick 2 rfl ?_
    refine wpS_case 54 rfl (fun hb => ?_) (fun hb => ?_)
    rotate_left
    · replace H := cond_f H hb
      refine wpS_quick 10 rfl ?_
      refine wpS_nil ?_
      refine QH_seq_k hK17 ?_
      refine wpC_ret ?_
      refine QH_ret rfl (RV.tmp rfl RV.nil) rfl ?_
      obtain rfl := Option.some.inj H
      replace hS := hS.cut 0
      exact ⟨rfl, hS⟩
    replace H := cond_t H hb
    refine wpS_put rfl rfl rfl (yv_fieldAddr fo_23_1 rfl) ?_
    refine wpS_put rfl rfl rfl (yv_load_box sc_3 rfl (RW.here _) hS hs0 trivial sg1_1) ?_
    obtain ⟨r20, hm21, H⟩ := bind_some H
    refine wpS_call rfl rfl rfl rfl (by kernel_rfl) rfl (c_entry_number x0.term _ hm21) ?_
    rintro e w ⟨rfl, hN⟩; refine ⟨_, rfl, ?_⟩; have hB := hN.pure; have hS := hS.join hN; clear hN
    refine wpS_quick 2 rfl ?_
    refine wpS_case 59 rfl (fun hb => ?_) (fun hb => ?_)
    rotate_left
    · replace H := cond_f H hb
      refine wpS_quick 5 rfl ?_
      refine wpS_nil ?_
      refine QH_seq_k hK17 ?_
      refine wpC_ret ?_
      refine QH_ret rfl (RV.tmp rfl RV.nil) rfl ?_
      obtain rfl := Option.some.inj H
      replace hS := hS.cut 0
      exact ⟨rfl, hS⟩
    replace H := cond_t H hb
    refine wpS_put rfl rfl rfl (yv_fieldAddr fo_23_2 rfl) ?_
    refine wpS_put rfl rfl rfl (yv_load_box sc_3 rfl (RW.here _) hS hs0 trivial sg2_1) ?_
    obtain ⟨r22, hm23, H⟩ := bind_some H
    refine wpS_call rfl rfl rfl rfl (by kernel_rfl) rfl (c_entry_number x0.sum _ hm23) ?_
    rintro e w ⟨rfl, hN⟩; refine ⟨_, rfl, ?_⟩; have hB := hN.pure; have hS := hS.join hN; clear hN
    refine wpS_quick 2 rfl ?_
    refine wpS_nil ?_
    refine QH_seq_k hK17 ?_
    refine wpC_ret ?_
    refine QH_ret rfl (RV.tmp rfl RV.nil) rfl ?_
    obtain rfl := Option.some.inj H
    replace hS := hS.cut 0
    exact ⟨rfl, hS⟩
  replace H := cond_f H hb
  refine wpS_put rfl rfl rfl (yv_fieldAddr fo_23_3 rfl) ?_
  refine wpS_put rfl rfl rfl (yv_load_box sc_3 rfl (RW.here _) hS hs0 trivial sg3_1) ?_
  refine wpS_put rfl rfl rfl (yv_eql rfl rfl) ?_
  refine wpS_quick 2 rfl ?_
  refine wpS_case 44 rfl (fun hb => ?_) (fun hb => ?_)
  rotate_left
  · replace H := cond_f H hb
    refine wpS_quick 20 rfl ?_
    refine wpS_nil ?_
    refine QH_seq_k hK17 ?_
    refine wpC_ret ?_
    refine QH_ret rfl (RV.tmp rfl RV.nil) rfl ?_
    obtain rfl := Option.some.inj H
    replace hS := hS.cut 0
    exact ⟨rfl, hS⟩
  replace H := cond_t H hb
  refine wpS_put rfl rfl rfl (yv_fieldAddr fo_23_0 rfl) ?_
  refine wpS_put rfl rfl rfl (yv_load_box sc_3 rfl (RW.here _) hS hs0 trivial sg0_1) ?_
  obtain ⟨r24, hm25, H⟩ := bind_some H
  refine wpS_call rfl rfl rfl rfl (by kernel_rfl) rfl (c_entry_number x0.index _ hm25) ?_
  rintro e w ⟨rfl, hN⟩; refine ⟨_, rfl, ?_⟩; have hB := hN.pure; have hS := hS.join hN; clear hN
  refine wpS_quick 2 rfl ?_
  refine wpS_case 49 rfl (fun hb => ?_) (fun hb => ?_)
  rotate_left
  · replace H := cond_f H hb
    refine wpS_quick 15 rfl ?_
    refine wpS_nil ?_
    refine QH_seq_k hK17 ?_
    refine wpC_ret ?_
    refine QH_ret rfl (RV.tmp rfl RV.nil) rfl ?_
    obtain rfl := Option.some.inj H
    replace hS := hS.cut 0
    exact ⟨rfl, hS⟩
  replace H := cond_t H hb
  refine wpS_put rfl rfl rfl (yv_fieldAddr fo_23_1 rfl) ?_
  refine wpS_put rfl rfl rfl (yv_load_box sc_3 rfl (RW.here _) hS hs0 trivial sg1_1) ?_
  refine wpS_put rfl rfl rfl (yv_gtr rfl rfl) ?_
  refine wpS_quick 2 rfl ?_
  refine wpS_case 54 rfl (fun hb => ?_) (fun hb => ?_)
  rotate_left
  · replace H := cond_f H hb
    refine wpS_quick 10 rfl ?_
    refine wpS_nil ?_
    refine QH_seq_k hK17 ?_
    refine wpC_ret ?_
    refine QH_ret rfl (RV.tmp rfl RV.nil) rfl ?_
    obtain rfl := Option.some.inj H
    replace hS := hS.cut 0
    exact ⟨rfl, hS⟩
  replace H := cond_t H hb
  refine wpS_put rfl rfl rfl (yv_fieldAddr fo_23_1 rfl) ?_
  refine wpS_put rfl rfl rfl (yv_load_box sc_3 rfl (RW.here _) hS hs0 trivial sg1_1) ?_
  obtain ⟨r26, hm27, H⟩ := bind_some H
  refine wpS_call rfl rfl rfl rfl (by kernel_rfl) rfl (c_entry_number x0.term _ hm27) ?_
  rintro e w ⟨rfl, hN⟩; refine ⟨_, rfl, ?_⟩; have hB := hN.pure; have hS := hS.join hN; clear hN
  refine wpS_quick 2 rfl ?_
  refine wpS_case 59 rfl (fun hb => ?_) (fun hb => ?_)
  rotate_left
  · replace H := cond_f H hb
    refine wpS_quick 5 rfl ?_
    refine wpS_nil ?_
    refine QH_seq_k hK17 ?_
    refine wpC_ret ?_
    refine QH_ret rfl (RV.tmp rfl RV.nil) rfl ?_
    obtain rfl := Option.some.inj H
    replace hS := hS.cut 0
    exact ⟨rfl, hS⟩
  replace H := cond_t H hb
  refine wpS_put rfl rfl rfl (yv_fieldAddr fo_23_2 rfl) ?_
  refine wpS_put rfl rfl rfl (yv_load_box sc_3 rfl (RW.here _) hS hs0 trivial sg2_1) ?_
  obtain ⟨r28, hm29, H⟩ := bind_some H
  refine wpS_call rfl rfl rfl rfl (by kernel_rfl) rfl (c_entry_number x0.sum _ hm29) ?_
  rintro e w ⟨rfl, hN⟩; refine ⟨_, rfl, ?_⟩; have hB := hN.pure; have hS := hS.join hN; clear hN
  refine wpS_quick 2 rfl ?_
  refine wpS_nil ?_
  refine QH_seq_k hK17 ?_
  refine wpC_ret ?_
  refine QH_ret rfl (RV.tmp rfl RV.nil) rfl ?_
  obtain rfl := Option.some.inj H
  replace hS := hS.cut 0
  exact ⟨rfl, hS⟩
theorem c_msg_each (x0 : List Int) (x1 : Int) (x2 : Int) (x3 : Int) (A0_ : Option Addr) (c0_ : Nat) (w0 : World) (s0_ : SlI w0 enI A0_ c0_ x0) {r : Bool} (H : m_msg_each x0 x1 x2 x3 = some r) : Calls Try.prog 79 #[.slice A0_ x0.length c0_, .int .i64 x1, .int .i64 x2, .int .i64 x3] w0 fun e w' => e = .returned (.bool r) ∧ St0 All w0 w' [] := by
  unfold m_msg_each at H
  refine gw_enter4 Try.func79 rfl Try.ntmps79 rfl ?_
  have hS := St0.start All w0
  refine wpC_seq_k (fun K hK1 => ?_)
  refine wpC_region ?_
  refine wpS_box rfl rfl rfl CellsOf.int hS (fun b2 w hS hB => ?_)
  refine wpS_box rfl rfl rfl CellsOf.int hS (fun b4 w hS hB => ?_)
  refine wpS_quick 1 rfl ?_
  refine wpS_nil ?_
  refine QH_seq_k hK1 ?_
  refine wpC_seq_k (fun K hK6 => ?_)
  refine wpC_region ?_
  refine wpS_quick 1 rfl ?_
  refine wpS_put rfl rfl rfl (yv_len el_28 rfl) ?_
  refine wpS_quick 1 rfl ?_
  refine wpS_put rfl rfl rfl (yv_eql rfl rfl) ?_
  refine wpS_quick 1 rfl ?_
  refine wpS_case 13 rfl (fun hb => ?_) (fun hb => ?_)
  rotate_left
  · replace H := cond_f H hb
    refine wpS_quick 6 rfl ?_
    refine wpS_nil ?_
    refine QH_seq_k hK6 ?_
    refine wpC_ret ?_
    refine QH_ret rfl (RV.tmp rfl RV.nil) rfl ?_
    obtain rfl := Option.some.inj H
    replace hS := hS.cut 0
    exact ⟨rfl, hS⟩
  replace H := cond_t H hb
  refine wpS_quick 1 rfl ?_
  refine wpS_put rfl rfl rfl (yv_makeFunc rfl rfl) ?_
  refine wpS_in rfl rfl rfl rfl (by kernel_rfl) rfl ?_
  show Calls _ _ #[_, _] _ _
  refine gw_enter2 Try.func108 rfl Try.ntmps108 rfl ?_
  refine wpC_seq_k (fun K hK7 => ?_)
  refine wpC_region ?_
  refine wpS_quick 1 rfl ?_
  refine wpS_nil ?_
  refine QH_seq_k hK7 ?_
  refine wpC_seq_k (fun K hK8 => ?_)
  refine wpC_region ?_
  refine wpS_quick 2 rfl ?_
  refine wpS_in rfl rfl rfl rfl (by kernel_rfl) rfl ?_
  show Calls _ _ #[_, _] _ _
  refine gw_enter2 Try.func95 rfl Try.ntmps95 rfl ?_
  refine wpC_seq_k (fun K hK9 => ?_)
  refine wpC_region ?_
  refine wpS_quick 1 rfl ?_
  refine wpS_nil ?_
  refine QH_seq_k hK9 ?_
  refine wpC_seq_k (fun K hK10 => ?_)
  refine wpC_seq_k (fun K hK11 => ?_)
  refine wpC_region ?_
  refine wpS_quick 1 rfl ?_
  refine wpS_put rfl rfl rfl (yv_len el_28 rfl) ?_
  refine wpS_quick 1 rfl ?_
  refine wpS_nil ?_
  refine QH_seq_k hK11 ?_
  refine wpC_block ?_
  refine wpC_loop (X := Nat × Int × Int) (fun x => (0, .slice A0_ x0.length c0_) :: (1, .func (.func 109) #[] #[.pointer (some ⟨b2, 0, none⟩), .pointer (some ⟨b4, 0, none⟩)]) :: (4, .int .i64 x.2.1) :: (7, .int .i64 (x0.length : Int)) :: (8, .int .i64 x.2.2) :: []) (fun x w => St0 All w0 w (.box b4 [.int .i64 x3] 3 :: .box b2 [.int .i64 x2] 3 :: []) ∧ m_msg_each_l1 x0 x2 x3 x.1 x.2.1 x.2.2 = some r) (fun x => x.1) (fuelN, 0, 0) (by repeat (first | exact Sub.nil | refine Sub.cons rfl ?_)) ⟨hS, H⟩ ?_
  rintro ⟨n, v12, v13⟩ w ⟨hS, H⟩
  dsimp only at hS H ⊢
  obtain _ | n := n
  · have H0 : none = some r := H
    cases H0
  rw [m_msg_each_l1] at H
  refine wpC_seq_k (fun K hK14 => ?_)
  refine wpC_region ?_
  refine wpS_put rfl rfl rfl (yv_lss rfl rfl) ?_
  refine wpS_nil ?_
  refine QH_seq_k hK14 ?_
  refine wpC_seq_k (fun K hK15 => ?_)
  refine wpC_cond rfl (fun hb => ?_) (fun hb => ?_)
  rotate_left
  · replace H := cond_f H hb
    refine wpC_exit ?_
    refine QH_then_exit ?_
    refine QH_then_exit ?_
    refine QH_block_hit ?_
    refine QH_seq_k hK10 ?_
    refine wpC_seq_k (fun K hK27 => ?_)
    refine wpC_region ?_
    refine wpS_quick 1 rfl ?_
    refine wpS_nil ?_
    refine QH_seq_k hK27 ?_
    refine wpC_ret ?_
    refine QH_ret rfl (RV.tmp rfl RV.nil) rfl ?_
    refine ⟨_, rfl, ?_⟩
    refine wpS_put rfl rfl rfl (yv_geq rfl rfl) ?_
    refine wpS_quick 1 rfl ?_
    refine wpS_nil ?_
    refine QH_seq_k hK8 ?_
    refine wpC_ret ?_
    refine QH_ret rfl (RV.tmp rfl RV.nil) rfl ?_
    refine ⟨_, rfl, ?_⟩
    refine wpS_put rfl rfl rfl (yv_not rfl) ?_
    refine wpS_quick 2 rfl ?_
    refine wpS_nil ?_
    refine QH_seq_k hK6 ?_
    refine wpC_ret ?_
    refine QH_ret rfl (RV.tmp rfl RV.nil) rfl ?_
    obtain rfl := Option.some.inj H
    replace hS := hS.cut 0
    exact ⟨rfl, hS⟩
  replace H := cond_t H hb
  refine wpC_skip ?_
  refine QH_seq_k hK15 ?_
  refine wpC_seq_k (fun K hK16 => ?_)
  refine wpC_block ?_
  refine wpC_seq_k (fun K hK17 => ?_)
  refine wpC_region ?_
  refine wpS_quick 2 rfl ?_
  refine wpS_nil ?_
  refine QH_seq_k hK17 ?_
  refine wpC_seq_k (fun K hK18 => ?_)
  refine wpC_region ?_
  refine wpS_quick 3 rfl ?_
  obtain ⟨e19, hi21, H⟩ := bind_some H
  obtain ⟨j20, hi21a, hi21b, hi21c⟩ := idx_some hi21
  refine wpS_put rfl rfl rfl (yx_idx el_28 rfl rfl hi21a hi21c (Rd.el (hS.rd0 s0_.rd) he_enI hi21b)) ?_
  refine wpS_put rfl rfl rfl (yx_ld0 sc_3 rfl (RW.here _) (Rd.el (hS.rd0 s0_.rd) he_enI hi21b) rfl) ?_
  refine wpS_in rfl rfl rfl rfl (by kernel_rfl) rfl ?_
  show Calls _ _ #[_, _, _] _ _
  refine gw_enter3 Try.func109 rfl Try.ntmps109 rfl ?_
  refine wpC_seq_k (fun K hK22 => ?_)
  refine wpC_region ?_
  refine wpS_quick 1 rfl ?_
  refine wpS_nil ?_
  refine QH_seq_k hK22 ?_
  refine wpC_seq_k (fun K hK23 => ?_)
  refine wpC_region ?_
  refine wpS_quick 1 rfl ?_
  refine wpS_put rfl rfl rfl (yv_load_box sc_3 rfl (RW.here _) hS hs1 trivial sg0_1) ?_
  refine wpS_put rfl rfl rfl (yv_load_box sc_3 rfl (RW.here _) hS hs0 trivial sg0_1) ?_
  obtain ⟨r24, hm25, H⟩ := bind_some H
  refine wpS_call rfl rfl rfl rfl (by kernel_rfl) rfl (c_msg_within e19 x2 x3 _ hm25) ?_
  rintro e w ⟨rfl, hN⟩; refine ⟨_, rfl, ?_⟩; have hB := hN.pure; have hS := hS.join hN; clear hN
  refine wpS_put rfl rfl rfl (yv_not rfl) ?_
  refine wpS_quick 1 rfl ?_
  refine wpS_nil ?_
  refine QH_seq_k hK23 ?_
  refine wpC_ret ?_
  refine QH_ret rfl (RV.tmp rfl RV.nil) rfl ?_
  refine ⟨_, rfl, ?_⟩
  refine wpS_nil ?_
  refine QH_seq_k hK18 ?_
  refine wpC_cond rfl (fun hb => ?_) (fun hb => ?_)
  rotate_left
  · replace H := cond_f H hb
    refine wpC_skip ?_
    refine QH_block_normal ?_
    refine QH_seq_k hK16 ?_
    refine wpC_region ?_
    refine wpS_put rfl rfl rfl (yx_add rfl rfl) ?_
    refine wpS_quick 1 rfl ?_
    refine wpS_nil ?_
    exact QH_again (n, v12, (IntKind.wrap .i64 (v13 + 1))) (by repeat (first | exact Sub.nil | refine Sub.cons rfl ?_)) ⟨hS, H⟩ (Nat.lt_succ_self _)
  replace H := cond_t H hb
  refine wpC_seq_k (fun K hK26 => ?_)
  refine wpC_region ?_
  refine wpS_quick 2 rfl ?_
  refine wpS_nil ?_
  refine QH_seq_k hK26 ?_
  refine wpC_ret ?_
  refine QH_block_ret ?_
  refine QH_then_ret ?_
  refine QH_then_ret ?_
  refine QH_block_ret ?_
  refine QH_then_ret ?_
  refine QH_ret rfl (RV.tmp rfl RV.nil) rfl ?_
  refine ⟨_, rfl, ?_⟩
  refine wpS_put rfl rfl rfl (yv_geq rfl rfl) ?_
  refine wpS_quick 1 rfl ?_
  refine wpS_nil ?_
  refine QH_seq_k hK8 ?_
  refine wpC_ret ?_
  refine QH_ret rfl (RV.tmp rfl RV.nil) rfl ?_
  refine ⟨_, rfl, ?_⟩
  refine wpS_put rfl rfl rfl (yv_not rfl) ?_
  refine wpS_quick 2 rfl ?_
  refine wpS_nil ?_
  refine QH_seq_k hK6 ?_
  refine wpC_ret ?_
  refine QH_ret rfl (RV.tmp rfl RV.nil) rfl ?_
  obtain rfl := Option.some.inj H
  replace hS := hS.cut 0
  exact ⟨rfl, hS⟩
theorem c_msg_Right (x0 : Co) (A0_ : Option Addr) (c0_ : Nat) (A1_ : Option Addr) (c1_ : Nat) (A2_ : Option Addr) (c2_ : Nat) (A3_ : Option Addr) (c3_ : Nat) (A4_ : Option Addr) (c4_ : Nat) (w0 : World) (s0_ : SlI w0 enE A0_ c0_ x0.tuple.log) (s1_ : SlI w0 enO A1_ c1_ x0.votes) (s2_ : SlI w0 enI A2_ c2_ x0.next) (s3_ : SlI w0 enI A3_ c3_ x0.mtch) (s4_ : SlI w0 enI A4_ c4_ x0.caps) {r : Bool} (H : m_msg_Right x0 = some r) : Calls Try.prog 44 #[.agg #[.int .i64 x0.id, .int .i64 x0.n, .int .u8 x0.role, .int .i64 x0.binary, .int .i64 x0.tuple.snap.index, .int .i64 x0.tuple.snap.term, .int .i64 x0.tuple.snap.sum, .int .i64 x0.tuple.snap.level, .bool x0.tuple.snap.final, .slice A0_ x0.tuple.log.length c0_, .int .i64 x0.tuple.term, .int .i64 x0.tuple.vote, .int .i64 x0.commit, .int .i64 x0.applied.index, .int .i64 x0.applied.term, .int .i64 x0.applied.sum, .int .i64 x0.applied.level, .bool x0.applied.final, .slice A1_ x0.votes.length c1_, .slice A2_ x0.next.length c2_, .slice A3_ x0.mtch.length c3_, .slice A4_ x0.caps.length c4_]] w0 fun e w' => e = .returned (.bool r) ∧ St0 All w0 w' [] := by
  unfold m_msg_Right at H
  refine gw_enter1 Try.func44 rfl Try.ntmps44 rfl ?_
  have hS := St0.start All w0
  refine wpC_seq_k (fun K hK1 => ?_)
  refine wpC_region ?_
  refine wpS_box rfl rfl rfl CellsOf.agg hS (fun b2 w hS hB => ?_)
  refine wpS_quick 1 rfl ?_
  refine wpS_nil ?_
  refine QH_seq_k hK1 ?_
  refine wpC_seq_k (fun K hK4 => ?_)
  refine wpC_region ?_
  refine wpS_put rfl rfl rfl (yv_fieldAddr fo_30_4 rfl) ?_
  refine wpS_put rfl rfl rfl (yv_load_boxA ag_26 rfl (RW.here _) hS hs0 trivial sg4_8) ?_
  obtain ⟨r5, hm6, H⟩ := bind_some H
  refine wpS_call rfl rfl rfl rfl (by kernel_rfl) rfl (c_tuple_Last x0.tuple A0_ c0_ _ (SlI.of_rd s0_.k (hS.rd0 s0_.rd) (hS.blk0 s0_.blk)) hm6) ?_
  rintro e w ⟨rfl, hN⟩; refine ⟨_, rfl, ?_⟩; have hB := hN.pure; have hS := hS.join hN; clear hN
  refine wpS_alloc rfl rfl zc_3 hS (fun b7 w hS hB => ?_)
  refine wpS_store rfl rfl rfl CellsOf.int hS ps0 st0_1 (by kernel_rfl) rfl (fun w hS hB => ?_)
  refine wpS_nil ?_
  refine QH_seq_k hK4 ?_
  refine wpC_seq_k (fun K hK9 => ?_)
  refine wpC_seq_k (fun K hK10 => ?_)
  refine wpC_region ?_
  refine wpS_put rfl rfl rfl (yv_makeFunc rfl rfl) ?_
  refine wpS_put rfl rfl rfl (yv_makeFunc rfl rfl) ?_
  refine wpS_put rfl rfl rfl (yv_makeFunc rfl rfl) ?_
  refine wpS_put rfl rfl rfl (yv_makeFunc rfl rfl) ?_
  refine wpS_put rfl rfl rfl (yv_makeFunc rfl rfl) ?_
  refine wpS_put rfl rfl rfl (yv_makeFunc rfl rfl) ?_
  refine wpS_put rfl rfl rfl (yv_build (cells := [.func (.func 73) #[] #[.pointer (some ⟨b2, 0, none⟩)], .func (.func 75) #[] #[.pointer (some ⟨b2, 0, none⟩)], .func (.func 77) #[] #[.pointer (some ⟨b2, 0, none⟩)], .func (.func 78) #[] #[.pointer (some ⟨b2, 0, none⟩), .pointer (some ⟨b7, 0, none⟩)], .func (.func 80) #[] #[.pointer (some ⟨b2, 0, none⟩)], .func (.func 81) #[] #[.pointer (some ⟨b2, 0, none⟩)]]) rfl (by kernel_rfl)) ?_
  refine wpS_quick 1 rfl ?_
  refine wpS_nil ?_
  refine QH_seq_k hK10 ?_
  refine wpC_block ?_
  refine wpC_rounds 60 ?_
  refine wpC_seq_k (fun K hK11 => ?_)
  refine wpC_region ?_
  refine wpS_put rfl rfl rfl (yv_lss rfl rfl) ?_
  refine wpS_nil ?_
  refine QH_seq_k hK11 ?_
  refine wpC_seq_k (fun K hK12 => ?_)
  refine wpC_cond_t rfl rfl ?_
  refine wpC_skip ?_
  refine QH_seq_k hK12 ?_
  refine wpC_seq_k (fun K hK13 => ?_)
  refine wpC_block ?_
  refine wpC_seq_k (fun K hK14 => ?_)
  refine wpC_region ?_
  refine wpS_put rfl rfl rfl (yx_index (n := 6) (e := 34) (j := 0) (by kernel_rfl) (by kernel_rfl) (by kernel_rfl) rfl rfl rfl (by decide) rfl) ?_
  refine wpS_quick 1 rfl ?_
  refine wpS_nil ?_
  refine QH_seq_k hK14 ?_
  refine wpC_seq_k (fun K hK15 => ?_)
  refine wpC_region ?_
  refine wpS_quick 1 rfl ?_
  refine wpS_in rfl rfl rfl rfl (by kernel_rfl) rfl ?_
  show Calls _ _ #[_] _ _
  refine gw_enter1 Try.func73 rfl Try.ntmps73 rfl ?_
  refine wpC_seq_k (fun K hK16 => ?_)
  refine wpC_region ?_
  refine wpS_quick 1 rfl ?_
  refine wpS_nil ?_
  refine QH_seq_k hK16 ?_
  refine wpC_seq_k (fun K hK17 => ?_)
  refine wpC_region ?_
  refine wpS_put rfl rfl rfl (yv_fieldAddr fo_30_1 rfl) ?_
  refine wpS_put rfl rfl rfl (yv_load_box sc_3 rfl (RW.here _) hS hs1 trivial sg1_1) ?_
  obtain ⟨r18, hm19, H⟩ := bind_some H
  refine wpS_call rfl rfl rfl rfl (by kernel_rfl) rfl (c_msg_within x0.n 1 5 _ hm19) ?_
  rintro e w ⟨rfl, hN⟩; refine ⟨_, rfl, ?_⟩; have hB := hN.pure; have hS := hS.join hN; clear hN
  refine wpS_quick 1 rfl ?_
  refine wpS_case 5 rfl (fun hb => ?_) (fun hb => ?_)
  rotate_left
  · replace H := cond_f H hb
    refine wpS_quick 7 rfl ?_
    refine wpS_nil ?_
    refine QH_seq_k hK17 ?_
    refine wpC_ret ?_
    refine QH_ret rfl (RV.tmp rfl RV.nil) rfl ?_
    refine ⟨_, rfl, ?_⟩
    refine wpS_put rfl rfl rfl (yv_not rfl) ?_
    refine wpS_nil ?_
    refine QH_seq_k hK15 ?_
    refine wpC_cond_t rfl rfl ?_
    refine wpC_seq_k (fun K hK94 => ?_)
    refine wpC_region ?_
    refine wpS_quick 1 rfl ?_
    refine wpS_nil ?_
    refine QH_seq_k hK94 ?_
    refine wpC_ret ?_
    refine QH_block_ret ?_
    refine QH_then_ret ?_
    refine QH_then_ret ?_
    refine QH_block_ret ?_
    refine QH_then_ret ?_
    refine QH_ret rfl (RV.tmp rfl RV.nil) rfl ?_
    obtain rfl := Option.some.inj H
    replace hS := hS.cut 0
    exact ⟨rfl, hS⟩
  replace H := cond_t H hb
  refine wpS_put rfl rfl rfl (yv_fieldAddr fo_30_0 rfl) ?_
  refine wpS_put rfl rfl rfl (yv_load_box sc_3 rfl (RW.here _) hS hs1 trivial sg0_1) ?_
  refine wpS_put rfl rfl rfl (yv_fieldAddr fo_30_1 rfl) ?_
  refine wpS_put rfl rfl rfl (yv_load_box sc_3 rfl (RW.here _) hS hs1 trivial sg1_1) ?_
  obtain ⟨r20, hm21, H⟩ := bind_some H
  refine wpS_call rfl rfl rfl rfl (by kernel_rfl) rfl (c_msg_within x0.id 1 x0.n _ hm21) ?_
  rintro e w ⟨rfl, hN⟩; refine ⟨_, rfl, ?_⟩; have hB := hN.pure; have hS := hS.join hN; clear hN
  refine wpS_quick 2 rfl ?_
  refine wpS_nil ?_
  refine QH_seq_k hK17 ?_
  refine wpC_ret ?_
  refine QH_ret rfl (RV.tmp rfl RV.nil) rfl ?_
  refine ⟨_, rfl, ?_⟩
  refine wpS_put rfl rfl rfl (yv_not rfl) ?_
  refine wpS_nil ?_
  refine QH_seq_k hK15 ?_
  refine wpC_cond rfl (fun hb => ?_) (fun hb => ?_)
  · replace H := cond_t H hb
    refine wpC_seq_k (fun K hK22 => ?_)
    refine wpC_region ?_
    refine wpS_quick 1 rfl ?_
    refine wpS_nil ?_
    refine QH_seq_k hK22 ?_
    refine wpC_ret ?_
    refine QH_block_ret ?_
    refine QH_then_ret ?_
    refine QH_then_ret ?_
    refine QH_block_ret ?_
    refine QH_then_ret ?_
    refine QH_ret rfl (RV.tmp rfl RV.nil) rfl ?_
    obtain rfl := Option.some.inj H
    replace hS := hS.cut 0
    exact ⟨rfl, hS⟩
  replace H := cond_f H hb
  refine wpC_skip ?_
  refine QH_block_normal ?_
  refine QH_seq_k hK13 ?_
  refine wpC_region ?_
  refine wpS_put rfl rfl rfl (yx_add rfl rfl) ?_
  refine wpS_quick 1 rfl ?_
  refine wpS_nil ?_
  refine QH_more ?_
  refine wpC_seq_k (fun K hK23 => ?_)
  refine wpC_region ?_
  refine wpS_put rfl rfl rfl (yv_lss rfl rfl) ?_
  refine wpS_nil ?_
  refine QH_seq_k hK23 ?_
  refine wpC_seq_k (fun K hK24 => ?_)
  refine wpC_cond_t rfl rfl ?_
  refine wpC_skip ?_
  refine QH_seq_k hK24 ?_
  refine wpC_seq_k (fun K hK25 => ?_)
  refine wpC_block ?_
  refine wpC_seq_k (fun K hK26 => ?_)
  refine wpC_region ?_
  refine wpS_put rfl rfl rfl (yx_index (n := 6) (e := 34) (j := 1) (by kernel_rfl) (by kernel_rfl) (by kernel_rfl) rfl rfl rfl (by decide) rfl) ?_
  refine wpS_quick 1 rfl ?_
  refine wpS_nil ?_
  refine QH_seq_k hK26 ?_
  refine wpC_seq_k (fun K hK27 => ?_)
  refine wpC_region ?_
  refine wpS_quick 1 rfl ?_
  refine wpS_in rfl rfl rfl rfl (by kernel_rfl) rfl ?_
  show Calls _ _ #[_] _ _
  refine gw_enter1 Try.func75 rfl Try.ntmps75 rfl ?_
  refine wpC_seq_k (fun K hK28 => ?_)
  refine wpC_region ?_
  refine wpS_quick 1 rfl ?_
  refine wpS_nil ?_
  refine QH_seq_k hK28 ?_
  refine wpC_seq_k (fun K hK29 => ?_)
  refine wpC_region ?_
  refine wpS_put rfl rfl rfl (yv_fieldAddr fo_30_2 rfl) ?_
  refine wpS_put rfl rfl rfl (yv_load_box sc_5 rfl (RW.here _) hS hs1 trivial sg2_1) ?_
  refine wpS_put rfl rfl rfl (yv_leq rfl rfl) ?_
  refine wpS_quick 1 rfl ?_
  refine wpS_case 5 rfl (fun hb => ?_) (fun hb => ?_)
  rotate_left
  · replace H := cond_f H hb
    refine wpS_quick 10 rfl ?_
    refine wpS_nil ?_
    refine QH_seq_k hK29 ?_
    refine wpC_ret ?_
    refine QH_ret rfl (RV.tmp rfl RV.nil) rfl ?_
    refine ⟨_, rfl, ?_⟩
    refine wpS_put rfl rfl rfl (yv_not rfl) ?_
    refine wpS_nil ?_
    refine QH_seq_k hK27 ?_
    refine wpC_cond_t rfl rfl ?_
    refine wpC_seq_k (fun K hK93 => ?_)
    refine wpC_region ?_
    refine wpS_quick 1 rfl ?_
    refine wpS_nil ?_
    refine QH_seq_k hK93 ?_
    refine wpC_ret ?_
    refine QH_block_ret ?_
    refine QH_then_ret ?_
    refine QH_then_ret ?_
    refine QH_block_ret ?_
    refine QH_then_ret ?_
    refine QH_ret rfl (RV.tmp rfl RV.nil) rfl ?_
    obtain rfl := Option.some.inj H
    replace hS := hS.cut 0
    exact ⟨rfl, hS⟩
  replace H := cond_t H hb
  refine wpS_put rfl rfl rfl (yv_fieldAddr fo_30_3 rfl) ?_
  refine wpS_put rfl rfl rfl (yv_load_box sc_3 rfl (RW.here _) hS hs1 trivial sg3_1) ?_
  obtain ⟨r30, hm31, H⟩ := bind_some H
  refine wpS_call rfl rfl rfl rfl (by kernel_rfl) rfl (c_msg_within x0.binary 1 2 _ hm31) ?_
  rintro e w ⟨rfl, hN⟩; refine ⟨_, rfl, ?_⟩; have hB := hN.pure; have hS := hS.join hN; clear hN
  refine wpS_quick 2 rfl ?_
  refine wpS_case 10 rfl (fun hb => ?_) (fun hb => ?_)
  rotate_left
  · replace H := cond_f H hb
    refine wpS_quick 5 rfl ?_
    refine wpS_nil ?_
    refine QH_seq_k hK29 ?_
    refine wpC_ret ?_
    refine QH_ret rfl (RV.tmp rfl RV.nil) rfl ?_
    refine ⟨_, rfl, ?_⟩
    refine wpS_put rfl rfl rfl (yv_not rfl) ?_
    refine wpS_nil ?_
    refine QH_seq_k hK27 ?_
    refine wpC_cond_t rfl rfl ?_
    refine wpC_seq_k (fun K hK92 => ?_)
    refine wpC_region ?_
    refine wpS_quick 1 rfl ?_
    refine wpS_nil ?_
    refine QH_seq_k hK92 ?_
    refine wpC_ret ?_
    refine QH_block_ret ?_
    refine QH_then_ret ?_
    refine QH_then_ret ?_
    refine QH_block_ret ?_
    refine QH_then_ret ?_
    refine QH_ret rfl (RV.tmp rfl RV.nil) rfl ?_
    obtain rfl := Option.some.inj H
    replace hS := hS.cut 0
    exact ⟨rfl, hS⟩
  replace H := cond_t H hb
  refine wpS_put rfl rfl rfl (yv_fieldAddr fo_30_4 rfl) ?_
  refine wpS_put rfl rfl rfl (yv_load_boxA ag_26 rfl (RW.here _) hS hs1 trivial sg4_8) ?_
  obtain ⟨r32, hm33, H⟩ := bind_some H
  refine wpS_call rfl rfl rfl rfl (by kernel_rfl) rfl (c_tuple_Right x0.tuple A0_ c0_ _ (SlI.of_rd s0_.k (hS.rd0 s0_.rd) (hS.blk0 s0_.blk)) hm33) ?_
  rintro e w ⟨rfl, hN⟩; refine ⟨_, rfl, ?_⟩; have hB := hN.pure; have hS := hS.join hN; clear hN
  refine wpS_quick 2 rfl ?_
  refine wpS_nil ?_
  refine QH_seq_k hK29 ?_
  refine wpC_ret ?_
  refine QH_ret rfl (RV.tmp rfl RV.nil) rfl ?_
  refine ⟨_, rfl, ?_⟩
  refine wpS_put rfl rfl rfl (yv_not rfl) ?_
  refine wpS_nil ?_
  refine QH_seq_k hK27 ?_
  refine wpC_cond rfl (fun hb => ?_) (fun hb => ?_)
  · replace H := cond_t H hb
    refine wpC_seq_k (fun K hK34 => ?_)
    refine wpC_region ?_
    refine wpS_quick 1 rfl ?_
    refine wpS_nil ?_
    refine QH_seq_k hK34 ?_
    refine wpC_ret ?_
    refine QH_block_ret ?_
    refine QH_then_ret ?_
    refine QH_then_ret ?_
    refine QH_block_ret ?_
    refine QH_then_ret ?_
    refine QH_ret rfl (RV.tmp rfl RV.nil) rfl ?_
    obtain rfl := Option.some.inj H
    replace hS := hS.cut 0
    exact ⟨rfl, hS⟩
  replace H := cond_f H hb
  refine wpC_skip ?_
  refine QH_block_normal ?_
  refine QH_seq_k hK25 ?_
  refine wpC_region ?_
  refine wpS_put rfl rfl rfl (yx_add rfl rfl) ?_
  refine wpS_quick 1 rfl ?_
  refine wpS_nil ?_
  refine QH_more ?_
  refine wpC_seq_k (fun K hK35 => ?_)
  refine wpC_region ?_
  refine wpS_put rfl rfl rfl (yv_lss rfl rfl) ?_
  refine wpS_nil ?_
  refine QH_seq_k hK35 ?_
  refine wpC_seq_k (fun K hK36 => ?_)
  refine wpC_cond_t rfl rfl ?_
  refine wpC_skip ?_
  refine QH_seq_k hK36 ?_
  refine wpC_seq_k (fun K hK37 => ?_)
  refine wpC_block ?_
  refine wpC_seq_k (fun K hK38 => ?_)
  refine wpC_region ?_
  refine wpS_put rfl rfl rfl (yx_index (n := 6) (e := 34) (j := 2) (by kernel_rfl) (by kernel_rfl) (by kernel_rfl) rfl rfl rfl (by decide) rfl) ?_
  refine wpS_quick 1 rfl ?_
  refine wpS_nil ?_
  refine QH_seq_k hK38 ?_
  refine wpC_seq_k (fun K hK39 => ?_)
  refine wpC_region ?_
  refine wpS_quick 1 rfl ?_
  refine wpS_in rfl rfl rfl rfl (by kernel_rfl) rfl ?_
  show Calls _ _ #[_] _ _
  refine gw_enter1 Try.func77 rfl Try.ntmps77 rfl ?_
  refine wpC_seq_k (fun K hK40 => ?_)
  refine wpC_region ?_
  refine wpS_quick 1 rfl ?_
  refine wpS_nil ?_
  refine QH_seq_k hK40 ?_
  refine wpC_seq_k (fun K hK41 => ?_)
  refine wpC_region ?_
  refine wpS_put rfl rfl rfl (yv_fieldAddr fo_30_4 rfl) ?_
  refine wpS_put rfl rfl rfl (yv_load_boxA ag_26 rfl (RW.here _) hS hs1 trivial sg4_8) ?_
  refine wpS_put rfl rfl rfl (yv_fieldAddr fo_30_5 rfl) ?_
  refine wpS_put rfl rfl rfl (yv_load_box sc_3 rfl (RW.here _) hS hs1 trivial sg12_1) ?_
  obtain ⟨r42, hm43, H⟩ := bind_some H
  refine wpS_call rfl rfl rfl rfl (by kernel_rfl) rfl (c_tuple_State x0.tuple x0.commit A0_ c0_ _ (SlI.of_rd s0_.k (hS.rd0 s0_.rd) (hS.blk0 s0_.blk)) hm43) ?_
  rintro e w ⟨rfl, hN⟩; refine ⟨_, rfl, ?_⟩; have hB := hN.pure; have hS := hS.join hN; clear hN
  refine wpS_quick 1 rfl ?_
  refine wpS_put rfl rfl rfl (yv_extract rfl rfl) ?_
  refine wpS_put rfl rfl rfl (yv_extract rfl rfl) ?_
  refine wpS_alloc rfl rfl zc_23 hS (fun b44 w hS hB => ?_)
  refine wpS_store rfl rfl rfl CellsOf.agg hS ps0 st0_5 (by kernel_rfl) rfl (fun w hS hB => ?_)
  refine wpS_quick 1 rfl ?_
  refine wpS_nil ?_
  refine QH_seq_k hK41 ?_
  refine wpC_seq_k (fun K hK46 => ?_)
  refine wpC_region ?_
  refine wpS_quick 2 rfl ?_
  refine wpS_case 13 rfl (fun hb => ?_) (fun hb => ?_)
  rotate_left
  · replace H := cond_f H hb
    refine wpS_quick 6 rfl ?_
    refine wpS_nil ?_
    refine QH_seq_k hK46 ?_
    refine wpC_ret ?_
    refine QH_ret rfl (RV.tmp rfl RV.nil) rfl ?_
    refine ⟨_, rfl, ?_⟩
    refine wpS_put rfl rfl rfl (yv_not rfl) ?_
    refine wpS_nil ?_
    refine QH_seq_k hK39 ?_
    refine wpC_cond_t rfl rfl ?_
    refine wpC_seq_k (fun K hK91 => ?_)
    refine wpC_region ?_
    refine wpS_quick 1 rfl ?_
    refine wpS_nil ?_
    refine QH_seq_k hK91 ?_
    refine wpC_ret ?_
    refine QH_block_ret ?_
    refine QH_then_ret ?_
    refine QH_then_ret ?_
    refine QH_block_ret ?_
    refine QH_then_ret ?_
    refine QH_ret rfl (RV.tmp rfl RV.nil) rfl ?_
    obtain rfl := Option.some.inj H
    replace hS := hS.cut 0
    exact ⟨rfl, hS⟩
  replace H := cond_t H hb
  refine wpS_put rfl rfl rfl (yv_load_boxA ag_23 rfl (RW.here _) hS hs0 trivial sg0_5) ?_
  refine wpS_put rfl rfl rfl (yv_fieldAddr fo_30_6 rfl) ?_
  refine wpS_put rfl rfl rfl (yv_load_boxA ag_23 rfl (RW.here _) hS hs2 trivial sg13_5) ?_
  refine wpS_put rfl rfl rfl (yv_eqlS (by kernel_rfl) rfl rfl (eqT_23 _ _ _ _ _ _ _ _ _ _)) ?_
  refine wpS_quick 2 rfl ?_
  refine wpS_nil ?_
  refine QH_seq_k hK46 ?_
  refine wpC_ret ?_
  refine QH_ret rfl (RV.tmp rfl RV.nil) rfl ?_
  refine ⟨_, rfl, ?_⟩
  refine wpS_put rfl rfl rfl (yv_not rfl) ?_
  refine wpS_nil ?_
  refine QH_seq_k hK39 ?_
  refine wpC_cond rfl (fun hb => ?_) (fun hb => ?_)
  · replace H := cond_t H hb
    refine wpC_seq_k (fun K hK47 => ?_)
    refine wpC_region ?_
    refine wpS_quick 1 rfl ?_
    refine wpS_nil ?_
    refine QH_seq_k hK47 ?_
    refine wpC_ret ?_
    refine QH_block_ret ?_
    refine QH_then_ret ?_
    refine QH_then_ret ?_
    refine QH_block_ret ?_
    refine QH_then_ret ?_
    refine QH_ret rfl (RV.tmp rfl RV.nil) rfl ?_
    obtain rfl := Option.some.inj H
    replace hS := hS.cut 0
    exact ⟨rfl, hS⟩
  replace H := cond_f H hb
  refine wpC_skip ?_
  refine QH_block_normal ?_
  refine QH_seq_k hK37 ?_
  refine wpC_region ?_
  refine wpS_put rfl rfl rfl (yx_add rfl rfl) ?_
  refine wpS_quick 1 rfl ?_
  refine wpS_nil ?_
  refine QH_more ?_
  refine wpC_seq_k (fun K hK48 => ?_)
  refine wpC_region ?_
  refine wpS_put rfl rfl rfl (yv_lss rfl rfl) ?_
  refine wpS_nil ?_
  refine QH_seq_k hK48 ?_
  refine wpC_seq_k (fun K hK49 => ?_)
  refine wpC_cond_t rfl rfl ?_
  refine wpC_skip ?_
  refine QH_seq_k hK49 ?_
  refine wpC_seq_k (fun K hK50 => ?_)
  refine wpC_block ?_
  refine wpC_seq_k (fun K hK51 => ?_)
  refine wpC_region ?_
  refine wpS_put rfl rfl rfl (yx_index (n := 6) (e := 34) (j := 3) (by kernel_rfl) (by kernel_rfl) (by kernel_rfl) rfl rfl rfl (by decide) rfl) ?_
  refine wpS_quick 1 rfl ?_
  refine wpS_nil ?_
  refine QH_seq_k hK51 ?_
  refine wpC_seq_k (fun K hK52 => ?_)
  refine wpC_region ?_
  refine wpS_quick 1 rfl ?_
  refine wpS_in rfl rfl rfl rfl (by kernel_rfl) rfl ?_
  show Calls _ _ #[_, _] _ _
  refine gw_enter2 Try.func78 rfl Try.ntmps78 rfl ?_
  refine wpC_seq_k (fun K hK53 => ?_)
  refine wpC_region ?_
  refine wpS_quick 1 rfl ?_
  refine wpS_nil ?_
  refine QH_seq_k hK53 ?_
  refine wpC_seq_k (fun K hK54 => ?_)
  refine wpC_region ?_
  refine wpS_put rfl rfl rfl (yv_fieldAddr fo_30_7 rfl) ?_
  refine wpS_put rfl rfl rfl (yv_load_box sc_27 rfl (RW.here _) hS hs2 trivial sg18_1) ?_
  refine wpS_put rfl rfl rfl (yv_len el_27 rfl) ?_
  refine wpS_put rfl rfl rfl (yv_fieldAddr fo_30_1 rfl) ?_
  refine wpS_put rfl rfl rfl (yv_load_box sc_3 rfl (RW.here _) hS hs2 trivial sg1_1) ?_
  refine wpS_put rfl rfl rfl (yv_eql rfl rfl) ?_
  refine wpS_quick 1 rfl ?_
  refine wpS_case 9 rfl (fun hb => ?_) (fun hb => ?_)
  rotate_left
  · replace H := cond_f H hb
    refine wpS_quick 17 rfl ?_
    refine wpS_nil ?_
    refine QH_seq_k hK54 ?_
    refine wpC_ret ?_
    refine QH_ret rfl (RV.tmp rfl RV.nil) rfl ?_
    refine ⟨_, rfl, ?_⟩
    refine wpS_put rfl rfl rfl (yv_not rfl) ?_
    refine wpS_nil ?_
    refine QH_seq_k hK52 ?_
    refine wpC_cond_t rfl rfl ?_
    refine wpC_seq_k (fun K hK90 => ?_)
    refine wpC_region ?_
    refine wpS_quick 1 rfl ?_
    refine wpS_nil ?_
    refine QH_seq_k hK90 ?_
    refine wpC_ret ?_
    refine QH_block_ret ?_
    refine QH_then_ret ?_
    refine QH_then_ret ?_
    refine QH_block_ret ?_
    refine QH_then_ret ?_
    refine QH_ret rfl (RV.tmp rfl RV.nil) rfl ?_
    obtain rfl := Option.some.inj H
    replace hS := hS.cut 0
    exact ⟨rfl, hS⟩
  replace H := cond_t H hb
  refine wpS_put rfl rfl rfl (yv_fieldAddr fo_30_8 rfl) ?_
  refine wpS_put rfl rfl rfl (yv_load_box sc_28 rfl (RW.here _) hS hs2 trivial sg19_1) ?_
  refine wpS_put rfl rfl rfl (yv_fieldAddr fo_30_1 rfl) ?_
  refine wpS_put rfl rfl rfl (yv_load_box sc_3 rfl (RW.here _) hS hs2 trivial sg1_1) ?_
  refine wpS_put rfl rfl rfl (yv_load_box sc_3 rfl (RW.here _) hS hs1 trivial sg0_1) ?_
  refine wpS_put rfl rfl rfl (yx_add rfl rfl) ?_
  obtain ⟨r55, hm56, H⟩ := bind_some H
  refine wpS_call rfl rfl rfl rfl (by kernel_rfl) rfl (c_msg_each x0.next x0.n 1 (IntKind.wrap .i64 (r5 + 1)) A2_ c2_ _ (SlI.of_rd s2_.k (hS.rd0 s2_.rd) (hS.blk0 s2_.blk)) hm56) ?_
  rintro e w ⟨rfl, hN⟩; refine ⟨_, rfl, ?_⟩; have hB := hN.pure; have hS := hS.join hN; clear hN
  refine wpS_quick 2 rfl ?_
  refine wpS_case 18 rfl (fun hb => ?_) (fun hb => ?_)
  rotate_left
  · replace H := cond_f H hb
    refine wpS_quick 8 rfl ?_
    refine wpS_nil ?_
    refine QH_seq_k hK54 ?_
    refine wpC_ret ?_
    refine QH_ret rfl (RV.tmp rfl RV.nil) rfl ?_
    refine ⟨_, rfl, ?_⟩
    refine wpS_put rfl rfl rfl (yv_not rfl) ?_
    refine wpS_nil ?_
    refine QH_seq_k hK52 ?_
    refine wpC_cond_t rfl rfl ?_
    refine wpC_seq_k (fun K hK89 => ?_)
    refine wpC_region ?_
    refine wpS_quick 1 rfl ?_
    refine wpS_nil ?_
    refine QH_seq_k hK89 ?_
    refine wpC_ret ?_
    refine QH_block_ret ?_
    refine QH_then_ret ?_
    refine QH_then_ret ?_
    refine QH_block_ret ?_
    refine QH_then_ret ?_
    refine QH_ret rfl (RV.tmp rfl RV.nil) rfl ?_
    obtain rfl := Option.some.inj H
    replace hS := hS.cut 0
    exact ⟨rfl, hS⟩
  replace H := cond_t H hb
  refine wpS_put rfl rfl rfl (yv_fieldAddr fo_30_9 rfl) ?_
  refine wpS_put rfl rfl rfl (yv_load_box sc_28 rfl (RW.here _) hS hs2 trivial sg20_1) ?_
  refine wpS_put rfl rfl rfl (yv_fieldAddr fo_30_1 rfl) ?_
  refine wpS_put rfl rfl rfl (yv_load_box sc_3 rfl (RW.here _) hS hs2 trivial sg1_1) ?_
  refine wpS_put rfl rfl rfl (yv_load_box sc_3 rfl (RW.here _) hS hs1 trivial sg0_1) ?_
  obtain ⟨r57, hm58, H⟩ := bind_some H
  refine wpS_call rfl rfl rfl rfl (by kernel_rfl) rfl (c_msg_each x0.mtch x0.n 0 r5 A3_ c3_ _ (SlI.of_rd s3_.k (hS.rd0 s3_.rd) (hS.blk0 s3_.blk)) hm58) ?_
  rintro e w ⟨rfl, hN⟩; refine ⟨_, rfl, ?_⟩; have hB := hN.pure; have hS := hS.join hN; clear hN
  refine wpS_quick 2 rfl ?_
  refine wpS_nil ?_
  refine QH_seq_k hK54 ?_
  refine wpC_ret ?_
  refine QH_ret rfl (RV.tmp rfl RV.nil) rfl ?_
  refine ⟨_, rfl, ?_⟩
  refine wpS_put rfl rfl rfl (yv_not rfl) ?_
  refine wpS_nil ?_
  refine QH_seq_k hK52 ?_
  refine wpC_cond rfl (fun hb => ?_) (fun hb => ?_)
  · replace H := cond_t H hb
    refine wpC_seq_k (fun K hK59 => ?_)
    refine wpC_region ?_
    refine wpS_quick 1 rfl ?_
    refine wpS_nil ?_
    refine QH_seq_k hK59 ?_
    refine wpC_ret ?_
    refine QH_block_ret ?_
    refine QH_then_ret ?_
    refine QH_then_ret ?_
    refine QH_block_ret ?_
    refine QH_then_ret ?_
    refine QH_ret rfl (RV.tmp rfl RV.nil) rfl ?_
    obtain rfl := Option.some.inj H
    replace hS := hS.cut 0
    exact ⟨rfl, hS⟩
  replace H := cond_f H hb
  refine wpC_skip ?_
  refine QH_block_normal ?_
  refine QH_seq_k hK50 ?_
  refine wpC_region ?_
  refine wpS_put rfl rfl rfl (yx_add rfl rfl) ?_
  refine wpS_quick 1 rfl ?_
  refine wpS_nil ?_
  refine QH_more ?_
  refine wpC_seq_k (fun K hK60 => ?_)
  refine wpC_region ?_
  refine wpS_put rfl rfl rfl (yv_lss rfl rfl) ?_
  refine wpS_nil ?_
  refine QH_seq_k hK60 ?_
  refine wpC_seq_k (fun K hK61 => ?_)
  refine wpC_cond_t rfl rfl ?_
  refine wpC_skip ?_
  refine QH_seq_k hK61 ?_
  refine wpC_seq_k (fun K hK62 => ?_)
  refine wpC_block ?_
  refine wpC_seq_k (fun K hK63 => ?_)
  refine wpC_region ?_
  refine wpS_put rfl rfl rfl (yx_index (n := 6) (e := 34) (j := 4) (by kernel_rfl) (by kernel_rfl) (by kernel_rfl) rfl rfl rfl (by decide) rfl) ?_
  refine wpS_quick 1 rfl ?_
  refine wpS_nil ?_
  refine QH_seq_k hK63 ?_
  refine wpC_seq_k (fun K hK64 => ?_)
  refine wpC_region ?_
  refine wpS_quick 1 rfl ?_
  refine wpS_in rfl rfl rfl rfl (by kernel_rfl) rfl ?_
  show Calls _ _ #[_] _ _
  refine gw_enter1 Try.func80 rfl Try.ntmps80 rfl ?_
  refine wpC_seq_k (fun K hK65 => ?_)
  refine wpC_region ?_
  refine wpS_quick 1 rfl ?_
  refine wpS_nil ?_
  refine QH_seq_k hK65 ?_
  refine wpC_seq_k (fun K hK66 => ?_)
  refine wpC_draw 18 [] (fun _ _ => True) ⟨by kernel_rfl, by kernel_rfl⟩ hS (fun w hS hB => ?_)
  refine wpR_batch [true, true, true, true] (by decide +kernel) (by repeat (first | exact PF.body | exact PF.round | apply PF.then | apply PF.inBlock | apply PF.jump)) ?_
  refine LtK.put rfl rfl rfl (yv_fieldAddr fo_30_10 rfl) ?_
  refine LtK.put rfl rfl rfl (yv_load_box sc_28 rfl (RW.below _) hS hs2 trivial sg21_1) ?_
  refine LtK.put rfl rfl rfl (yv_fieldAddr fo_30_1 rfl) ?_
  refine LtK.put rfl rfl rfl (yv_load_box sc_3 rfl (RW.below _) hS hs2 trivial sg1_1) ?_
  refine LtK.nil ?_
  refine wpR_call [false, false, false, false, true] 4 ⟨by decide, by kernel_rfl, by kernel_rfl⟩ rfl rfl ?_
  try dsimp only [pickL]
  obtain ⟨r67, hm68, H⟩ := bind_some H
  refine wpS_call rfl rfl rfl rfl (by kernel_rfl) rfl (c_msg_each x0.caps x0.n 0 2 A4_ c4_ _ (SlI.of_rd s4_.k (hS.rd0 s4_.rd) (hS.blk0 s4_.blk)) hm68) ?_
  rintro e w ⟨rfl, hN⟩; refine ⟨_, rfl, ?_⟩; have hB := hN.pure; have hS := hS.join hN; clear hN
  refine wpS_nil ?_
  refine QH_step hB ?_
  refine wpR_batch [false, false, false, false, false, true] (by decide +kernel) (by repeat (first | exact PF.body | exact PF.round | apply PF.then | apply PF.inBlock | apply PF.jump)) ?_
  refine LtK.put rfl rfl rfl (yv_move rfl) ?_
  refine LtK.nil ?_
  refine wpR_case 7 rfl (fun hb => ?_) (fun hb => ?_)
  rotate_left
  · replace H := cond_f H hb
    refine wpR_batch [false, false, false, false, false, false, true, true, true, true, true, true, true, true, true, true, true, true] (by decide +kernel) (by repeat (first | exact PF.body | exact PF.round | apply PF.then | apply PF.inBlock | apply PF.jump)) ?_
    refine LtK.skip rfl rfl rfl ?_
    refine LtK.skip rfl rfl rfl ?_
    refine LtK.skip rfl rfl rfl ?_
    refine LtK.skip rfl rfl rfl ?_
    refine LtK.skip rfl rfl rfl ?_
    refine LtK.skip rfl rfl rfl ?_
    refine LtK.skip rfl rfl rfl ?_
    refine LtK.skip rfl rfl rfl ?_
    refine LtK.skip rfl rfl rfl ?_
    refine LtK.skip rfl rfl rfl ?_
    refine LtK.put rfl rfl rfl (yv_pick_f rfl rfl rfl) ?_
    refine LtK.put rfl rfl rfl (yv_assign rfl) ?_
    refine LtK.nil ?_
    refine wpR_end (by kernel_rfl) ?_
    refine QH_seq_k hK66 ?_
    refine wpC_ret ?_
    refine QH_ret rfl (RV.tmp rfl RV.nil) rfl ?_
    refine ⟨_, rfl, ?_⟩
    refine wpS_put rfl rfl rfl (yv_not rfl) ?_
    refine wpS_nil ?_
    refine QH_seq_k hK64 ?_
    refine wpC_cond_t rfl rfl ?_
    refine wpC_seq_k (fun K hK88 => ?_)
    refine wpC_region ?_
    refine wpS_quick 1 rfl ?_
    refine wpS_nil ?_
    refine QH_seq_k hK88 ?_
    refine wpC_ret ?_
    refine QH_block_ret ?_
    refine QH_then_ret ?_
    refine QH_then_ret ?_
    refine QH_block_ret ?_
    refine QH_then_ret ?_
    refine QH_ret rfl (RV.tmp rfl RV.nil) rfl ?_
    obtain rfl := Option.some.inj H
    replace hS := hS.cut 0
    exact ⟨rfl, hS⟩
  replace H := cond_t H hb
  refine wpR_batch [false, false, false, false, false, false, true, true, true, true, true, true, true, true, true, true, true, true] (by decide +kernel) (by repeat (first | exact PF.body | exact PF.round | apply PF.then | apply PF.inBlock | apply PF.jump)) ?_
  refine LtK.put rfl rfl rfl (yv_fieldAddr fo_30_10 rfl) ?_
  refine LtK.put rfl rfl rfl (yv_load_box sc_28 rfl (RW.below _) hS hs2 trivial sg21_1) ?_
  refine LtK.put rfl rfl rfl (yv_fieldAddr fo_30_0 rfl) ?_
  refine LtK.put rfl rfl rfl (yv_load_box sc_3 rfl (RW.below _) hS hs2 trivial sg0_1) ?_
  refine LtK.put rfl rfl rfl (yx_sub rfl rfl) ?_
  obtain ⟨e69, hi71, H⟩ := bind_some H
  obtain ⟨j70, hi71a, hi71b, hi71c⟩ := idx_some hi71
  refine LtK.put rfl rfl rfl (yx_idx el_28 rfl rfl hi71a hi71c (Rd.el (hS.rd0 s4_.rd) he_enI hi71b)) ?_
  refine LtK.put rfl rfl rfl (yx_ld0 sc_3 rfl (RW.below _) (Rd.el (hS.rd0 s4_.rd) he_enI hi71b) rfl) ?_
  refine LtK.put rfl rfl rfl (yv_fieldAddr fo_30_3 rfl) ?_
  refine LtK.put rfl rfl rfl (yv_load_box sc_3 rfl (RW.below _) hS hs2 trivial sg3_1) ?_
  refine LtK.put rfl rfl rfl (yv_eql rfl rfl) ?_
  refine LtK.put rfl rfl rfl (yv_pick_t rfl rfl rfl) ?_
  refine LtK.put rfl rfl rfl (yv_assign rfl) ?_
  refine LtK.nil ?_
  refine wpR_end (by kernel_rfl) ?_
  refine QH_seq_k hK66 ?_
  refine wpC_ret ?_
  refine QH_ret rfl (RV.tmp rfl RV.nil) rfl ?_
  refine ⟨_, rfl, ?_⟩
  refine wpS_put rfl rfl rfl (yv_not rfl) ?_
  refine wpS_nil ?_
  refine QH_seq_k hK64 ?_
  refine wpC_cond rfl (fun hb => ?_) (fun hb => ?_)
  · replace H := cond_t H hb
    refine wpC_seq_k (fun K hK72 => ?_)
    refine wpC_region ?_
    refine wpS_quick 1 rfl ?_
    refine wpS_nil ?_
    refine QH_seq_k hK72 ?_
    refine wpC_ret ?_
    refine QH_block_ret ?_
    refine QH_then_ret ?_
    refine QH_then_ret ?_
    refine QH_block_ret ?_
    refine QH_then_ret ?_
    refine QH_ret rfl (RV.tmp rfl RV.nil) rfl ?_
    obtain rfl := Option.some.inj H
    replace hS := hS.cut 0
    exact ⟨rfl, hS⟩
  replace H := cond_f H hb
  refine wpC_skip ?_
  refine QH_block_normal ?_
  refine QH_seq_k hK62 ?_
  refine wpC_region ?_
  refine wpS_put rfl rfl rfl (yx_add rfl rfl) ?_
  refine wpS_quick 1 rfl ?_
  refine wpS_nil ?_
  refine QH_more ?_
  refine wpC_seq_k (fun K hK73 => ?_)
  refine wpC_region ?_
  refine wpS_put rfl rfl rfl (yv_lss rfl rfl) ?_
  refine wpS_nil ?_
  refine QH_seq_k hK73 ?_
  refine wpC_seq_k (fun K hK74 => ?_)
  refine wpC_cond_t rfl rfl ?_
  refine wpC_skip ?_
  refine QH_seq_k hK74 ?_
  refine wpC_seq_k (fun K hK75 => ?_)
  refine wpC_block ?_
  refine wpC_seq_k (fun K hK76 => ?_)
  refine wpC_region ?_
  refine wpS_put rfl rfl rfl (yx_index (n := 6) (e := 34) (j := 5) (by kernel_rfl) (by kernel_rfl) (by kernel_rfl) rfl rfl rfl (by decide) rfl) ?_
  refine wpS_quick 1 rfl ?_
  refine wpS_nil ?_
  refine QH_seq_k hK76 ?_
  refine wpC_seq_k (fun K hK77 => ?_)
  refine wpC_region ?_
  refine wpS_quick 1 rfl ?_
  refine wpS_in rfl rfl rfl rfl (by kernel_rfl) rfl ?_
  show Calls _ _ #[_] _ _
  refine gw_enter1 Try.func81 rfl Try.ntmps81 rfl ?_
  refine wpC_seq_k (fun K hK78 => ?_)
  refine wpC_region ?_
  refine wpS_quick 1 rfl ?_
  refine wpS_nil ?_
  refine QH_seq_k hK78 ?_
  refine wpC_seq_k (fun K hK79 => ?_)
  refine wpC_region ?_
  refine wpS_put rfl rfl rfl (yv_fieldAddr fo_30_2 rfl) ?_
  refine wpS_put rfl rfl rfl (yv_load_box sc_5 rfl (RW.here _) hS hs2 trivial sg2_1) ?_
  refine wpS_put rfl rfl rfl (yv_eql rfl rfl) ?_
  refine wpS_quick 1 rfl ?_
  refine wpS_case 5 rfl (fun hb => ?_) (fun hb => ?_)
  · replace H := cond_t H hb
    refine wpS_quick 14 rfl ?_
    refine wpS_nil ?_
    refine QH_seq_k hK79 ?_
    refine wpC_ret ?_
    refine QH_ret rfl (RV.tmp rfl RV.nil) rfl ?_
    refine ⟨_, rfl, ?_⟩
    refine wpS_put rfl rfl rfl (yv_not rfl) ?_
    refine wpS_nil ?_
    refine QH_seq_k hK77 ?_
    refine wpC_cond_f rfl rfl ?_
    refine wpC_skip ?_
    refine QH_block_normal ?_
    refine QH_seq_k hK75 ?_
    refine wpC_region ?_
    refine wpS_put rfl rfl rfl (yx_add rfl rfl) ?_
    refine wpS_quick 1 rfl ?_
    refine wpS_nil ?_
    refine QH_more ?_
    refine wpC_seq_k (fun K hK80 => ?_)
    refine wpC_region ?_
    refine wpS_put rfl rfl rfl (yv_lss rfl rfl) ?_
    refine wpS_nil ?_
    refine QH_seq_k hK80 ?_
    refine wpC_seq_k (fun K hK81 => ?_)
    refine wpC_cond_f rfl rfl ?_
    refine wpC_exit ?_
    refine QH_then_exit ?_
    refine QH_then_exit ?_
    refine QH_block_hit ?_
    refine QH_seq_k hK9 ?_
    refine wpC_seq_k (fun K hK82 => ?_)
    refine wpC_region ?_
    refine wpS_quick 1 rfl ?_
    refine wpS_nil ?_
    refine QH_seq_k hK82 ?_
    refine wpC_ret ?_
    refine QH_ret rfl (RV.tmp rfl RV.nil) rfl ?_
    obtain rfl := Option.some.inj H
    replace hS := hS.cut 0
    exact ⟨rfl, hS⟩
  replace H := cond_f H hb
  refine wpS_put rfl rfl rfl (yv_fieldAddr fo_30_4 rfl) ?_
  refine wpS_put rfl rfl rfl (yv_fieldAddr fo_26_2 rfl) ?_
  refine wpS_put rfl rfl rfl (yv_load_box sc_3 rfl (RW.here _) hS hs2 trivial sg10_1) ?_
  refine wpS_put rfl rfl rfl (yv_gtr rfl rfl) ?_
  refine wpS_quick 1 rfl ?_
  refine wpS_case 10 rfl (fun hb => ?_) (fun hb => ?_)
  rotate_left
  · replace H := cond_f H hb
    refine wpS_quick 9 rfl ?_
    refine wpS_nil ?_
    refine QH_seq_k hK79 ?_
    refine wpC_ret ?_
    refine QH_ret rfl (RV.tmp rfl RV.nil) rfl ?_
    refine ⟨_, rfl, ?_⟩
    refine wpS_put rfl rfl rfl (yv_not rfl) ?_
    refine wpS_nil ?_
    refine QH_seq_k hK77 ?_
    refine wpC_cond_t rfl rfl ?_
    refine wpC_seq_k (fun K hK87 => ?_)
    refine wpC_region ?_
    refine wpS_quick 1 rfl ?_
    refine wpS_nil ?_
    refine QH_seq_k hK87 ?_
    refine wpC_ret ?_
    refine QH_block_ret ?_
    refine QH_then_ret ?_
    refine QH_then_ret ?_
    refine QH_block_ret ?_
    refine QH_then_ret ?_
    refine QH_ret rfl (RV.tmp rfl RV.nil) rfl ?_
    obtain rfl := Option.some.inj H
    replace hS := hS.cut 0
    exact ⟨rfl, hS⟩
  replace H := cond_t H hb
  refine wpS_put rfl rfl rfl (yv_fieldAddr fo_30_4 rfl) ?_
  refine wpS_put rfl rfl rfl (yv_fieldAddr fo_26_3 rfl) ?_
  refine wpS_put rfl rfl rfl (yv_load_box sc_3 rfl (RW.here _) hS hs2 trivial sg11_1) ?_
  refine wpS_put rfl rfl rfl (yv_fieldAddr fo_30_0 rfl) ?_
  refine wpS_put rfl rfl rfl (yv_load_box sc_3 rfl (RW.here _) hS hs2 trivial sg0_1) ?_
  refine wpS_put rfl rfl rfl (yv_eql rfl rfl) ?_
  refine wpS_quick 3 rfl ?_
  refine wpS_nil ?_
  refine QH_seq_k hK79 ?_
  refine wpC_ret ?_
  refine QH_ret rfl (RV.tmp rfl RV.nil) rfl ?_
  refine ⟨_, rfl, ?_⟩
  refine wpS_put rfl rfl rfl (yv_not rfl) ?_
  refine wpS_nil ?_
  refine QH_seq_k hK77 ?_
  refine wpC_cond rfl (fun hb => ?_) (fun hb => ?_)
  · replace H := cond_t H hb
    refine wpC_seq_k (fun K hK83 => ?_)
    refine wpC_region ?_
    refine wpS_quick 1 rfl ?_
    refine wpS_nil ?_
    refine QH_seq_k hK83 ?_
    refine wpC_ret ?_
    refine QH_block_ret ?_
    refine QH_then_ret ?_
    refine QH_then_ret ?_
    refine QH_block_ret ?_
    refine QH_then_ret ?_
    refine QH_ret rfl (RV.tmp rfl RV.nil) rfl ?_
    obtain rfl := Option.some.inj H
    replace hS := hS.cut 0
    exact ⟨rfl, hS⟩
  replace H := cond_f H hb
  refine wpC_skip ?_
  refine QH_block_normal ?_
  refine QH_seq_k hK75 ?_
  refine wpC_region ?_
  refine wpS_put rfl rfl rfl (yx_add rfl rfl) ?_
  refine wpS_quick 1 rfl ?_
  refine wpS_nil ?_
  refine QH_more ?_
  refine wpC_seq_k (fun K hK84 => ?_)
  refine wpC_region ?_
  refine wpS_put rfl rfl rfl (yv_lss rfl rfl) ?_
  refine wpS_nil ?_
  refine QH_seq_k hK84 ?_
  refine wpC_seq_k (fun K hK85 => ?_)
  refine wpC_cond_f rfl rfl ?_
  refine wpC_exit ?_
  refine QH_then_exit ?_
  refine QH_then_exit ?_
  refine QH_block_hit ?_
  refine QH_seq_k hK9 ?_
  refine wpC_seq_k (fun K hK86 => ?_)
  refine wpC_region ?_
  refine wpS_quick 1 rfl ?_
  refine wpS_nil ?_
  refine QH_seq_k hK86 ?_
  refine wpC_ret ?_
  refine QH_ret rfl (RV.tmp rfl RV.nil) rfl ?_
  obtain rfl := Option.some.inj H
  replace hS := hS.cut 0
  exact ⟨rfl, hS⟩
theorem c_elect_votes (x0 : List Bool) (A0_ : Option Addr) (c0_ : Nat) (w0 : World) (s0_ : SlI w0 enO A0_ c0_ x0) : Calls Try.prog 67 #[.slice A0_ x0.length c0_] w0 fun e w' => ∃ (b0_ : Nat), e = .returned (.func (.func 102) #[] #[.pointer (some ⟨b0_, 0, none⟩)]) ∧ St0 All w0 w' [.box b0_ [.slice A0_ x0.length c0_] 27] := by
  refine gw_enter1 Try.func67 rfl Try.ntmps67 rfl ?_
  have hS := St0.start All w0
  refine wpC_seq_k (fun K hK1 => ?_)
  refine wpC_region ?_
  refine wpS_box rfl rfl rfl CellsOf.slice hS (fun b2 w hS hB => ?_)
  refine wpS_quick 1 rfl ?_
  refine wpS_nil ?_
  refine QH_seq_k hK1 ?_
  refine wpC_seq_k (fun K hK4 => ?_)
  refine wpC_region ?_
  refine wpS_put rfl rfl rfl (yv_makeFunc rfl rfl) ?_
  refine wpS_quick 1 rfl ?_
  refine wpS_nil ?_
  refine QH_seq_k hK4 ?_
  refine wpC_ret ?_
  refine QH_ret rfl (RV.tmp rfl RV.nil) rfl ?_
  exact ⟨b2, rfl, hS.sub (List.Sublist.cons_cons _ List.Sublist.slnil)⟩
theorem c_elect_Half (x0 : List Bool) (A0_ : Option Addr) (c0_ : Nat) (w0 : World) (s0_ : SlI w0 enO A0_ c0_ x0) {r : Bool} (H : m_elect_Half x0 = some r) : Calls Try.prog 35 #[.slice A0_ x0.length c0_] w0 fun e w' => e = .returned (.bool r) ∧ St0 All w0 w' [] := by
  unfold m_elect_Half at H
  refine gw_enter1 Try.func35 rfl Try.ntmps35 rfl ?_
  have hS := St0.start All w0
  refine wpC_seq_k (fun K hK1 => ?_)
  refine wpC_region ?_
  refine wpS_quick 1 rfl ?_
  refine wpS_nil ?_
  refine QH_seq_k hK1 ?_
  refine wpC_seq_k (fun K hK2 => ?_)
  refine wpC_region ?_
  refine wpS_alloc rfl rfl zc_3 hS (fun b3 w hS hB => ?_)
  refine wpS_store rfl rfl rfl CellsOf.int hS ps0 st0_1 (by kernel_rfl) rfl (fun w hS hB => ?_)
  refine wpS_nil ?_
  refine QH_seq_k hK2 ?_
  refine wpC_seq_k (fun K hK5 => ?_)
  refine wpC_seq_k (fun K hK6 => ?_)
  refine wpC_region ?_
  refine wpS_quick 1 rfl ?_
  have hM7 := hS
  refine wpS_call rfl rfl rfl rfl (by kernel_rfl) rfl (c_elect_votes x0 A0_ c0_ _ (SlI.of_rd s0_.k (hS.rd0 s0_.rd) (hS.blk0 s0_.blk))) ?_
  rintro e w ⟨b9, rfl, hN8⟩; refine ⟨_, rfl, ?_⟩; have hB := hN8.pure; have hS := hS.join hN8
  refine wpS_nil ?_
  refine QH_seq_k hK6 ?_
  refine wpC_block ?_
  obtain ⟨xs13, hx14, H⟩ := bind_some H
  refine wpC_range (w0 := w0) (X := Int) rfl (by kernel_rfl) (it_votes x0 _ _ _ s0_ hM7.pure b9 hN8 hx14) ⟨hM7.size, hN8.size⟩ (fun _ => rfl) (by kernel_rfl) (fun k x => .box b3 [.int .i64 x] 3 :: []) (fun k x => m_elect_Half_r1 x0 (xs13.drop k) x = some r) (fun _ _ => []) (fun _ _ => False) (fun _ => False) 0 ⟨hS.sub (List.Sublist.cons _ (List.Sublist.cons_cons _ List.Sublist.slnil)), fun e he k hk => .inl (hM7.rng e he k hk).1⟩ H ?_ ?_ (fun _ _ _ h _ => h.elim) (fun _ _ h _ => h.elim)
  · rintro lo k e11 v12 A hke H hzB hRB hS
    dsimp only at hRB H ⊢
    rw [drop_of_get hke, m_elect_Half_r1] at H
    dsimp only [List.zip, List.zipWith, List.foldl]
    refine wpC_skip ?_
    refine QH_asg hS ?_
    rintro A2 hS hBase hE
    dsimp only [List.cons_append, List.nil_append] at hS
    refine wpC_block ?_
    refine wpC_regionR (by repeat (first | exact NL.round | exact NL.false | exact NL.body (by intro _ h; simp at h) | apply NL.then | apply NL.inBlock | apply NL.jump)) (by kernel_rfl) ?_
    refine wpS_put rfl rfl rfl (yv_load_box sc_3 rfl (RW.here _) hS hs0 trivial sg0_1) ?_
    refine wpS_put rfl rfl rfl (yx_add rfl rfl) ?_
    refine wpS_store rfl rfl rfl CellsOf.int hS ps0 st0_1 (by kernel_rfl) rfl (fun w hS hB => ?_)
    refine wpS_nil ?_
    refine QH_block_normal ?_
    exact QH_round hBase hE hS (IntKind.wrap .i64 (v12 + 1)) (List.Sublist.cons_cons _ List.Sublist.slnil) H
  · rintro v12 A H hS
    dsimp only at hS H ⊢
    rw [List.drop_length, m_elect_Half_r1] at H
    refine QH_block_normal ?_
    refine QH_seq_k hK5 ?_
    refine wpC_seq_k (fun K hK16 => ?_)
    refine wpC_region ?_
    refine wpS_put rfl rfl rfl (yv_load_box sc_3 rfl (RW.here _) hS hs1 trivial sg0_1) ?_
    refine wpS_put rfl rfl rfl (yx_mul rfl rfl) ?_
    refine wpS_quick 1 rfl ?_
    refine wpS_put rfl rfl rfl (yv_len el_27 rfl) ?_
    refine wpS_put rfl rfl rfl (yv_gtr rfl rfl) ?_
    refine wpS_quick 1 rfl ?_
    refine wpS_nil ?_
    refine QH_seq_k hK16 ?_
    refine wpC_ret ?_
    refine QH_shut (.inl rfl) hS ps0 (fun w hS => ?_)
    replace hS := hS.sub (List.Sublist.cons _ (List.Sublist.cons_cons _ List.Sublist.slnil))
    refine QH_ret rfl (RV.tmp rfl RV.nil) rfl ?_
    obtain rfl := Option.some.inj H
    replace hS := hS.cut 0
    exact ⟨rfl, hS⟩
end Go.Proofs.Ytamjlcaoieliaaa
