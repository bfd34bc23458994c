/- Texts of one claim put together: what its walks share. -/
import Derived.Test.YtamjlcaoieliaaaMo1
import Derived.Test.YtamjlcaoieliaaaMo2
import Derived.Test.YtamjlcaoieliaaaMo3
/- What functions compute, in plain terms, and that they do; printed. -/
namespace Go.Proofs.Ytamjlcaoieliaaa
open Go Go.RowKit
set_option maxRecDepth 100000
set_option maxHeartbeats 4000000
theorem c_msg_Fine (x0 : Ms) (x1 : Int) (A0_ : Option Addr) (c0_ : Nat) (w0 : World) (s0_ : SlW w0 enE A0_ c0_ x0.entries) {r : Bool} (H : m_msg_Fine x0 x1 = some r) : Calls Try.prog 84 #[.agg #[.int .u8 x0.kind, .int .i64 x0.frm, .int .i64 x0.dst, .int .i64 x0.term, .int .i64 x0.cap, .int .i64 x0.last, .int .i64 x0.lastTerm, .int .i64 x0.commit, .bool x0.okk, .slice A0_ x0.entries.length c0_, .int .i64 x0.snap.index, .int .i64 x0.snap.term, .int .i64 x0.snap.sum, .int .i64 x0.snap.level, .bool x0.snap.final], .int .i64 x1] w0 fun e w' => e = .returned (.bool r) ∧ St0 All w0 w' [] := by
  unfold m_msg_Fine at H
  refine gw_enter2 Try.func84 rfl Try.ntmps84 rfl ?_
  have hS := St0.start All w0
  refine wpC_seq_k (fun K hK1 => ?_)
  refine wpC_region ?_
  refine wpS_box rfl rfl rfl CellsOf.agg hS (fun b2 w hS hB => ?_)
  refine wpS_quick 1 rfl ?_
  refine wpS_nil ?_
  refine QH_seq_k hK1 ?_
  refine wpC_scope1 0 rfl ?_
  refine wpC_seq_k (fun K hK4 => ?_)
  refine wpC_seq_k (fun K hK5 => ?_)
  refine wpC_region ?_
  refine wpS_quick 1 rfl ?_
  obtain ⟨r6, hm7, H⟩ := bind_some H
  refine wpS_call rfl rfl rfl rfl (by kernel_rfl) rfl (c_msg_within x1 1 5 _ hm7) ?_
  rintro e w ⟨rfl, hN⟩; refine ⟨_, rfl, ?_⟩; have hB := hN.pure; have hS := hS.join hN; clear hN
  refine wpS_put rfl rfl rfl (yv_not rfl) ?_
  refine wpS_quick 1 rfl ?_
  refine wpS_case 8 rfl (fun hb => ?_) (fun hb => ?_)
  · replace H := cond_t H hb
    refine wpS_quick 16 rfl ?_
    refine wpS_nil ?_
    refine QH_seq_k hK5 ?_
    refine wpC_cond_t rfl rfl ?_
    refine wpC_goto ?_
    refine QH_then_goto ?_
    refine QH_ahead ?_
    refine wpC_seq_k (fun K hK9 => ?_)
    refine wpC_skip ?_
    refine QH_seq_k hK9 ?_
    refine wpC_seq_k (fun K hK10 => ?_)
    refine wpC_region ?_
    refine wpS_quick 1 rfl ?_
    refine wpS_nil ?_
    refine QH_seq_k hK10 ?_
    refine wpC_ret ?_
    refine QH_jmp_ret ?_
    refine QH_ret rfl (RV.tmp rfl RV.nil) rfl ?_
    obtain rfl := Option.some.inj H
    replace hS := hS.cut 0
    exact ⟨rfl, hS⟩
  replace H := cond_f H hb
  refine wpS_put rfl rfl rfl (yv_fieldAddr fo_36_1 rfl) ?_
  refine wpS_put rfl rfl rfl (yv_load_box sc_3 rfl (RW.here _) hS hs0 trivial sg1_1) ?_
  refine wpS_put rfl rfl rfl (yv_fieldAddr fo_36_2 rfl) ?_
  refine wpS_put rfl rfl rfl (yv_load_box sc_3 rfl (RW.here _) hS hs0 trivial sg2_1) ?_
  refine wpS_sliceM (ps := [(0, .tmp 10), (1, .tmp 12)]) [.int .i64 x0.frm, .int .i64 x0.dst] el_28 zc_3 rfl rfl rfl rfl rfl (by kernel_rfl) hS (fun b12 w hS hB => ?_)
  refine wpS_quick 1 rfl ?_
  obtain ⟨r14, hm15, H⟩ := bind_some H
  refine wpS_call rfl rfl rfl rfl (by kernel_rfl) rfl (c_msg_each ([x0.frm, x0.dst] : List Int) 2 1 x1 (some ⟨b12, 0, none⟩) 2 _ (SlI.of_rd ⟨Nat.le_refl 2, by decide⟩ (hS.box_rd hs0) (hS.box_blk hs0)) hm15) ?_
  rintro e w ⟨rfl, hN⟩; refine ⟨_, rfl, ?_⟩; have hB := hN.pure; have hS := hS.join hN; clear hN
  refine wpS_put rfl rfl rfl (yv_not rfl) ?_
  refine wpS_quick 2 rfl ?_
  refine wpS_case 18 rfl (fun hb => ?_) (fun hb => ?_)
  · replace H := cond_t H hb
    refine wpS_quick 6 rfl ?_
    refine wpS_nil ?_
    refine QH_seq_k hK5 ?_
    refine wpC_cond_t rfl rfl ?_
    refine wpC_goto ?_
    refine QH_then_goto ?_
    refine QH_ahead ?_
    refine wpC_seq_k (fun K hK17 => ?_)
    refine wpC_skip ?_
    refine QH_seq_k hK17 ?_
    refine wpC_seq_k (fun K hK18 => ?_)
    refine wpC_region ?_
    refine wpS_quick 1 rfl ?_
    refine wpS_nil ?_
    refine QH_seq_k hK18 ?_
    refine wpC_ret ?_
    refine QH_jmp_ret ?_
    refine QH_ret rfl (RV.tmp rfl RV.nil) rfl ?_
    obtain rfl := Option.some.inj H
    replace hS := hS.cut 0
    exact ⟨rfl, hS⟩
  replace H := cond_f H hb
  refine wpS_put rfl rfl rfl (yv_fieldAddr fo_36_1 rfl) ?_
  refine wpS_put rfl rfl rfl (yv_load_box sc_3 rfl (RW.here _) hS hs1 trivial sg1_1) ?_
  refine wpS_put rfl rfl rfl (yv_fieldAddr fo_36_2 rfl) ?_
  refine wpS_put rfl rfl rfl (yv_load_box sc_3 rfl (RW.here _) hS hs1 trivial sg2_1) ?_
  refine wpS_put rfl rfl rfl (yv_eql rfl rfl) ?_
  refine wpS_quick 1 rfl ?_
  refine wpS_nil ?_
  refine QH_seq_k hK5 ?_
  refine wpC_cond rfl (fun hb => ?_) (fun hb => ?_)
  · replace H := cond_t H hb
    refine wpC_goto ?_
    refine QH_then_goto ?_
    refine QH_ahead ?_
    refine wpC_seq_k (fun K hK21 => ?_)
    refine wpC_skip ?_
    refine QH_seq_k hK21 ?_
    refine wpC_seq_k (fun K hK22 => ?_)
    refine wpC_region ?_
    refine wpS_quick 1 rfl ?_
    refine wpS_nil ?_
    refine QH_seq_k hK22 ?_
    refine wpC_ret ?_
    refine QH_jmp_ret ?_
    refine QH_ret rfl (RV.tmp rfl RV.nil) rfl ?_
    obtain rfl := Option.some.inj H
    replace hS := hS.cut 0
    exact ⟨rfl, hS⟩
  replace H := cond_f H hb
  refine wpC_skip ?_
  refine QH_seq_k hK4 ?_
  refine wpC_seq_k (fun K hK24 => ?_)
  refine wpC_seq_k (fun K hK25 => ?_)
  refine wpC_region ?_
  refine wpS_put rfl rfl rfl (yv_fieldAddr fo_36_0 rfl) ?_
  refine wpS_put rfl rfl rfl (yv_load_box sc_5 rfl (RW.here _) hS hs1 trivial sg0_1) ?_
  refine wpS_put rfl rfl rfl (yx_conv (k' := .i64) (by kernel_rfl) (by kernel_rfl) rfl) ?_
  obtain ⟨r26, hm27, H⟩ := bind_some H
  refine wpS_call rfl rfl rfl rfl (by kernel_rfl) rfl (c_msg_within (IntKind.wrap .i64 x0.kind) 1 5 _ hm27) ?_
  rintro e w ⟨rfl, hN⟩; refine ⟨_, rfl, ?_⟩; have hB := hN.pure; have hS := hS.join hN; clear hN
  refine wpS_put rfl rfl rfl (yv_not rfl) ?_
  refine wpS_quick 1 rfl ?_
  refine wpS_case 30 rfl (fun hb => ?_) (fun hb => ?_)
  · replace H := cond_t H hb
    refine wpS_quick 11 rfl ?_
    refine wpS_nil ?_
    refine QH_seq_k hK25 ?_
    refine wpC_cond_t rfl rfl ?_
    refine wpC_goto ?_
    refine QH_then_goto ?_
    refine QH_ahead ?_
    refine wpC_seq_k (fun K hK29 => ?_)
    refine wpC_skip ?_
    refine QH_seq_k hK29 ?_
    refine wpC_seq_k (fun K hK30 => ?_)
    refine wpC_region ?_
    refine wpS_quick 1 rfl ?_
    refine wpS_nil ?_
    refine QH_seq_k hK30 ?_
    refine wpC_ret ?_
    refine QH_jmp_ret ?_
    refine QH_ret rfl (RV.tmp rfl RV.nil) rfl ?_
    obtain rfl := Option.some.inj H
    replace hS := hS.cut 0
    exact ⟨rfl, hS⟩
  replace H := cond_f H hb
  refine wpS_put rfl rfl rfl (yv_fieldAddr fo_36_3 rfl) ?_
  refine wpS_put rfl rfl rfl (yv_load_box sc_3 rfl (RW.here _) hS hs1 trivial sg3_1) ?_
  obtain ⟨r32, hm33, H⟩ := bind_some H
  refine wpS_call rfl rfl rfl rfl (by kernel_rfl) rfl (c_msg_within x0.term 1 1073741824 _ hm33) ?_
  rintro e w ⟨rfl, hN⟩; refine ⟨_, rfl, ?_⟩; have hB := hN.pure; have hS := hS.join hN; clear hN
  refine wpS_put rfl rfl rfl (yv_not rfl) ?_
  refine wpS_quick 2 rfl ?_
  refine wpS_case 36 rfl (fun hb => ?_) (fun hb => ?_)
  · replace H := cond_t H hb
    refine wpS_quick 5 rfl ?_
    refine wpS_nil ?_
    refine QH_seq_k hK25 ?_
    refine wpC_cond_t rfl rfl ?_
    refine wpC_goto ?_
    refine QH_then_goto ?_
    refine QH_ahead ?_
    refine wpC_seq_k (fun K hK35 => ?_)
    refine wpC_skip ?_
    refine QH_seq_k hK35 ?_
    refine wpC_seq_k (fun K hK36 => ?_)
    refine wpC_region ?_
    refine wpS_quick 1 rfl ?_
    refine wpS_nil ?_
    refine QH_seq_k hK36 ?_
    refine wpC_ret ?_
    refine QH_jmp_ret ?_
    refine QH_ret rfl (RV.tmp rfl RV.nil) rfl ?_
    obtain rfl := Option.some.inj H
    replace hS := hS.cut 0
    exact ⟨rfl, hS⟩
  replace H := cond_f H hb
  refine wpS_put rfl rfl rfl (yv_fieldAddr fo_36_4 rfl) ?_
  refine wpS_put rfl rfl rfl (yv_load_box sc_3 rfl (RW.here _) hS hs1 trivial sg4_1) ?_
  obtain ⟨r38, hm39, H⟩ := bind_some H
  refine wpS_call rfl rfl rfl rfl (by kernel_rfl) rfl (c_msg_within x0.cap 1 2 _ hm39) ?_
  rintro e w ⟨rfl, hN⟩; refine ⟨_, rfl, ?_⟩; have hB := hN.pure; have hS := hS.join hN; clear hN
  refine wpS_put rfl rfl rfl (yv_not rfl) ?_
  refine wpS_quick 1 rfl ?_
  refine wpS_nil ?_
  refine QH_seq_k hK25 ?_
  refine wpC_cond rfl (fun hb => ?_) (fun hb => ?_)
  · replace H := cond_t H hb
    refine wpC_goto ?_
    refine QH_then_goto ?_
    refine QH_ahead ?_
    refine wpC_seq_k (fun K hK41 => ?_)
    refine wpC_skip ?_
    refine QH_seq_k hK41 ?_
    refine wpC_seq_k (fun K hK42 => ?_)
    refine wpC_region ?_
    refine wpS_quick 1 rfl ?_
    refine wpS_nil ?_
    refine QH_seq_k hK42 ?_
    refine wpC_ret ?_
    refine QH_jmp_ret ?_
    refine QH_ret rfl (RV.tmp rfl RV.nil) rfl ?_
    obtain rfl := Option.some.inj H
    replace hS := hS.cut 0
    exact ⟨rfl, hS⟩
  replace H := cond_f H hb
  refine wpC_skip ?_
  refine QH_seq_k hK24 ?_
  refine wpC_seq_k (fun K hK44 => ?_)
  refine wpC_seq_k (fun K hK45 => ?_)
  refine wpC_region ?_
  refine wpS_put rfl rfl rfl (yv_fieldAddr fo_36_5 rfl) ?_
  refine wpS_put rfl rfl rfl (yv_load_box sc_3 rfl (RW.here _) hS hs1 trivial sg5_1) ?_
  refine wpS_put rfl rfl rfl (yv_fieldAddr fo_36_6 rfl) ?_
  refine wpS_put rfl rfl rfl (yv_load_box sc_3 rfl (RW.here _) hS hs1 trivial sg6_1) ?_
  refine wpS_put rfl rfl rfl (yv_fieldAddr fo_36_7 rfl) ?_
  refine wpS_put rfl rfl rfl (yv_load_box sc_3 rfl (RW.here _) hS hs1 trivial sg7_1) ?_
  refine wpS_sliceM (ps := [(0, .tmp 43), (1, .tmp 45), (2, .tmp 47)]) [.int .i64 x0.last, .int .i64 x0.lastTerm, .int .i64 x0.commit] el_28 zc_3 rfl rfl rfl rfl rfl (by kernel_rfl) hS (fun b46 w hS hB => ?_)
  obtain ⟨r48, hm49, H⟩ := bind_some H
  refine wpS_call rfl rfl rfl rfl (by kernel_rfl) rfl (c_msg_each ([x0.last, x0.lastTerm, x0.commit] : List Int) 3 0 1073741824 (some ⟨b46, 0, none⟩) 3 _ (SlI.of_rd ⟨Nat.le_refl 3, by decide⟩ (hS.box_rd hs0) (hS.box_blk hs0)) hm49) ?_
  rintro e w ⟨rfl, hN⟩; refine ⟨_, rfl, ?_⟩; have hB := hN.pure; have hS := hS.join hN; clear hN
  refine wpS_put rfl rfl rfl (yv_not rfl) ?_
  refine wpS_quick 1 rfl ?_
  refine wpS_case 51 rfl (fun hb => ?_) (fun hb => ?_)
  · replace H := cond_t H hb
    refine wpS_quick 4 rfl ?_
    refine wpS_nil ?_
    refine QH_seq_k hK45 ?_
    refine wpC_cond_t rfl rfl ?_
    refine wpC_goto ?_
    refine QH_then_goto ?_
    refine QH_ahead ?_
    refine wpC_seq_k (fun K hK51 => ?_)
    refine wpC_skip ?_
    refine QH_seq_k hK51 ?_
    refine wpC_seq_k (fun K hK52 => ?_)
    refine wpC_region ?_
    refine wpS_quick 1 rfl ?_
    refine wpS_nil ?_
    refine QH_seq_k hK52 ?_
    refine wpC_ret ?_
    refine QH_jmp_ret ?_
    refine QH_ret rfl (RV.tmp rfl RV.nil) rfl ?_
    obtain rfl := Option.some.inj H
    replace hS := hS.cut 0
    exact ⟨rfl, hS⟩
  replace H := cond_f H hb
  refine wpS_put rfl rfl rfl (yv_load_boxA ag_36 rfl (RW.here _) hS hs2 trivial sg0_15) ?_
  obtain ⟨r54, hm55, H⟩ := bind_some H
  refine wpS_call rfl rfl rfl rfl (by kernel_rfl) rfl (c_msg_entries x0 A0_ c0_ _ (SlW.of_rd s0_.k (hS.rd0 s0_.rd)) hm55) ?_
  rintro e w ⟨rfl, hN⟩; refine ⟨_, rfl, ?_⟩; have hB := hN.pure; have hS := hS.join hN; clear hN
  refine wpS_put rfl rfl rfl (yv_not rfl) ?_
  refine wpS_quick 1 rfl ?_
  refine wpS_nil ?_
  refine QH_seq_k hK45 ?_
  refine wpC_cond rfl (fun hb => ?_) (fun hb => ?_)
  · replace H := cond_t H hb
    refine wpC_goto ?_
    refine QH_then_goto ?_
    refine QH_ahead ?_
    refine wpC_seq_k (fun K hK57 => ?_)
    refine wpC_skip ?_
    refine QH_seq_k hK57 ?_
    refine wpC_seq_k (fun K hK58 => ?_)
    refine wpC_region ?_
    refine wpS_quick 1 rfl ?_
    refine wpS_nil ?_
    refine QH_seq_k hK58 ?_
    refine wpC_ret ?_
    refine QH_jmp_ret ?_
    refine QH_ret rfl (RV.tmp rfl RV.nil) rfl ?_
    obtain rfl := Option.some.inj H
    replace hS := hS.cut 0
    exact ⟨rfl, hS⟩
  replace H := cond_f H hb
  refine wpC_skip ?_
  refine QH_seq_k hK44 ?_
  refine wpC_seq_k (fun K hK60 => ?_)
  refine wpC_seq_k (fun K hK61 => ?_)
  refine wpC_region ?_
  refine wpS_put rfl rfl rfl (yv_fieldAddr fo_36_0 rfl) ?_
  refine wpS_put rfl rfl rfl (yv_load_box sc_5 rfl (RW.here _) hS hs2 trivial sg0_1) ?_
  refine wpS_put rfl rfl rfl (yv_neq rfl rfl) ?_
  refine wpS_quick 1 rfl ?_
  refine wpS_case 59 rfl (fun hb => ?_) (fun hb => ?_)
  rotate_left
  · replace H := cond_f H hb
    refine wpS_quick 10 rfl ?_
    refine wpS_nil ?_
    refine QH_seq_k hK61 ?_
    refine wpC_cond_f rfl rfl ?_
    refine wpC_skip ?_
    refine QH_seq_k hK60 ?_
    refine wpC_seq_k (fun K hK115 => ?_)
    refine wpC_seq_k (fun K hK116 => ?_)
    refine wpC_region ?_
    refine wpS_put rfl rfl rfl (yv_fieldAddr fo_36_8 rfl) ?_
    refine wpS_put rfl rfl rfl (yv_load_box sc_4 rfl (RW.here _) hS hs2 trivial sg8_1) ?_
    refine wpS_quick 1 rfl ?_
    refine wpS_case 72 rfl (fun hb => ?_) (fun hb => ?_)
    rotate_left
    · replace H := cond_f H hb
      refine wpS_quick 9 rfl ?_
      refine wpS_nil ?_
      refine QH_seq_k hK116 ?_
      refine wpC_cond_f rfl rfl ?_
      refine wpC_skip ?_
      refine QH_seq_k hK115 ?_
      refine wpC_seq_k (fun K hK147 => ?_)
      refine wpC_seq_k (fun K hK148 => ?_)
      refine wpC_region ?_
      refine wpS_put rfl rfl rfl (yv_fieldAddr fo_36_0 rfl) ?_
      refine wpS_put rfl rfl rfl (yv_load_box sc_5 rfl (RW.here _) hS hs2 trivial sg0_1) ?_
      refine wpS_put rfl rfl rfl (yv_eql rfl rfl) ?_
      refine wpS_nil ?_
      refine QH_seq_k hK148 ?_
      refine wpC_cond rfl (fun hb => ?_) (fun hb => ?_)
      rotate_left
      · replace H := cond_f H hb
        refine wpC_skip ?_
        refine QH_seq_k hK147 ?_
        refine wpC_seq_k (fun K hK156 => ?_)
        refine wpC_seq_k (fun K hK157 => ?_)
        refine wpC_region ?_
        refine wpS_put rfl rfl rfl (yv_fieldAddr fo_36_10 rfl) ?_
        refine wpS_put rfl rfl rfl (yv_load_boxA ag_23 rfl (RW.here _) hS hs2 trivial sg10_5) ?_
        refine wpS_put rfl rfl rfl (yv_build (cells := [.int .i64 0, .int .i64 0, .int .i64 0, .int .i64 0, .bool false]) rfl (by kernel_rfl)) ?_
        refine wpS_put rfl rfl rfl (yv_eqlS (by kernel_rfl) rfl rfl (eqT_23 _ _ _ _ _ _ _ _ _ _)) ?_
        refine wpS_quick 1 rfl ?_
        refine wpS_nil ?_
        refine QH_seq_k hK157 ?_
        refine wpC_ret ?_
        refine QH_then_ret ?_
        refine QH_jmp_ret ?_
        refine QH_ret rfl (RV.tmp rfl RV.nil) rfl ?_
        obtain rfl := Option.some.inj H
        replace hS := hS.cut 0
        exact ⟨rfl, hS⟩
      replace H := cond_t H hb
      refine wpC_seq_k (fun K hK150 => ?_)
      refine wpC_region ?_
      refine wpS_put rfl rfl rfl (yv_fieldAddr fo_36_10 rfl) ?_
      refine wpS_put rfl rfl rfl (yv_fieldAddr fo_23_0 rfl) ?_
      refine wpS_put rfl rfl rfl (yv_load_box sc_3 rfl (RW.here _) hS hs2 trivial sg10_1) ?_
      refine wpS_put rfl rfl rfl (yv_gtr rfl rfl) ?_
      refine wpS_quick 1 rfl ?_
      refine wpS_case 89 rfl (fun hb => ?_) (fun hb => ?_)
      rotate_left
      · replace H := cond_f H hb
        refine wpS_quick 5 rfl ?_
        refine wpS_nil ?_
        refine QH_seq_k hK150 ?_
        refine wpC_ret ?_
        refine QH_then_ret ?_
        refine QH_jmp_ret ?_
        refine QH_ret rfl (RV.tmp rfl RV.nil) rfl ?_
        obtain rfl := Option.some.inj H
        replace hS := hS.cut 0
        exact ⟨rfl, hS⟩
      replace H := cond_t H hb
      refine wpS_put rfl rfl rfl (yv_fieldAddr fo_36_10 rfl) ?_
      refine wpS_put rfl rfl rfl (yv_load_boxA ag_23 rfl (RW.here _) hS hs2 trivial sg10_5) ?_
      obtain ⟨r152, hm153, H⟩ := bind_some H
      refine wpS_call rfl rfl rfl rfl (by kernel_rfl) rfl (c_entry_Fine x0.snap _ hm153) ?_
      rintro e w ⟨rfl, hN⟩; refine ⟨_, rfl, ?_⟩; have hB := hN.pure; have hS := hS.join hN; clear hN
      refine wpS_quick 2 rfl ?_
      refine wpS_nil ?_
      refine QH_seq_k hK150 ?_
      refine wpC_ret ?_
      refine QH_then_ret ?_
      refine QH_jmp_ret ?_
      refine QH_ret rfl (RV.tmp rfl RV.nil) rfl ?_
      obtain rfl := Option.some.inj H
      replace hS := hS.cut 0
      exact ⟨rfl, hS⟩
    replace H := cond_t H hb
    refine wpS_put rfl rfl rfl (yv_fieldAddr fo_36_0 rfl) ?_
    refine wpS_put rfl rfl rfl (yv_load_box sc_5 rfl (RW.here _) hS hs2 trivial sg0_1) ?_
    refine wpS_put rfl rfl rfl (yv_neq rfl rfl) ?_
    refine wpS_quick 2 rfl ?_
    refine wpS_case 77 rfl (fun hb => ?_) (fun hb => ?_)
    rotate_left
    · replace H := cond_f H hb
      refine wpS_quick 4 rfl ?_
      refine wpS_nil ?_
      refine QH_seq_k hK116 ?_
      refine wpC_cond_f rfl rfl ?_
      refine wpC_skip ?_
      refine QH_seq_k hK115 ?_
      refine wpC_seq_k (fun K hK135 => ?_)
      refine wpC_seq_k (fun K hK136 => ?_)
      refine wpC_region ?_
      refine wpS_put rfl rfl rfl (yv_fieldAddr fo_36_0 rfl) ?_
      refine wpS_put rfl rfl rfl (yv_load_box sc_5 rfl (RW.here _) hS hs2 trivial sg0_1) ?_
      refine wpS_put rfl rfl rfl (yv_eql rfl rfl) ?_
      refine wpS_nil ?_
      refine QH_seq_k hK136 ?_
      refine wpC_cond rfl (fun hb => ?_) (fun hb => ?_)
      rotate_left
      · replace H := cond_f H hb
        refine wpC_skip ?_
        refine QH_seq_k hK135 ?_
        refine wpC_seq_k (fun K hK144 => ?_)
        refine wpC_seq_k (fun K hK145 => ?_)
        refine wpC_region ?_
        refine wpS_put rfl rfl rfl (yv_fieldAddr fo_36_10 rfl) ?_
        refine wpS_put rfl rfl rfl (yv_load_boxA ag_23 rfl (RW.here _) hS hs2 trivial sg10_5) ?_
        refine wpS_put rfl rfl rfl (yv_build (cells := [.int .i64 0, .int .i64 0, .int .i64 0, .int .i64 0, .bool false]) rfl (by kernel_rfl)) ?_
        refine wpS_put rfl rfl rfl (yv_eqlS (by kernel_rfl) rfl rfl (eqT_23 _ _ _ _ _ _ _ _ _ _)) ?_
        refine wpS_quick 1 rfl ?_
        refine wpS_nil ?_
        refine QH_seq_k hK145 ?_
        refine wpC_ret ?_
        refine QH_then_ret ?_
        refine QH_jmp_ret ?_
        refine QH_ret rfl (RV.tmp rfl RV.nil) rfl ?_
        obtain rfl := Option.some.inj H
        replace hS := hS.cut 0
        exact ⟨rfl, hS⟩
      replace H := cond_t H hb
      refine wpC_seq_k (fun K hK138 => ?_)
      refine wpC_region ?_
      refine wpS_put rfl rfl rfl (yv_fieldAddr fo_36_10 rfl) ?_
      refine wpS_put rfl rfl rfl (yv_fieldAddr fo_23_0 rfl) ?_
      refine wpS_put rfl rfl rfl (yv_load_box sc_3 rfl (RW.here _) hS hs2 trivial sg10_1) ?_
      refine wpS_put rfl rfl rfl (yv_gtr rfl rfl) ?_
      refine wpS_quick 1 rfl ?_
      refine wpS_case 89 rfl (fun hb => ?_) (fun hb => ?_)
      rotate_left
      · replace H := cond_f H hb
        refine wpS_quick 5 rfl ?_
        refine wpS_nil ?_
        refine QH_seq_k hK138 ?_
        refine wpC_ret ?_
        refine QH_then_ret ?_
        refine QH_jmp_ret ?_
        refine QH_ret rfl (RV.tmp rfl RV.nil) rfl ?_
        obtain rfl := Option.some.inj H
        replace hS := hS.cut 0
        exact ⟨rfl, hS⟩
      replace H := cond_t H hb
      refine wpS_put rfl rfl rfl (yv_fieldAddr fo_36_10 rfl) ?_
      refine wpS_put rfl rfl rfl (yv_load_boxA ag_23 rfl (RW.here _) hS hs2 trivial sg10_5) ?_
      obtain ⟨r140, hm141, H⟩ := bind_some H
      refine wpS_call rfl rfl rfl rfl (by kernel_rfl) rfl (c_entry_Fine x0.snap _ hm141) ?_
      rintro e w ⟨rfl, hN⟩; refine ⟨_, rfl, ?_⟩; have hB := hN.pure; have hS := hS.join hN; clear hN
      refine wpS_quick 2 rfl ?_
      refine wpS_nil ?_
      refine QH_seq_k hK138 ?_
      refine wpC_ret ?_
      refine QH_then_ret ?_
      refine QH_jmp_ret ?_
      refine QH_ret rfl (RV.tmp rfl RV.nil) rfl ?_
      obtain rfl := Option.some.inj H
      replace hS := hS.cut 0
      exact ⟨rfl, hS⟩
    replace H := cond_t H hb
    refine wpS_put rfl rfl rfl (yv_fieldAddr fo_36_0 rfl) ?_
    refine wpS_put rfl rfl rfl (yv_load_box sc_5 rfl (RW.here _) hS hs2 trivial sg0_1) ?_
    refine wpS_put rfl rfl rfl (yv_neq rfl rfl) ?_
    refine wpS_quick 1 rfl ?_
    refine wpS_nil ?_
    refine QH_seq_k hK116 ?_
    refine wpC_cond rfl (fun hb => ?_) (fun hb => ?_)
    · replace H := cond_t H hb
      refine wpC_goto ?_
      refine QH_then_goto ?_
      refine QH_ahead ?_
      refine wpC_seq_k (fun K hK120 => ?_)
      refine wpC_skip ?_
      refine QH_seq_k hK120 ?_
      refine wpC_seq_k (fun K hK121 => ?_)
      refine wpC_region ?_
      refine wpS_quick 1 rfl ?_
      refine wpS_nil ?_
      refine QH_seq_k hK121 ?_
      refine wpC_ret ?_
      refine QH_jmp_ret ?_
      refine QH_ret rfl (RV.tmp rfl RV.nil) rfl ?_
      obtain rfl := Option.some.inj H
      replace hS := hS.cut 0
      exact ⟨rfl, hS⟩
    replace H := cond_f H hb
    refine wpC_skip ?_
    refine QH_seq_k hK115 ?_
    refine wpC_seq_k (fun K hK123 => ?_)
    refine wpC_seq_k (fun K hK124 => ?_)
    refine wpC_region ?_
    refine wpS_put rfl rfl rfl (yv_fieldAddr fo_36_0 rfl) ?_
    refine wpS_put rfl rfl rfl (yv_load_box sc_5 rfl (RW.here _) hS hs2 trivial sg0_1) ?_
    refine wpS_put rfl rfl rfl (yv_eql rfl rfl) ?_
    refine wpS_nil ?_
    refine QH_seq_k hK124 ?_
    refine wpC_cond rfl (fun hb => ?_) (fun hb => ?_)
    rotate_left
    · replace H := cond_f H hb
      refine wpC_skip ?_
      refine QH_seq_k hK123 ?_
      refine wpC_seq_k (fun K hK132 => ?_)
      refine wpC_seq_k (fun K hK133 => ?_)
      refine wpC_region ?_
      refine wpS_put rfl rfl rfl (yv_fieldAddr fo_36_10 rfl) ?_
      refine wpS_put rfl rfl rfl (yv_load_boxA ag_23 rfl (RW.here _) hS hs2 trivial sg10_5) ?_
      refine wpS_put rfl rfl rfl (yv_build (cells := [.int .i64 0, .int .i64 0, .int .i64 0, .int .i64 0, .bool false]) rfl (by kernel_rfl)) ?_
      refine wpS_put rfl rfl rfl (yv_eqlS (by kernel_rfl) rfl rfl (eqT_23 _ _ _ _ _ _ _ _ _ _)) ?_
      refine wpS_quick 1 rfl ?_
      refine wpS_nil ?_
      refine QH_seq_k hK133 ?_
      refine wpC_ret ?_
      refine QH_then_ret ?_
      refine QH_jmp_ret ?_
      refine QH_ret rfl (RV.tmp rfl RV.nil) rfl ?_
      obtain rfl := Option.some.inj H
      replace hS := hS.cut 0
      exact ⟨rfl, hS⟩
    replace H := cond_t H hb
    refine wpC_seq_k (fun K hK126 => ?_)
    refine wpC_region ?_
    refine wpS_put rfl rfl rfl (yv_fieldAddr fo_36_10 rfl) ?_
    refine wpS_put rfl rfl rfl (yv_fieldAddr fo_23_0 rfl) ?_
    refine wpS_put rfl rfl rfl (yv_load_box sc_3 rfl (RW.here _) hS hs2 trivial sg10_1) ?_
    refine wpS_put rfl rfl rfl (yv_gtr rfl rfl) ?_
    refine wpS_quick 1 rfl ?_
    refine wpS_case 89 rfl (fun hb => ?_) (fun hb => ?_)
    rotate_left
    · replace H := cond_f H hb
      refine wpS_quick 5 rfl ?_
      refine wpS_nil ?_
      refine QH_seq_k hK126 ?_
      refine wpC_ret ?_
      refine QH_then_ret ?_
      refine QH_jmp_ret ?_
      refine QH_ret rfl (RV.tmp rfl RV.nil) rfl ?_
      obtain rfl := Option.some.inj H
      replace hS := hS.cut 0
      exact ⟨rfl, hS⟩
    replace H := cond_t H hb
    refine wpS_put rfl rfl rfl (yv_fieldAddr fo_36_10 rfl) ?_
    refine wpS_put rfl rfl rfl (yv_load_boxA ag_23 rfl (RW.here _) hS hs2 trivial sg10_5) ?_
    obtain ⟨r128, hm129, H⟩ := bind_some H
    refine wpS_call rfl rfl rfl rfl (by kernel_rfl) rfl (c_entry_Fine x0.snap _ hm129) ?_
    rintro e w ⟨rfl, hN⟩; refine ⟨_, rfl, ?_⟩; have hB := hN.pure; have hS := hS.join hN; clear hN
    refine wpS_quick 2 rfl ?_
    refine wpS_nil ?_
    refine QH_seq_k hK126 ?_
    refine wpC_ret ?_
    refine QH_then_ret ?_
    refine QH_jmp_ret ?_
    refine QH_ret rfl (RV.tmp rfl RV.nil) rfl ?_
    obtain rfl := Option.some.inj H
    replace hS := hS.cut 0
    exact ⟨rfl, hS⟩
  replace H := cond_t H hb
  refine wpS_put rfl rfl rfl (yv_fieldAddr fo_36_9 rfl) ?_
  refine wpS_put rfl rfl rfl (yv_load_box sc_24 rfl (RW.here _) hS hs2 trivial sg9_1) ?_
  refine wpS_put rfl rfl rfl (yv_len el_24 rfl) ?_
  refine wpS_put rfl rfl rfl (yv_gtr rfl rfl) ?_
  refine wpS_quick 1 rfl ?_
  refine wpS_case 64 rfl (fun hb => ?_) (fun hb => ?_)
  · replace H := cond_t H hb
    refine wpS_quick 5 rfl ?_
    refine wpS_nil ?_
    refine QH_seq_k hK61 ?_
    refine wpC_cond_t rfl rfl ?_
    refine wpC_goto ?_
    refine QH_then_goto ?_
    refine QH_ahead ?_
    refine wpC_seq_k (fun K hK64 => ?_)
    refine wpC_skip ?_
    refine QH_seq_k hK64 ?_
    refine wpC_seq_k (fun K hK65 => ?_)
    refine wpC_region ?_
    refine wpS_quick 1 rfl ?_
    refine wpS_nil ?_
    refine QH_seq_k hK65 ?_
    refine wpC_ret ?_
    refine QH_jmp_ret ?_
    refine QH_ret rfl (RV.tmp rfl RV.nil) rfl ?_
    obtain rfl := Option.some.inj H
    replace hS := hS.cut 0
    exact ⟨rfl, hS⟩
  replace H := cond_f H hb
  refine wpS_put rfl rfl rfl (yv_fieldAddr fo_36_7 rfl) ?_
  refine wpS_put rfl rfl rfl (yv_load_box sc_3 rfl (RW.here _) hS hs2 trivial sg7_1) ?_
  refine wpS_put rfl rfl rfl (yv_gtr rfl rfl) ?_
  refine wpS_quick 2 rfl ?_
  refine wpS_nil ?_
  refine QH_seq_k hK61 ?_
  refine wpC_cond rfl (fun hb => ?_) (fun hb => ?_)
  · replace H := cond_t H hb
    refine wpC_goto ?_
    refine QH_then_goto ?_
    refine QH_ahead ?_
    refine wpC_seq_k (fun K hK68 => ?_)
    refine wpC_skip ?_
    refine QH_seq_k hK68 ?_
    refine wpC_seq_k (fun K hK69 => ?_)
    refine wpC_region ?_
    refine wpS_quick 1 rfl ?_
    refine wpS_nil ?_
    refine QH_seq_k hK69 ?_
    refine wpC_ret ?_
    refine QH_jmp_ret ?_
    refine QH_ret rfl (RV.tmp rfl RV.nil) rfl ?_
    obtain rfl := Option.some.inj H
    replace hS := hS.cut 0
    exact ⟨rfl, hS⟩
  replace H := cond_f H hb
  refine wpC_skip ?_
  refine QH_seq_k hK60 ?_
  refine wpC_seq_k (fun K hK71 => ?_)
  refine wpC_seq_k (fun K hK72 => ?_)
  refine wpC_region ?_
  refine wpS_put rfl rfl rfl (yv_fieldAddr fo_36_8 rfl) ?_
  refine wpS_put rfl rfl rfl (yv_load_box sc_4 rfl (RW.here _) hS hs2 trivial sg8_1) ?_
  refine wpS_quick 1 rfl ?_
  refine wpS_case 72 rfl (fun hb => ?_) (fun hb => ?_)
  rotate_left
  · replace H := cond_f H hb
    refine wpS_quick 9 rfl ?_
    refine wpS_nil ?_
    refine QH_seq_k hK72 ?_
    refine wpC_cond_f rfl rfl ?_
    refine wpC_skip ?_
    refine QH_seq_k hK71 ?_
    refine wpC_seq_k (fun K hK103 => ?_)
    refine wpC_seq_k (fun K hK104 => ?_)
    refine wpC_region ?_
    refine wpS_put rfl rfl rfl (yv_fieldAddr fo_36_0 rfl) ?_
    refine wpS_put rfl rfl rfl (yv_load_box sc_5 rfl (RW.here _) hS hs2 trivial sg0_1) ?_
    refine wpS_put rfl rfl rfl (yv_eql rfl rfl) ?_
    refine wpS_nil ?_
    refine QH_seq_k hK104 ?_
    refine wpC_cond rfl (fun hb => ?_) (fun hb => ?_)
    rotate_left
    · replace H := cond_f H hb
      refine wpC_skip ?_
      refine QH_seq_k hK103 ?_
      refine wpC_seq_k (fun K hK112 => ?_)
      refine wpC_seq_k (fun K hK113 => ?_)
      refine wpC_region ?_
      refine wpS_put rfl rfl rfl (yv_fieldAddr fo_36_10 rfl) ?_
      refine wpS_put rfl rfl rfl (yv_load_boxA ag_23 rfl (RW.here _) hS hs2 trivial sg10_5) ?_
      refine wpS_put rfl rfl rfl (yv_build (cells := [.int .i64 0, .int .i64 0, .int .i64 0, .int .i64 0, .bool false]) rfl (by kernel_rfl)) ?_
      refine wpS_put rfl rfl rfl (yv_eqlS (by kernel_rfl) rfl rfl (eqT_23 _ _ _ _ _ _ _ _ _ _)) ?_
      refine wpS_quick 1 rfl ?_
      refine wpS_nil ?_
      refine QH_seq_k hK113 ?_
      refine wpC_ret ?_
      refine QH_then_ret ?_
      refine QH_jmp_ret ?_
      refine QH_ret rfl (RV.tmp rfl RV.nil) rfl ?_
      obtain rfl := Option.some.inj H
      replace hS := hS.cut 0
      exact ⟨rfl, hS⟩
    replace H := cond_t H hb
    refine wpC_seq_k (fun K hK106 => ?_)
    refine wpC_region ?_
    refine wpS_put rfl rfl rfl (yv_fieldAddr fo_36_10 rfl) ?_
    refine wpS_put rfl rfl rfl (yv_fieldAddr fo_23_0 rfl) ?_
    refine wpS_put rfl rfl rfl (yv_load_box sc_3 rfl (RW.here _) hS hs2 trivial sg10_1) ?_
    refine wpS_put rfl rfl rfl (yv_gtr rfl rfl) ?_
    refine wpS_quick 1 rfl ?_
    refine wpS_case 89 rfl (fun hb => ?_) (fun hb => ?_)
    rotate_left
    · replace H := cond_f H hb
      refine wpS_quick 5 rfl ?_
      refine wpS_nil ?_
      refine QH_seq_k hK106 ?_
      refine wpC_ret ?_
      refine QH_then_ret ?_
      refine QH_jmp_ret ?_
      refine QH_ret rfl (RV.tmp rfl RV.nil) rfl ?_
      obtain rfl := Option.some.inj H
      replace hS := hS.cut 0
      exact ⟨rfl, hS⟩
    replace H := cond_t H hb
    refine wpS_put rfl rfl rfl (yv_fieldAddr fo_36_10 rfl) ?_
    refine wpS_put rfl rfl rfl (yv_load_boxA ag_23 rfl (RW.here _) hS hs2 trivial sg10_5) ?_
    obtain ⟨r108, hm109, H⟩ := bind_some H
    refine wpS_call rfl rfl rfl rfl (by kernel_rfl) rfl (c_entry_Fine x0.snap _ hm109) ?_
    rintro e w ⟨rfl, hN⟩; refine ⟨_, rfl, ?_⟩; have hB := hN.pure; have hS := hS.join hN; clear hN
    refine wpS_quick 2 rfl ?_
    refine wpS_nil ?_
    refine QH_seq_k hK106 ?_
    refine wpC_ret ?_
    refine QH_then_ret ?_
    refine QH_jmp_ret ?_
    refine QH_ret rfl (RV.tmp rfl RV.nil) rfl ?_
    obtain rfl := Option.some.inj H
    replace hS := hS.cut 0
    exact ⟨rfl, hS⟩
  replace H := cond_t H hb
  refine wpS_put rfl rfl rfl (yv_fieldAddr fo_36_0 rfl) ?_
  refine wpS_put rfl rfl rfl (yv_load_box sc_5 rfl (RW.here _) hS hs2 trivial sg0_1) ?_
  refine wpS_put rfl rfl rfl (yv_neq rfl rfl) ?_
  refine wpS_quick 2 rfl ?_
  refine wpS_case 77 rfl (fun hb => ?_) (fun hb => ?_)
  rotate_left
  · replace H := cond_f H hb
    refine wpS_quick 4 rfl ?_
    refine wpS_nil ?_
    refine QH_seq_k hK72 ?_
    refine wpC_cond_f rfl rfl ?_
    refine wpC_skip ?_
    refine QH_seq_k hK71 ?_
    refine wpC_seq_k (fun K hK91 => ?_)
    refine wpC_seq_k (fun K hK92 => ?_)
    refine wpC_region ?_
    refine wpS_put rfl rfl rfl (yv_fieldAddr fo_36_0 rfl) ?_
    refine wpS_put rfl rfl rfl (yv_load_box sc_5 rfl (RW.here _) hS hs2 trivial sg0_1) ?_
    refine wpS_put rfl rfl rfl (yv_eql rfl rfl) ?_
    refine wpS_nil ?_
    refine QH_seq_k hK92 ?_
    refine wpC_cond rfl (fun hb => ?_) (fun hb => ?_)
    rotate_left
    · replace H := cond_f H hb
      refine wpC_skip ?_
      refine QH_seq_k hK91 ?_
      refine wpC_seq_k (fun K hK100 => ?_)
      refine wpC_seq_k (fun K hK101 => ?_)
      refine wpC_region ?_
      refine wpS_put rfl rfl rfl (yv_fieldAddr fo_36_10 rfl) ?_
      refine wpS_put rfl rfl rfl (yv_load_boxA ag_23 rfl (RW.here _) hS hs2 trivial sg10_5) ?_
      refine wpS_put rfl rfl rfl (yv_build (cells := [.int .i64 0, .int .i64 0, .int .i64 0, .int .i64 0, .bool false]) rfl (by kernel_rfl)) ?_
      refine wpS_put rfl rfl rfl (yv_eqlS (by kernel_rfl) rfl rfl (eqT_23 _ _ _ _ _ _ _ _ _ _)) ?_
      refine wpS_quick 1 rfl ?_
      refine wpS_nil ?_
      refine QH_seq_k hK101 ?_
      refine wpC_ret ?_
      refine QH_then_ret ?_
      refine QH_jmp_ret ?_
      refine QH_ret rfl (RV.tmp rfl RV.nil) rfl ?_
      obtain rfl := Option.some.inj H
      replace hS := hS.cut 0
      exact ⟨rfl, hS⟩
    replace H := cond_t H hb
    refine wpC_seq_k (fun K hK94 => ?_)
    refine wpC_region ?_
    refine wpS_put rfl rfl rfl (yv_fieldAddr fo_36_10 rfl) ?_
    refine wpS_put rfl rfl rfl (yv_fieldAddr fo_23_0 rfl) ?_
    refine wpS_put rfl rfl rfl (yv_load_box sc_3 rfl (RW.here _) hS hs2 trivial sg10_1) ?_
    refine wpS_put rfl rfl rfl (yv_gtr rfl rfl) ?_
    refine wpS_quick 1 rfl ?_
    refine wpS_case 89 rfl (fun hb => ?_) (fun hb => ?_)
    rotate_left
    · replace H := cond_f H hb
      refine wpS_quick 5 rfl ?_
      refine wpS_nil ?_
      refine QH_seq_k hK94 ?_
      refine wpC_ret ?_
      refine QH_then_ret ?_
      refine QH_jmp_ret ?_
      refine QH_ret rfl (RV.tmp rfl RV.nil) rfl ?_
      obtain rfl := Option.some.inj H
      replace hS := hS.cut 0
      exact ⟨rfl, hS⟩
    replace H := cond_t H hb
    refine wpS_put rfl rfl rfl (yv_fieldAddr fo_36_10 rfl) ?_
    refine wpS_put rfl rfl rfl (yv_load_boxA ag_23 rfl (RW.here _) hS hs2 trivial sg10_5) ?_
    obtain ⟨r96, hm97, H⟩ := bind_some H
    refine wpS_call rfl rfl rfl rfl (by kernel_rfl) rfl (c_entry_Fine x0.snap _ hm97) ?_
    rintro e w ⟨rfl, hN⟩; refine ⟨_, rfl, ?_⟩; have hB := hN.pure; have hS := hS.join hN; clear hN
    refine wpS_quick 2 rfl ?_
    refine wpS_nil ?_
    refine QH_seq_k hK94 ?_
    refine wpC_ret ?_
    refine QH_then_ret ?_
    refine QH_jmp_ret ?_
    refine QH_ret rfl (RV.tmp rfl RV.nil) rfl ?_
    obtain rfl := Option.some.inj H
    replace hS := hS.cut 0
    exact ⟨rfl, hS⟩
  replace H := cond_t H hb
  refine wpS_put rfl rfl rfl (yv_fieldAddr fo_36_0 rfl) ?_
  refine wpS_put rfl rfl rfl (yv_load_box sc_5 rfl (RW.here _) hS hs2 trivial sg0_1) ?_
  refine wpS_put rfl rfl rfl (yv_neq rfl rfl) ?_
  refine wpS_quick 1 rfl ?_
  refine wpS_nil ?_
  refine QH_seq_k hK72 ?_
  refine wpC_cond rfl (fun hb => ?_) (fun hb => ?_)
  · replace H := cond_t H hb
    refine wpC_goto ?_
    refine QH_then_goto ?_
    refine QH_ahead ?_
    refine wpC_seq_k (fun K hK76 => ?_)
    refine wpC_skip ?_
    refine QH_seq_k hK76 ?_
    refine wpC_seq_k (fun K hK77 => ?_)
    refine wpC_region ?_
    refine wpS_quick 1 rfl ?_
    refine wpS_nil ?_
    refine QH_seq_k hK77 ?_
    refine wpC_ret ?_
    refine QH_jmp_ret ?_
    refine QH_ret rfl (RV.tmp rfl RV.nil) rfl ?_
    obtain rfl := Option.some.inj H
    replace hS := hS.cut 0
    exact ⟨rfl, hS⟩
  replace H := cond_f H hb
  refine wpC_skip ?_
  refine QH_seq_k hK71 ?_
  refine wpC_seq_k (fun K hK79 => ?_)
  refine wpC_seq_k (fun K hK80 => ?_)
  refine wpC_region ?_
  refine wpS_put rfl rfl rfl (yv_fieldAddr fo_36_0 rfl) ?_
  refine wpS_put rfl rfl rfl (yv_load_box sc_5 rfl (RW.here _) hS hs2 trivial sg0_1) ?_
  refine wpS_put rfl rfl rfl (yv_eql rfl rfl) ?_
  refine wpS_nil ?_
  refine QH_seq_k hK80 ?_
  refine wpC_cond rfl (fun hb => ?_) (fun hb => ?_)
  rotate_left
  · replace H := cond_f H hb
    refine wpC_skip ?_
    refine QH_seq_k hK79 ?_
    refine wpC_seq_k (fun K hK88 => ?_)
    refine wpC_seq_k (fun K hK89 => ?_)
    refine wpC_region ?_
    refine wpS_put rfl rfl rfl (yv_fieldAddr fo_36_10 rfl) ?_
    refine wpS_put rfl rfl rfl (yv_load_boxA ag_23 rfl (RW.here _) hS hs2 trivial sg10_5) ?_
    refine wpS_put rfl rfl rfl (yv_build (cells := [.int .i64 0, .int .i64 0, .int .i64 0, .int .i64 0, .bool false]) rfl (by kernel_rfl)) ?_
    refine wpS_put rfl rfl rfl (yv_eqlS (by kernel_rfl) rfl rfl (eqT_23 _ _ _ _ _ _ _ _ _ _)) ?_
    refine wpS_quick 1 rfl ?_
    refine wpS_nil ?_
    refine QH_seq_k hK89 ?_
    refine wpC_ret ?_
    refine QH_then_ret ?_
    refine QH_jmp_ret ?_
    refine QH_ret rfl (RV.tmp rfl RV.nil) rfl ?_
    obtain rfl := Option.some.inj H
    replace hS := hS.cut 0
    exact ⟨rfl, hS⟩
  replace H := cond_t H hb
  refine wpC_seq_k (fun K hK82 => ?_)
  refine wpC_region ?_
  refine wpS_put rfl rfl rfl (yv_fieldAddr fo_36_10 rfl) ?_
  refine wpS_put rfl rfl rfl (yv_fieldAddr fo_23_0 rfl) ?_
  refine wpS_put rfl rfl rfl (yv_load_box sc_3 rfl (RW.here _) hS hs2 trivial sg10_1) ?_
  refine wpS_put rfl rfl rfl (yv_gtr rfl rfl) ?_
  refine wpS_quick 1 rfl ?_
  refine wpS_case 89 rfl (fun hb => ?_) (fun hb => ?_)
  rotate_left
  · replace H := cond_f H hb
    refine wpS_quick 5 rfl ?_
    refine wpS_nil ?_
    refine QH_seq_k hK82 ?_
    refine wpC_ret ?_
    refine QH_then_ret ?_
    refine QH_jmp_ret ?_
    refine QH_ret rfl (RV.tmp rfl RV.nil) rfl ?_
    obtain rfl := Option.some.inj H
    replace hS := hS.cut 0
    exact ⟨rfl, hS⟩
  replace H := cond_t H hb
  refine wpS_put rfl rfl rfl (yv_fieldAddr fo_36_10 rfl) ?_
  refine wpS_put rfl rfl rfl (yv_load_boxA ag_23 rfl (RW.here _) hS hs2 trivial sg10_5) ?_
  obtain ⟨r84, hm85, H⟩ := bind_some H
  refine wpS_call rfl rfl rfl rfl (by kernel_rfl) rfl (c_entry_Fine x0.snap _ hm85) ?_
  rintro e w ⟨rfl, hN⟩; refine ⟨_, rfl, ?_⟩; have hB := hN.pure; have hS := hS.join hN; clear hN
  refine wpS_quick 2 rfl ?_
  refine wpS_nil ?_
  refine QH_seq_k hK82 ?_
  refine wpC_ret ?_
  refine QH_then_ret ?_
  refine QH_jmp_ret ?_
  refine QH_ret rfl (RV.tmp rfl RV.nil) rfl ?_
  obtain rfl := Option.some.inj H
  replace hS := hS.cut 0
  exact ⟨rfl, hS⟩
theorem c_elect_fits (x0 : Co) (x1 : Ms) (A0_ : Option Addr) (c0_ : Nat) (A1_ : Option Addr) (c1_ : Nat) (A2_ : Option Addr) (c2_ : Nat) (A3_ : Option Addr) (c3_ : Nat) (A4_ : Option Addr) (c4_ : Nat) (A5_ : Option Addr) (c5_ : Nat) (w0 : World) (s0_ : SlI w0 enE A0_ c0_ x0.tuple.log) (s1_ : SlI w0 enO A1_ c1_ x0.votes) (s2_ : SlI w0 enI A2_ c2_ x0.next) (s3_ : SlI w0 enI A3_ c3_ x0.mtch) (s4_ : SlI w0 enI A4_ c4_ x0.caps) (s5_ : SlW w0 enE A5_ c5_ x1.entries) {r : Bool} (H : m_elect_fits x0 x1 = some r) : Calls Try.prog 48 #[.agg #[.int .i64 x0.id, .int .i64 x0.n, .int .u8 x0.role, .int .i64 x0.binary, .int .i64 x0.tuple.snap.index, .int .i64 x0.tuple.snap.term, .int .i64 x0.tuple.snap.sum, .int .i64 x0.tuple.snap.level, .bool x0.tuple.snap.final, .slice A0_ x0.tuple.log.length c0_, .int .i64 x0.tuple.term, .int .i64 x0.tuple.vote, .int .i64 x0.commit, .int .i64 x0.applied.index, .int .i64 x0.applied.term, .int .i64 x0.applied.sum, .int .i64 x0.applied.level, .bool x0.applied.final, .slice A1_ x0.votes.length c1_, .slice A2_ x0.next.length c2_, .slice A3_ x0.mtch.length c3_, .slice A4_ x0.caps.length c4_], .agg #[.int .u8 x1.kind, .int .i64 x1.frm, .int .i64 x1.dst, .int .i64 x1.term, .int .i64 x1.cap, .int .i64 x1.last, .int .i64 x1.lastTerm, .int .i64 x1.commit, .bool x1.okk, .slice A5_ x1.entries.length c5_, .int .i64 x1.snap.index, .int .i64 x1.snap.term, .int .i64 x1.snap.sum, .int .i64 x1.snap.level, .bool x1.snap.final]] w0 fun e w' => e = .returned (.bool r) ∧ St0 All w0 w' [] := by
  unfold m_elect_fits at H
  refine gw_enter2 Try.func48 rfl Try.ntmps48 rfl ?_
  have hS := St0.start All w0
  refine wpC_seq_k (fun K hK1 => ?_)
  refine wpC_region ?_
  refine wpS_box rfl rfl rfl CellsOf.agg hS (fun b2 w hS hB => ?_)
  refine wpS_box rfl rfl rfl CellsOf.agg hS (fun b4 w hS hB => ?_)
  refine wpS_quick 1 rfl ?_
  refine wpS_nil ?_
  refine QH_seq_k hK1 ?_
  refine wpC_seq_k (fun K hK6 => ?_)
  refine wpC_region ?_
  refine wpS_put rfl rfl rfl (yv_fieldAddr fo_36_2 rfl) ?_
  refine wpS_put rfl rfl rfl (yv_load_box sc_3 rfl (RW.here _) hS hs0 trivial sg2_1) ?_
  refine wpS_put rfl rfl rfl (yv_fieldAddr fo_30_0 rfl) ?_
  refine wpS_put rfl rfl rfl (yv_load_box sc_3 rfl (RW.here _) hS hs1 trivial sg0_1) ?_
  refine wpS_put rfl rfl rfl (yv_eql rfl rfl) ?_
  refine wpS_quick 1 rfl ?_
  refine wpS_case 10 rfl (fun hb => ?_) (fun hb => ?_)
  rotate_left
  · replace H := cond_f H hb
    refine wpS_quick 10 rfl ?_
    refine wpS_nil ?_
    refine QH_seq_k hK6 ?_
    refine wpC_ret ?_
    refine QH_ret rfl (RV.tmp rfl RV.nil) rfl ?_
    obtain rfl := Option.some.inj H
    replace hS := hS.cut 0
    exact ⟨rfl, hS⟩
  replace H := cond_t H hb
  refine wpS_put rfl rfl rfl (yv_load_boxA ag_36 rfl (RW.here _) hS hs0 trivial sg0_15) ?_
  refine wpS_put rfl rfl rfl (yv_fieldAddr fo_30_1 rfl) ?_
  refine wpS_put rfl rfl rfl (yv_load_box sc_3 rfl (RW.here _) hS hs1 trivial sg1_1) ?_
  obtain ⟨r8, hm9, H⟩ := bind_some H
  refine wpS_call rfl rfl rfl rfl (by kernel_rfl) rfl (c_msg_Fine x1 x0.n A5_ c5_ _ (SlW.of_rd s5_.k (hS.rd0 s5_.rd)) hm9) ?_
  rintro e w ⟨rfl, hN⟩; refine ⟨_, rfl, ?_⟩; have hB := hN.pure; have hS := hS.join hN; clear hN
  refine wpS_quick 2 rfl ?_
  refine wpS_case 16 rfl (fun hb => ?_) (fun hb => ?_)
  rotate_left
  · replace H := cond_f H hb
    refine wpS_quick 4 rfl ?_
    refine wpS_nil ?_
    refine QH_seq_k hK6 ?_
    refine wpC_ret ?_
    refine QH_ret rfl (RV.tmp rfl RV.nil) rfl ?_
    obtain rfl := Option.some.inj H
    replace hS := hS.cut 0
    exact ⟨rfl, hS⟩
  replace H := cond_t H hb
  refine wpS_put rfl rfl rfl (yv_load_boxA ag_30 rfl (RW.here _) hS hs1 trivial sg0_22) ?_
  obtain ⟨r11, hm12, H⟩ := bind_some H
  refine wpS_call rfl rfl rfl rfl (by kernel_rfl) rfl (c_msg_Right x0 A0_ c0_ A1_ c1_ A2_ c2_ A3_ c3_ A4_ c4_ _ (SlI.of_rd s0_.k (hS.rd0 s0_.rd) (hS.blk0 s0_.blk)) (SlI.of_rd s1_.k (hS.rd0 s1_.rd) (hS.blk0 s1_.blk)) (SlI.of_rd s2_.k (hS.rd0 s2_.rd) (hS.blk0 s2_.blk)) (SlI.of_rd s3_.k (hS.rd0 s3_.rd) (hS.blk0 s3_.blk)) (SlI.of_rd s4_.k (hS.rd0 s4_.rd) (hS.blk0 s4_.blk)) hm12) ?_
  rintro e w ⟨rfl, hN⟩; refine ⟨_, rfl, ?_⟩; have hB := hN.pure; have hS := hS.join hN; clear hN
  refine wpS_quick 2 rfl ?_
  refine wpS_nil ?_
  refine QH_seq_k hK6 ?_
  refine wpC_ret ?_
  refine QH_ret rfl (RV.tmp rfl RV.nil) rfl ?_
  obtain rfl := Option.some.inj H
  replace hS := hS.cut 0
  exact ⟨rfl, hS⟩
theorem c_advert_To (x0 : Co) (x1 : Ms) (A0_ : Option Addr) (c0_ : Nat) (A1_ : Option Addr) (c1_ : Nat) (A2_ : Option Addr) (c2_ : Nat) (A3_ : Option Addr) (c3_ : Nat) (A4_ : Option Addr) (c4_ : Nat) (A5_ : Option Addr) (c5_ : Nat) (w0 : World) (s0_ : SlI w0 enE A0_ c0_ x0.tuple.log) (s1_ : SlI w0 enO A1_ c1_ x0.votes) (s2_ : SlI w0 enI A2_ c2_ x0.next) (s3_ : SlI w0 enI A3_ c3_ x0.mtch) (s4_ : SlI w0 enI A4_ c4_ x0.caps) (s5_ : SlW w0 enE A5_ c5_ x1.entries) {r : Bool} (H : m_advert_To x0 x1 = some r) : Calls Try.prog 60 #[.agg #[.int .i64 x0.id, .int .i64 x0.n, .int .u8 x0.role, .int .i64 x0.binary, .int .i64 x0.tuple.snap.index, .int .i64 x0.tuple.snap.term, .int .i64 x0.tuple.snap.sum, .int .i64 x0.tuple.snap.level, .bool x0.tuple.snap.final, .slice A0_ x0.tuple.log.length c0_, .int .i64 x0.tuple.term, .int .i64 x0.tuple.vote, .int .i64 x0.commit, .int .i64 x0.applied.index, .int .i64 x0.applied.term, .int .i64 x0.applied.sum, .int .i64 x0.applied.level, .bool x0.applied.final, .slice A1_ x0.votes.length c1_, .slice A2_ x0.next.length c2_, .slice A3_ x0.mtch.length c3_, .slice A4_ x0.caps.length c4_], .agg #[.int .u8 x1.kind, .int .i64 x1.frm, .int .i64 x1.dst, .int .i64 x1.term, .int .i64 x1.cap, .int .i64 x1.last, .int .i64 x1.lastTerm, .int .i64 x1.commit, .bool x1.okk, .slice A5_ x1.entries.length c5_, .int .i64 x1.snap.index, .int .i64 x1.snap.term, .int .i64 x1.snap.sum, .int .i64 x1.snap.level, .bool x1.snap.final]] w0 fun e w' => e = .returned (.bool r) ∧ St0 All w0 w' [] := by
  unfold m_advert_To at H
  refine gw_enter2 Try.func60 rfl Try.ntmps60 rfl ?_
  have hS := St0.start All w0
  refine wpC_seq_k (fun K hK1 => ?_)
  refine wpC_region ?_
  refine wpS_box rfl rfl rfl CellsOf.agg hS (fun b2 w hS hB => ?_)
  refine wpS_box rfl rfl rfl CellsOf.agg hS (fun b4 w hS hB => ?_)
  refine wpS_quick 1 rfl ?_
  refine wpS_nil ?_
  refine QH_seq_k hK1 ?_
  refine wpC_scope1 0 rfl ?_
  refine wpC_seq_k (fun K hK6 => ?_)
  refine wpC_seq_k (fun K hK7 => ?_)
  refine wpC_region ?_
  refine wpS_put rfl rfl rfl (yv_fieldAddr fo_36_2 rfl) ?_
  refine wpS_put rfl rfl rfl (yv_load_box sc_3 rfl (RW.here _) hS hs0 trivial sg2_1) ?_
  refine wpS_put rfl rfl rfl (yv_fieldAddr fo_30_0 rfl) ?_
  refine wpS_put rfl rfl rfl (yv_load_box sc_3 rfl (RW.here _) hS hs1 trivial sg0_1) ?_
  refine wpS_put rfl rfl rfl (yv_neq rfl rfl) ?_
  refine wpS_quick 1 rfl ?_
  refine wpS_case 10 rfl (fun hb => ?_) (fun hb => ?_)
  · replace H := cond_t H hb
    refine wpS_quick 4 rfl ?_
    refine wpS_nil ?_
    refine QH_seq_k hK7 ?_
    refine wpC_cond_t rfl rfl ?_
    refine wpC_goto ?_
    refine QH_then_goto ?_
    refine QH_ahead ?_
    refine wpC_seq_k (fun K hK9 => ?_)
    refine wpC_skip ?_
    refine QH_seq_k hK9 ?_
    refine wpC_seq_k (fun K hK10 => ?_)
    refine wpC_region ?_
    refine wpS_quick 2 rfl ?_
    refine wpS_nil ?_
    refine QH_seq_k hK10 ?_
    refine wpC_ret ?_
    refine QH_jmp_ret ?_
    refine QH_ret rfl (RV.tmp rfl RV.nil) rfl ?_
    obtain rfl := Option.some.inj H
    replace hS := hS.cut 0
    exact ⟨rfl, hS⟩
  replace H := cond_f H hb
  refine wpS_put rfl rfl rfl (yv_load_boxA ag_30 rfl (RW.here _) hS hs1 trivial sg0_22) ?_
  obtain ⟨r12, hm13, H⟩ := bind_some H
  refine wpS_call rfl rfl rfl rfl (by kernel_rfl) rfl (c_msg_Right x0 A0_ c0_ A1_ c1_ A2_ c2_ A3_ c3_ A4_ c4_ _ (SlI.of_rd s0_.k (hS.rd0 s0_.rd) (hS.blk0 s0_.blk)) (SlI.of_rd s1_.k (hS.rd0 s1_.rd) (hS.blk0 s1_.blk)) (SlI.of_rd s2_.k (hS.rd0 s2_.rd) (hS.blk0 s2_.blk)) (SlI.of_rd s3_.k (hS.rd0 s3_.rd) (hS.blk0 s3_.blk)) (SlI.of_rd s4_.k (hS.rd0 s4_.rd) (hS.blk0 s4_.blk)) hm13) ?_
  rintro e w ⟨rfl, hN⟩; refine ⟨_, rfl, ?_⟩; have hB := hN.pure; have hS := hS.join hN; clear hN
  refine wpS_put rfl rfl rfl (yv_not rfl) ?_
  refine wpS_quick 1 rfl ?_
  refine wpS_nil ?_
  refine QH_seq_k hK7 ?_
  refine wpC_cond rfl (fun hb => ?_) (fun hb => ?_)
  · replace H := cond_t H hb
    refine wpC_goto ?_
    refine QH_then_goto ?_
    refine QH_ahead ?_
    refine wpC_seq_k (fun K hK15 => ?_)
    refine wpC_skip ?_
    refine QH_seq_k hK15 ?_
    refine wpC_seq_k (fun K hK16 => ?_)
    refine wpC_region ?_
    refine wpS_quick 2 rfl ?_
    refine wpS_nil ?_
    refine QH_seq_k hK16 ?_
    refine wpC_ret ?_
    refine QH_jmp_ret ?_
    refine QH_ret rfl (RV.tmp rfl RV.nil) rfl ?_
    obtain rfl := Option.some.inj H
    replace hS := hS.cut 0
    exact ⟨rfl, hS⟩
  replace H := cond_f H hb
  refine wpC_skip ?_
  refine QH_seq_k hK6 ?_
  refine wpC_seq_k (fun K hK18 => ?_)
  refine wpC_region ?_
  refine wpS_put rfl rfl rfl (yv_load_boxA ag_36 rfl (RW.here _) hS hs0 trivial sg0_15) ?_
  refine wpS_put rfl rfl rfl (yv_fieldAddr fo_30_1 rfl) ?_
  refine wpS_put rfl rfl rfl (yv_load_box sc_3 rfl (RW.here _) hS hs1 trivial sg1_1) ?_
  obtain ⟨r19, hm20, H⟩ := bind_some H
  refine wpS_call rfl rfl rfl rfl (by kernel_rfl) rfl (c_msg_Fine x1 x0.n A5_ c5_ _ (SlW.of_rd s5_.k (hS.rd0 s5_.rd)) hm20) ?_
  rintro e w ⟨rfl, hN⟩; refine ⟨_, rfl, ?_⟩; have hB := hN.pure; have hS := hS.join hN; clear hN
  refine wpS_quick 1 rfl ?_
  refine wpS_nil ?_
  refine QH_seq_k hK18 ?_
  refine wpC_seq_k (fun K hK21 => ?_)
  refine wpC_label ?_
  refine QH_seq_k hK21 ?_
  refine wpC_seq_k (fun K hK22 => ?_)
  refine wpC_region ?_
  refine wpS_quick 2 rfl ?_
  refine wpS_nil ?_
  refine QH_seq_k hK22 ?_
  refine wpC_ret ?_
  refine QH_jmp_ret ?_
  refine QH_ret rfl (RV.tmp rfl RV.nil) rfl ?_
  obtain rfl := Option.some.inj H
  replace hS := hS.cut 0
  exact ⟨rfl, hS⟩
theorem c_advert_Hear (x0 : Co) (x1 : Ms) (A0_ : Option Addr) (c0_ : Nat) (A1_ : Option Addr) (c1_ : Nat) (A2_ : Option Addr) (c2_ : Nat) (A3_ : Option Addr) (c3_ : Nat) (A4_ : Option Addr) (c4_ : Nat) (A5_ : Option Addr) (c5_ : Nat) (w0 : World) (s0_ : SlI w0 enE A0_ c0_ x0.tuple.log) (s1_ : SlI w0 enO A1_ c1_ x0.votes) (s2_ : SlI w0 enI A2_ c2_ x0.next) (s3_ : SlI w0 enI A3_ c3_ x0.mtch) (s4_ : SlI w0 enI A4_ c4_ x0.caps) (s5_ : SlW w0 enE A5_ c5_ x1.entries) {r : Co} (H : m_advert_Hear x0 x1 = some r) : Calls Try.prog 68 #[.agg #[.int .i64 x0.id, .int .i64 x0.n, .int .u8 x0.role, .int .i64 x0.binary, .int .i64 x0.tuple.snap.index, .int .i64 x0.tuple.snap.term, .int .i64 x0.tuple.snap.sum, .int .i64 x0.tuple.snap.level, .bool x0.tuple.snap.final, .slice A0_ x0.tuple.log.length c0_, .int .i64 x0.tuple.term, .int .i64 x0.tuple.vote, .int .i64 x0.commit, .int .i64 x0.applied.index, .int .i64 x0.applied.term, .int .i64 x0.applied.sum, .int .i64 x0.applied.level, .bool x0.applied.final, .slice A1_ x0.votes.length c1_, .slice A2_ x0.next.length c2_, .slice A3_ x0.mtch.length c3_, .slice A4_ x0.caps.length c4_], .agg #[.int .u8 x1.kind, .int .i64 x1.frm, .int .i64 x1.dst, .int .i64 x1.term, .int .i64 x1.cap, .int .i64 x1.last, .int .i64 x1.lastTerm, .int .i64 x1.commit, .bool x1.okk, .slice A5_ x1.entries.length c5_, .int .i64 x1.snap.index, .int .i64 x1.snap.term, .int .i64 x1.snap.sum, .int .i64 x1.snap.level, .bool x1.snap.final]] w0 fun e w' => ∃ (A0 : Option Addr) (c0 : Nat) (A1 : Option Addr) (c1 : Nat) (A2 : Option Addr) (c2 : Nat) (A3 : Option Addr) (c3 : Nat) (A4 : Option Addr) (c4 : Nat), e = .returned (.agg #[.int .i64 r.id, .int .i64 r.n, .int .u8 r.role, .int .i64 r.binary, .int .i64 r.tuple.snap.index, .int .i64 r.tuple.snap.term, .int .i64 r.tuple.snap.sum, .int .i64 r.tuple.snap.level, .bool r.tuple.snap.final, .slice A0 r.tuple.log.length c0, .int .i64 r.tuple.term, .int .i64 r.tuple.vote, .int .i64 r.commit, .int .i64 r.applied.index, .int .i64 r.applied.term, .int .i64 r.applied.sum, .int .i64 r.applied.level, .bool r.applied.final, .slice A1 r.votes.length c1, .slice A2 r.next.length c2, .slice A3 r.mtch.length c3, .slice A4 r.caps.length c4]) ∧ (r.tuple.log.length ≤ c0 ∧ c0 ≤ maxLen) ∧ (r.votes.length ≤ c1 ∧ c1 ≤ maxLen) ∧ (r.next.length ≤ c2 ∧ c2 ≤ maxLen) ∧ (r.mtch.length ≤ c3 ∧ c3 ≤ maxLen) ∧ (r.caps.length ≤ c4 ∧ c4 ≤ maxLen) ∧ St0 All w0 w' [.row (.slice A0 r.tuple.log.length c0) 56 3 r.tuple.log.length (encs enE r.tuple.log), .row (.slice A1 r.votes.length c1) 4 1 r.votes.length (encs enO r.votes), .row (.slice A2 r.next.length c2) 3 1 r.next.length (encs enI r.next), .row (.slice A3 r.mtch.length c3) 3 1 r.mtch.length (encs enI r.mtch), .row (.slice A4 r.caps.length c4) 3 1 r.caps.length (encs enI r.caps)] := by
  unfold m_advert_Hear at H
  refine gw_enter2 Try.func68 rfl Try.ntmps68 rfl ?_
  have hS := St0.start All w0
  refine wpC_seq_k (fun K hK1 => ?_)
  refine wpC_region ?_
  refine wpS_box rfl rfl rfl CellsOf.agg hS (fun b2 w hS hB => ?_)
  refine wpS_box rfl rfl rfl CellsOf.agg hS (fun b4 w hS hB => ?_)
  refine wpS_alloc rfl rfl zc_30 hS (fun b6 w hS hB => ?_)
  refine wpS_nil ?_
  refine QH_seq_k hK1 ?_
  refine wpC_seq_k (fun K hK8 => ?_)
  refine wpC_draw 7 [6] (fun i b => (i = 6 → b ≠ b6)) ⟨by kernel_rfl, by kernel_rfl⟩ hS (fun w hS hB => ?_)
  refine wpR_batch [true, true, true, false, true] (by decide +kernel) (by repeat (first | exact PF.body | exact PF.round | apply PF.then | apply PF.inBlock | apply PF.jump)) ?_
  refine LtK.put rfl rfl rfl (yv_load_boxA ag_30 rfl (RW.below _) hS hs2 trivial sg0_22) ?_
  refine LtK.put rfl rfl rfl (yv_load_boxA ag_30 rfl (RW.below _) hS hs2 trivial sg0_22) ?_
  refine LtK.put rfl rfl rfl (yv_load_boxA ag_36 rfl (RW.below _) hS hs1 trivial sg0_15) ?_
  refine LtK.put rfl rfl rfl (yv_makeFunc rfl rfl) ?_
  refine LtK.nil ?_
  refine wpR_call [false, false, false, true] 3 ⟨by decide, by kernel_rfl, by kernel_rfl⟩ rfl rfl ?_
  try dsimp only [pickL]
  obtain ⟨r9, hm10, H⟩ := bind_some H
  refine wpS_call rfl rfl rfl rfl (by kernel_rfl) rfl (c_advert_To x0 x1 A0_ c0_ A1_ c1_ A2_ c2_ A3_ c3_ A4_ c4_ A5_ c5_ _ (SlI.of_rd s0_.k (hS.rd0 s0_.rd) (hS.blk0 s0_.blk)) (SlI.of_rd s1_.k (hS.rd0 s1_.rd) (hS.blk0 s1_.blk)) (SlI.of_rd s2_.k (hS.rd0 s2_.rd) (hS.blk0 s2_.blk)) (SlI.of_rd s3_.k (hS.rd0 s3_.rd) (hS.blk0 s3_.blk)) (SlI.of_rd s4_.k (hS.rd0 s4_.rd) (hS.blk0 s4_.blk)) (SlW.of_rd s5_.k (hS.rd0 s5_.rd)) hm10) ?_
  rintro e w ⟨rfl, hN⟩; refine ⟨_, rfl, ?_⟩; have hB := hN.pure; have hS := hS.join hN; clear hN
  refine wpS_nil ?_
  refine QH_step hB ?_
  refine wpR_call [false, false, false, false, false, true] 5 ⟨by decide, by kernel_rfl, by kernel_rfl⟩ rfl rfl ?_
  try dsimp only [pickL]
  have hO11 := hS
  rename World => wS12
  have hS := St0.start All wS12
  refine wpS_in rfl rfl rfl rfl (by kernel_rfl) rfl ?_
  show Calls _ _ #[_, _, _] _ _
  refine gw_enter3 Try.func103 rfl Try.ntmps103 rfl ?_
  refine wpC_seq_k (fun K hK13 => ?_)
  refine wpC_region ?_
  refine wpS_box rfl rfl rfl CellsOf.agg hS (fun b14 w hS hB => ?_)
  refine wpS_alloc rfl rfl zc_30 hS (fun b16 w hS hB => ?_)
  refine wpS_nil ?_
  refine QH_seq_k hK13 ?_
  refine wpC_seq_k (fun K hK18 => ?_)
  refine wpC_region ?_
  refine wpS_put rfl rfl rfl (yv_load_boxA ag_30 rfl (RW.here _) (hO11.join hS) hs1 trivial sg0_22) ?_
  obtain ⟨r19, hm20, H⟩ := bind_some H
  refine wpS_call rfl rfl rfl rfl (by kernel_rfl) rfl (c_msg_Own x0 A0_ c0_ A1_ c1_ A2_ c2_ A3_ c3_ A4_ c4_ _ (SlI.of_rd s0_.k ((hO11.join hS).rd0 s0_.rd) ((hO11.join hS).blk0 s0_.blk)) (SlI.of_rd s1_.k ((hO11.join hS).rd0 s1_.rd) ((hO11.join hS).blk0 s1_.blk)) (SlI.of_rd s2_.k ((hO11.join hS).rd0 s2_.rd) ((hO11.join hS).blk0 s2_.blk)) (SlI.of_rd s3_.k ((hO11.join hS).rd0 s3_.rd) ((hO11.join hS).blk0 s3_.blk)) (SlI.of_rd s4_.k ((hO11.join hS).rd0 s4_.rd) ((hO11.join hS).blk0 s4_.blk)) hm20) ?_
  rintro e w ⟨A21, c22, A25, c26, A29, c30, A33, c34, A37, c38, rfl, k23, k27, k31, k35, k39, hN⟩; refine ⟨_, rfl, ?_⟩; have hB := hN.pure; have hS := hS.join hN; clear hN
  refine wpS_store rfl rfl rfl CellsOf.agg hS ps6 st0_22 (by kernel_rfl) rfl (fun w hS hB => ?_)
  refine wpS_nil ?_
  refine QH_seq_k hK18 ?_
  refine wpC_seq_k (fun K hK41 => ?_)
  refine wpC_seq_k (fun K hK42 => ?_)
  refine wpC_region ?_
  refine wpS_quick 2 rfl ?_
  refine wpS_case 10 rfl (fun hb => ?_) (fun hb => ?_)
  rotate_left
  · replace H := cond_f H hb
    refine wpS_quick 3 rfl ?_
    refine wpS_nil ?_
    refine QH_seq_k hK42 ?_
    refine wpC_cond_f rfl rfl ?_
    refine wpC_skip ?_
    refine QH_seq_k hK41 ?_
    refine wpC_seq_k (fun K hK55 => ?_)
    refine wpC_region ?_
    refine wpS_put rfl rfl rfl (yv_load_boxA ag_30 rfl (RW.here _) (hO11.join hS) hs6 trivial sg0_22) ?_
    refine wpS_store rfl rfl rfl CellsOf.agg hS ps5 st0_22 (by kernel_rfl) rfl (fun w hS hB => ?_)
    refine wpS_nil ?_
    refine QH_seq_k hK55 ?_
    refine wpC_ret ?_
    refine QH_ret rfl (RV.cell rfl (load_boxA ag_30 (hO11.join hS) hs5 sg0_22) RV.nil) rfl ?_
    refine ⟨_, rfl, ?_⟩
    have hB := hS.pure
    have hS := hO11.join hS
    dsimp only [List.cons_append, List.nil_append] at hS
    refine wpS_nil ?_
    refine QH_step hB ?_
    refine wpR_seal [false, false, false, false, false, false, true] 6 ⟨by decide, by kernel_rfl, by kernel_rfl⟩ rfl rfl ?_
    try dsimp only [pickL]
    refine wpS_store rfl rfl rfl CellsOf.agg hS ps7 st0_22 (by kernel_rfl) rfl (fun w hS hB => ?_)
    refine wpS_nil ?_
    refine QH_stepG (hB.sub (fun _ _ h => by simpa using h)) ?_
    refine wpR_end (by kernel_rfl) ?_
    refine QH_seq_k hK8 ?_
    refine wpC_ret ?_
    refine QH_ret rfl (RV.cell rfl (load_boxA ag_30 hS hs7 sg0_22) RV.nil) rfl ?_
    obtain rfl := Option.some.inj H
    have hS := hS.front 4 rfl
    have hS := hS.front 4 rfl
    have hS := hS.front 4 rfl
    have hS := hS.front 4 rfl
    have hS := hS.front 4 rfl
    replace hS := hS.cut 5
    exact ⟨A21, c22, A25, c26, A29, c30, A33, c34, A37, c38, rfl, k23, k27, k31, k35, k39, hS⟩
  replace H := cond_t H hb
  refine wpS_put rfl rfl rfl (yv_load_boxA ag_30 rfl (RW.here _) (hO11.join hS) hs6 trivial sg0_22) ?_
  obtain ⟨r44, hm45, H⟩ := bind_some H
  refine wpS_call rfl rfl rfl rfl (by kernel_rfl) rfl (c_msg_Right r19 A21 c22 A25 c26 A29 c30 A33 c34 A37 c38 _ (SlI.of_rd k23 ((hO11.join hS).row_rd hs0) ((hO11.join hS).row_blk hs0)) (SlI.of_rd k27 ((hO11.join hS).row_rd hs1) ((hO11.join hS).row_blk hs1)) (SlI.of_rd k31 ((hO11.join hS).row_rd hs2) ((hO11.join hS).row_blk hs2)) (SlI.of_rd k35 ((hO11.join hS).row_rd hs3) ((hO11.join hS).row_blk hs3)) (SlI.of_rd k39 ((hO11.join hS).row_rd hs4) ((hO11.join hS).row_blk hs4)) hm45) ?_
  rintro e w ⟨rfl, hN⟩; refine ⟨_, rfl, ?_⟩; have hB := hN.pure; have hS := hS.join hN; clear hN
  refine wpS_quick 1 rfl ?_
  refine wpS_nil ?_
  refine QH_seq_k hK42 ?_
  refine wpC_cond rfl (fun hb => ?_) (fun hb => ?_)
  rotate_left
  · replace H := cond_f H hb
    refine wpC_skip ?_
    refine QH_seq_k hK41 ?_
    refine wpC_seq_k (fun K hK53 => ?_)
    refine wpC_region ?_
    refine wpS_put rfl rfl rfl (yv_load_boxA ag_30 rfl (RW.here _) (hO11.join hS) hs6 trivial sg0_22) ?_
    refine wpS_store rfl rfl rfl CellsOf.agg hS ps5 st0_22 (by kernel_rfl) rfl (fun w hS hB => ?_)
    refine wpS_nil ?_
    refine QH_seq_k hK53 ?_
    refine wpC_ret ?_
    refine QH_ret rfl (RV.cell rfl (load_boxA ag_30 (hO11.join hS) hs5 sg0_22) RV.nil) rfl ?_
    refine ⟨_, rfl, ?_⟩
    have hB := hS.pure
    have hS := hO11.join hS
    dsimp only [List.cons_append, List.nil_append] at hS
    refine wpS_nil ?_
    refine QH_step hB ?_
    refine wpR_seal [false, false, false, false, false, false, true] 6 ⟨by decide, by kernel_rfl, by kernel_rfl⟩ rfl rfl ?_
    try dsimp only [pickL]
    refine wpS_store rfl rfl rfl CellsOf.agg hS ps7 st0_22 (by kernel_rfl) rfl (fun w hS hB => ?_)
    refine wpS_nil ?_
    refine QH_stepG (hB.sub (fun _ _ h => by simpa using h)) ?_
    refine wpR_end (by kernel_rfl) ?_
    refine QH_seq_k hK8 ?_
    refine wpC_ret ?_
    refine QH_ret rfl (RV.cell rfl (load_boxA ag_30 hS hs7 sg0_22) RV.nil) rfl ?_
    obtain rfl := Option.some.inj H
    have hS := hS.front 4 rfl
    have hS := hS.front 4 rfl
    have hS := hS.front 4 rfl
    have hS := hS.front 4 rfl
    have hS := hS.front 4 rfl
    replace hS := hS.cut 5
    exact ⟨A21, c22, A25, c26, A29, c30, A33, c34, A37, c38, rfl, k23, k27, k31, k35, k39, hS⟩
  replace H := cond_t H hb
  refine wpC_region ?_
  refine wpS_quick 1 rfl ?_
  refine wpS_in rfl rfl rfl rfl (by kernel_rfl) rfl ?_
  show Calls _ _ #[_, _] _ _
  refine gw_enter2 Try.func104 rfl Try.ntmps104 rfl ?_
  refine wpC_draw 11 [10] (fun i b => (i = 10 → b = b16 ∨ b = b14)) ⟨by kernel_rfl, by kernel_rfl⟩ hS (fun w hS hB => ?_)
  refine wpR_batch [true, true, true, true, true, true, true, true, true, true] (by decide +kernel) (by repeat (first | exact PF.body | exact PF.round | apply PF.then | apply PF.inBlock | apply PF.jump)) ?_
  refine LtK.put rfl rfl rfl (yv_move rfl) ?_
  refine LtK.put rfl rfl rfl (yv_nilCheck rfl) ?_
  refine LtK.put rfl rfl rfl (yv_fieldAddr fo_30_10 rfl) ?_
  refine LtK.put rfl rfl rfl (yv_load_box sc_28 rfl (RW.below _) (hO11.join hS) hs6 trivial sg21_1) ?_
  refine LtK.put rfl rfl rfl (yv_fieldAddr fo_36_1 rfl) ?_
  refine LtK.put rfl rfl rfl (yv_load_box sc_3 rfl (RW.below _) (hO11.join hS) hs8 trivial sg1_1) ?_
  refine LtK.put rfl rfl rfl (yx_sub rfl rfl) ?_
  refine LtK.put rfl rfl rfl (yv_fieldAddr fo_36_4 rfl) ?_
  refine LtK.put rfl rfl rfl (yv_load_box sc_3 rfl (RW.below _) (hO11.join hS) hs8 trivial sg4_1) ?_
  obtain ⟨e47, hi49, H⟩ := bind_some H
  obtain ⟨j48, hi49a, hi49b, hi49c⟩ := idx_some hi49
  refine LtK.put rfl rfl rfl (yx_idx el_28 rfl rfl hi49a hi49c (Rd.el ((hO11.join hS).row_rd hs4) he_enI hi49b)) ?_
  refine LtK.nil ?_
  refine wpR_seal [false, false, false, false, false, false, false, false, false, false, true] 10 ⟨by decide, by kernel_rfl, by kernel_rfl⟩ rfl rfl ?_
  try dsimp only [pickL]
  refine wpX_storeR3 (a' := x1.cap) (zs := (setI r19.caps (IntKind.wrap .i64 (x1.frm - 1)) x1.cap)) he_enI rfl rfl rfl CellsOf.int hS ps4 (Rd.el ((hO11.join hS).row_rd hs4) he_enI hi49b) hi49a hi49b rfl st0_1 (by kernel_rfl) rfl (fun w hS hB => ?_)
  have hi50b := setI_at (a := x1.cap) hi49a hi49b
  have hi50a := hi49a
  refine wpS_nil ?_
  refine QH_stepG (hB.sub (fun b _ h => by have h0 : b = b16 ∨ b = b14 := (by simpa using h); rcases h0 with h0 | h0; (rw [h0]; exact hS.neRow 5 4 rfl rfl); (rw [h0]; exact hS.neRow 6 4 rfl rfl))) ?_
  refine wpR_end (by kernel_rfl) ?_
  refine QH_end rfl RV.nil rfl ?_
  refine ⟨_, rfl, ?_⟩
  refine wpS_nil ?_
  refine QH_seq_k hK41 ?_
  refine wpC_seq_k (fun K hK51 => ?_)
  refine wpC_region ?_
  refine wpS_put rfl rfl rfl (yv_load_boxA ag_30 rfl (RW.here _) (hO11.join hS) hs6 trivial sg0_22) ?_
  refine wpS_store rfl rfl rfl CellsOf.agg hS ps5 st0_22 (by kernel_rfl) rfl (fun w hS hB => ?_)
  refine wpS_nil ?_
  refine QH_seq_k hK51 ?_
  refine wpC_ret ?_
  refine QH_ret rfl (RV.cell rfl (load_boxA ag_30 (hO11.join hS) hs5 sg0_22) RV.nil) rfl ?_
  refine ⟨_, rfl, ?_⟩
  have hB := hS.pure
  have hS := hO11.join hS
  dsimp only [List.cons_append, List.nil_append] at hS
  refine wpS_nil ?_
  refine QH_step hB ?_
  refine wpR_seal [false, false, false, false, false, false, true] 6 ⟨by decide, by kernel_rfl, by kernel_rfl⟩ rfl rfl ?_
  try dsimp only [pickL]
  refine wpS_store rfl rfl rfl CellsOf.agg hS ps7 st0_22 (by kernel_rfl) rfl (fun w hS hB => ?_)
  refine wpS_nil ?_
  refine QH_stepG (hB.sub (fun _ _ h => by simpa using h)) ?_
  refine wpR_end (by kernel_rfl) ?_
  refine QH_seq_k hK8 ?_
  refine wpC_ret ?_
  refine QH_ret rfl (RV.cell rfl (load_boxA ag_30 hS hs7 sg0_22) RV.nil) rfl ?_
  obtain rfl := Option.some.inj H
  have hS := hS.front 4 rfl
  have hS := hS.front 4 rfl
  have hS := hS.front 4 rfl
  have hS := hS.front 4 rfl
  have hS := hS.front 4 rfl
  replace hS := hS.cut 5
  exact ⟨A21, c22, A25, c26, A29, c30, A33, c34, A37, c38, by (repeat rw [(setI_len rfl)]); rfl, k23, k27, k31, k35, (k_set k39), hS.eqv (by (repeat rw [(setI_len rfl)]); rfl)⟩
theorem c_elect_Meet (x0 : Co) (x1 : Ms) (A0_ : Option Addr) (c0_ : Nat) (A1_ : Option Addr) (c1_ : Nat) (A2_ : Option Addr) (c2_ : Nat) (A3_ : Option Addr) (c3_ : Nat) (A4_ : Option Addr) (c4_ : Nat) (A5_ : Option Addr) (c5_ : Nat) (w0 : World) (s0_ : SlI w0 enE A0_ c0_ x0.tuple.log) (s1_ : SlI w0 enO A1_ c1_ x0.votes) (s2_ : SlI w0 enI A2_ c2_ x0.next) (s3_ : SlI w0 enI A3_ c3_ x0.mtch) (s4_ : SlI w0 enI A4_ c4_ x0.caps) (s5_ : SlW w0 enE A5_ c5_ x1.entries) {r : Co} (H : m_elect_Meet x0 x1 = some r) : Calls Try.prog 37 #[.agg #[.int .i64 x0.id, .int .i64 x0.n, .int .u8 x0.role, .int .i64 x0.binary, .int .i64 x0.tuple.snap.index, .int .i64 x0.tuple.snap.term, .int .i64 x0.tuple.snap.sum, .int .i64 x0.tuple.snap.level, .bool x0.tuple.snap.final, .slice A0_ x0.tuple.log.length c0_, .int .i64 x0.tuple.term, .int .i64 x0.tuple.vote, .int .i64 x0.commit, .int .i64 x0.applied.index, .int .i64 x0.applied.term, .int .i64 x0.applied.sum, .int .i64 x0.applied.level, .bool x0.applied.final, .slice A1_ x0.votes.length c1_, .slice A2_ x0.next.length c2_, .slice A3_ x0.mtch.length c3_, .slice A4_ x0.caps.length c4_], .agg #[.int .u8 x1.kind, .int .i64 x1.frm, .int .i64 x1.dst, .int .i64 x1.term, .int .i64 x1.cap, .int .i64 x1.last, .int .i64 x1.lastTerm, .int .i64 x1.commit, .bool x1.okk, .slice A5_ x1.entries.length c5_, .int .i64 x1.snap.index, .int .i64 x1.snap.term, .int .i64 x1.snap.sum, .int .i64 x1.snap.level, .bool x1.snap.final]] w0 fun e w' => ∃ (A0 : Option Addr) (c0 : Nat) (A1 : Option Addr) (c1 : Nat) (A2 : Option Addr) (c2 : Nat) (A3 : Option Addr) (c3 : Nat) (A4 : Option Addr) (c4 : Nat), e = .returned (.agg #[.int .i64 r.id, .int .i64 r.n, .int .u8 r.role, .int .i64 r.binary, .int .i64 r.tuple.snap.index, .int .i64 r.tuple.snap.term, .int .i64 r.tuple.snap.sum, .int .i64 r.tuple.snap.level, .bool r.tuple.snap.final, .slice A0 r.tuple.log.length c0, .int .i64 r.tuple.term, .int .i64 r.tuple.vote, .int .i64 r.commit, .int .i64 r.applied.index, .int .i64 r.applied.term, .int .i64 r.applied.sum, .int .i64 r.applied.level, .bool r.applied.final, .slice A1 r.votes.length c1, .slice A2 r.next.length c2, .slice A3 r.mtch.length c3, .slice A4 r.caps.length c4]) ∧ (r.tuple.log.length ≤ c0 ∧ c0 ≤ maxLen) ∧ (r.votes.length ≤ c1 ∧ c1 ≤ maxLen) ∧ (r.next.length ≤ c2 ∧ c2 ≤ maxLen) ∧ (r.mtch.length ≤ c3 ∧ c3 ≤ maxLen) ∧ (r.caps.length ≤ c4 ∧ c4 ≤ maxLen) ∧ St0 All w0 w' [.rd A0 (encs enE r.tuple.log), .row (.slice A1 r.votes.length c1) 4 1 r.votes.length (encs enO r.votes), .row (.slice A2 r.next.length c2) 3 1 r.next.length (encs enI r.next), .row (.slice A3 r.mtch.length c3) 3 1 r.mtch.length (encs enI r.mtch), .row (.slice A4 r.caps.length c4) 3 1 r.caps.length (encs enI r.caps)] := by
  unfold m_elect_Meet at H
  refine gw_enter2 Try.func37 rfl Try.ntmps37 rfl ?_
  have hS := St0.start All w0
  refine wpC_seq_k (fun K hK1 => ?_)
  refine wpC_region ?_
  refine wpS_box rfl rfl rfl CellsOf.agg hS (fun b2 w hS hB => ?_)
  refine wpS_box rfl rfl rfl CellsOf.agg hS (fun b4 w hS hB => ?_)
  refine wpS_alloc rfl rfl zc_30 hS (fun b6 w hS hB => ?_)
  refine wpS_nil ?_
  refine QH_seq_k hK1 ?_
  refine wpC_scope1 0 rfl ?_
  refine wpC_seq_k (fun K hK8 => ?_)
  refine wpC_region ?_
  refine wpS_put rfl rfl rfl (yv_load_boxA ag_30 rfl (RW.here _) hS hs2 trivial sg0_22) ?_
  obtain ⟨r9, hm10, H⟩ := bind_some H
  refine wpS_call rfl rfl rfl rfl (by kernel_rfl) rfl (c_msg_Own x0 A0_ c0_ A1_ c1_ A2_ c2_ A3_ c3_ A4_ c4_ _ (SlI.of_rd s0_.k (hS.rd0 s0_.rd) (hS.blk0 s0_.blk)) (SlI.of_rd s1_.k (hS.rd0 s1_.rd) (hS.blk0 s1_.blk)) (SlI.of_rd s2_.k (hS.rd0 s2_.rd) (hS.blk0 s2_.blk)) (SlI.of_rd s3_.k (hS.rd0 s3_.rd) (hS.blk0 s3_.blk)) (SlI.of_rd s4_.k (hS.rd0 s4_.rd) (hS.blk0 s4_.blk)) hm10) ?_
  rintro e w ⟨A11, c12, A15, c16, A19, c20, A23, c24, A27, c28, rfl, k13, k17, k21, k25, k29, hN⟩; refine ⟨_, rfl, ?_⟩; have hB := hN.pure; have hS := hS.join hN; clear hN
  refine wpS_store rfl rfl rfl CellsOf.agg hS ps7 st0_22 (by kernel_rfl) rfl (fun w hS hB => ?_)
  refine wpS_nil ?_
  refine QH_seq_k hK8 ?_
  refine wpC_seq_k (fun K hK31 => ?_)
  refine wpC_seq_k (fun K hK32 => ?_)
  refine wpC_region ?_
  refine wpS_put rfl rfl rfl (yv_load_boxA ag_30 rfl (RW.here _) hS hs7 trivial sg0_22) ?_
  refine wpS_put rfl rfl rfl (yv_load_boxA ag_36 rfl (RW.here _) hS hs6 trivial sg0_15) ?_
  obtain ⟨r33, hm34, H⟩ := bind_some H
  refine wpS_call rfl rfl rfl rfl (by kernel_rfl) rfl (c_elect_fits r9 x1 A11 c12 A15 c16 A19 c20 A23 c24 A27 c28 A5_ c5_ _ (SlI.of_rd k13 (hS.row_rd hs0) (hS.row_blk hs0)) (SlI.of_rd k17 (hS.row_rd hs1) (hS.row_blk hs1)) (SlI.of_rd k21 (hS.row_rd hs2) (hS.row_blk hs2)) (SlI.of_rd k25 (hS.row_rd hs3) (hS.row_blk hs3)) (SlI.of_rd k29 (hS.row_rd hs4) (hS.row_blk hs4)) (SlW.of_rd s5_.k (hS.rd0 s5_.rd)) hm34) ?_
  rintro e w ⟨rfl, hN⟩; refine ⟨_, rfl, ?_⟩; have hB := hN.pure; have hS := hS.join hN; clear hN
  refine wpS_put rfl rfl rfl (yv_not rfl) ?_
  refine wpS_nil ?_
  refine QH_seq_k hK32 ?_
  refine wpC_cond rfl (fun hb => ?_) (fun hb => ?_)
  · replace H := cond_t H hb
    refine wpC_goto ?_
    refine QH_then_goto ?_
    refine QH_ahead ?_
    refine wpC_seq_k (fun K hK36 => ?_)
    refine wpC_skip ?_
    refine QH_seq_k hK36 ?_
    refine wpC_seq_k (fun K hK37 => ?_)
    refine wpC_region ?_
    refine wpS_put rfl rfl rfl (yv_load_boxA ag_30 rfl (RW.here _) hS hs7 trivial sg0_22) ?_
    refine wpS_store rfl rfl rfl CellsOf.agg hS ps5 st0_22 (by kernel_rfl) rfl (fun w hS hB => ?_)
    refine wpS_nil ?_
    refine QH_seq_k hK37 ?_
    refine wpC_ret ?_
    refine QH_jmp_ret ?_
    refine QH_ret rfl (RV.cell rfl (load_boxA ag_30 hS hs5 sg0_22) RV.nil) rfl ?_
    obtain rfl := Option.some.inj H
    have hS := hS.front 4 rfl
    have hS := hS.front 4 rfl
    have hS := hS.front 4 rfl
    have hS := hS.front 4 rfl
    have hS := hS.front 4 rfl
    replace hS := hS.weak Weak.rowRd
    replace hS := hS.cut 5
    exact ⟨A11, c12, A15, c16, A19, c20, A23, c24, A27, c28, rfl, k13, k17, k21, k25, k29, hS⟩
  replace H := cond_f H hb
  refine wpC_skip ?_
  refine QH_seq_k hK31 ?_
  refine wpC_seq_k (fun K hK39 => ?_)
  refine wpC_seq_k (fun K hK40 => ?_)
  refine wpC_region ?_
  refine wpS_put rfl rfl rfl (yv_load_boxA ag_30 rfl (RW.here _) hS hs7 trivial sg0_22) ?_
  refine wpS_put rfl rfl rfl (yv_load_boxA ag_36 rfl (RW.here _) hS hs6 trivial sg0_15) ?_
  obtain ⟨r41, hm42, H⟩ := bind_some H
  refine wpS_call rfl rfl rfl rfl (by kernel_rfl) rfl (c_advert_Hear r9 x1 A11 c12 A15 c16 A19 c20 A23 c24 A27 c28 A5_ c5_ _ (SlI.of_rd k13 (hS.row_rd hs0) (hS.row_blk hs0)) (SlI.of_rd k17 (hS.row_rd hs1) (hS.row_blk hs1)) (SlI.of_rd k21 (hS.row_rd hs2) (hS.row_blk hs2)) (SlI.of_rd k25 (hS.row_rd hs3) (hS.row_blk hs3)) (SlI.of_rd k29 (hS.row_rd hs4) (hS.row_blk hs4)) (SlW.of_rd s5_.k (hS.rd0 s5_.rd)) hm42) ?_
  rintro e w ⟨A43, c44, A47, c48, A51, c52, A55, c56, A59, c60, rfl, k45, k49, k53, k57, k61, hN⟩; refine ⟨_, rfl, ?_⟩; have hB := hN.pure; have hS := hS.join hN; clear hN
  refine wpS_store rfl rfl rfl CellsOf.agg hS ps12 st0_22 (by kernel_rfl) rfl (fun w hS hB => ?_)
  refine wpS_nil ?_
  refine QH_seq_k hK40 ?_
  refine wpC_seq_k (fun K hK63 => ?_)
  refine wpC_region ?_
  refine wpS_put rfl rfl rfl (yv_fieldAddr fo_36_3 rfl) ?_
  refine wpS_put rfl rfl rfl (yv_load_box sc_3 rfl (RW.here _) hS hs11 trivial sg3_1) ?_
  refine wpS_put rfl rfl rfl (yv_fieldAddr fo_30_4 rfl) ?_
  refine wpS_put rfl rfl rfl (yv_fieldAddr fo_26_2 rfl) ?_
  refine wpS_put rfl rfl rfl (yv_load_box sc_3 rfl (RW.here _) hS hs12 trivial sg10_1) ?_
  refine wpS_put rfl rfl rfl (yv_gtr rfl rfl) ?_
  refine wpS_nil ?_
  refine QH_seq_k hK63 ?_
  refine wpC_cond rfl (fun hb => ?_) (fun hb => ?_)
  rotate_left
  · replace H := cond_f H hb
    refine wpC_skip ?_
    refine QH_seq_k hK39 ?_
    refine wpC_seq_k (fun K hK92 => ?_)
    refine wpC_label ?_
    refine QH_seq_k hK92 ?_
    refine wpC_seq_k (fun K hK93 => ?_)
    refine wpC_region ?_
    refine wpS_put rfl rfl rfl (yv_load_boxA ag_30 rfl (RW.here _) hS hs12 trivial sg0_22) ?_
    refine wpS_store rfl rfl rfl CellsOf.agg hS ps10 st0_22 (by kernel_rfl) rfl (fun w hS hB => ?_)
    refine wpS_nil ?_
    refine QH_seq_k hK93 ?_
    refine wpC_ret ?_
    refine QH_jmp_ret ?_
    refine QH_ret rfl (RV.cell rfl (load_boxA ag_30 hS hs10 sg0_22) RV.nil) rfl ?_
    obtain rfl := Option.some.inj H
    have hS := hS.front 4 rfl
    have hS := hS.front 4 rfl
    have hS := hS.front 4 rfl
    have hS := hS.front 4 rfl
    have hS := hS.front 4 rfl
    replace hS := hS.weak Weak.rowRd
    replace hS := hS.cut 5
    exact ⟨A43, c44, A47, c48, A51, c52, A55, c56, A59, c60, rfl, k45, k49, k53, k57, k61, hS⟩
  replace H := cond_t H hb
  refine wpC_region ?_
  refine wpS_put rfl rfl rfl (yv_load_boxA ag_30 rfl (RW.here _) hS hs12 trivial sg0_22) ?_
  refine wpS_put rfl rfl rfl (yv_fieldAddr fo_36_3 rfl) ?_
  refine wpS_put rfl rfl rfl (yv_load_box sc_3 rfl (RW.here _) hS hs11 trivial sg3_1) ?_
  refine wpS_in rfl rfl rfl rfl (by kernel_rfl) rfl ?_
  show Calls _ _ #[_, _, _, _, _] _ _
  refine gw_enter5 Try.func45 rfl Try.ntmps45 rfl ?_
  refine wpC_seq_k (fun K hK65 => ?_)
  refine wpC_region ?_
  refine wpS_box rfl rfl rfl CellsOf.agg hS (fun b66 w hS hB => ?_)
  refine wpS_alloc rfl rfl zc_30 hS (fun b68 w hS hB => ?_)
  refine wpS_nil ?_
  refine QH_seq_k hK65 ?_
  refine wpC_seq_k (fun K hK70 => ?_)
  refine wpC_region ?_
  refine wpS_put rfl rfl rfl (yv_fieldAddr fo_30_4 rfl) ?_
  refine wpS_put rfl rfl rfl (yv_load_boxA ag_26 rfl (RW.here _) hS hs1 trivial sg4_8) ?_
  refine wpS_quick 2 rfl ?_
  obtain ⟨r71, hm72, H⟩ := bind_some H
  refine wpS_call rfl rfl rfl rfl (by kernel_rfl) rfl (c_tuple_Hard r41.tuple x1.term 0 A43 c44 _ (SlI.of_rd k45 (hS.row_rd hs2) (hS.row_blk hs2)) hm72) ?_
  rintro e w ⟨A73, c74, rfl, k75, hN⟩; refine ⟨_, rfl, ?_⟩; have hB := hN.pure; have hS := hS.join hN; clear hN
  refine wpS_quick 1 rfl ?_
  refine wpS_put rfl rfl rfl (yv_extract rfl rfl) ?_
  refine wpS_put rfl rfl rfl (yv_extract rfl rfl) ?_
  refine wpS_put rfl rfl rfl (yv_fieldAddr fo_30_4 rfl) ?_
  refine wpS_store rfl rfl rfl CellsOf.agg hS ps2 st4_8 (by kernel_rfl) rfl (fun w hS hB => ?_)
  refine wpS_nil ?_
  refine QH_seq_k hK70 ?_
  refine wpC_seq_k (fun K hK77 => ?_)
  refine wpC_draw 8 [5, 7] (fun i b => (i = 5 → b ≠ b66) ∧ (i = 7 → b ≠ b66)) ⟨by kernel_rfl, by kernel_rfl⟩ hS (fun w hS hB => ?_)
  refine wpR_batch [true, true, true, false, true] (by decide +kernel) (by repeat (first | exact PF.body | exact PF.round | apply PF.then | apply PF.inBlock | apply PF.jump)) ?_
  refine LtK.put rfl rfl rfl (yv_move rfl) ?_
  refine LtK.put rfl rfl rfl (yv_fieldAddr fo_30_1 rfl) ?_
  refine LtK.put rfl rfl rfl (yv_load_box sc_3 rfl (RW.below _) hS hs2 trivial sg1_1) ?_
  refine LtK.put rfl rfl rfl (yv_fieldAddr fo_30_2 rfl) ?_
  refine LtK.nil ?_
  refine wpR_many [3, 5] ⟨by decide, by kernel_rfl⟩ rfl (.call [false, false, false, true] 3 rfl rfl rfl ?_ (.put [false, false, false, false, false, true] 5 rfl rfl rfl ?_ .nil))
  · try dsimp only [pickL]
    obtain ⟨l78, hm79, H⟩ := bind_some H
    refine wpX_make he_enO em_27 rfl (by decide) rfl rfl rfl rfl hS hm79 (fun A80 c81 w k82 hS hB => ?_)
    refine wpS_nil ?_
    refine QH_step hB ?_
    refine wpR_seal [false, false, false, false, false, true] 5 ⟨by decide, by kernel_rfl, by kernel_rfl⟩ rfl rfl ?_
    try dsimp only [pickL]
    refine wpS_store rfl rfl rfl CellsOf.int hS ps3 st2_1 (by kernel_rfl) rfl (fun w hS hB => ?_)
    refine wpS_nil ?_
    refine QH_stepG (hB.sub (fun _ _ h => by simpa using h)) ?_
    refine wpR_batch [false, false, false, false, false, false, true] (by decide +kernel) (by repeat (first | exact PF.body | exact PF.round | apply PF.then | apply PF.inBlock | apply PF.jump)) ?_
    refine LtK.put rfl rfl rfl (yv_fieldAddr fo_30_7 rfl) ?_
    refine LtK.nil ?_
    refine wpR_seal [false, false, false, false, false, false, false, true] 7 ⟨by decide, by kernel_rfl, by kernel_rfl⟩ rfl rfl ?_
    try dsimp only [pickL]
    refine wpS_store rfl rfl rfl CellsOf.slice hS ps3 st18_1 (by kernel_rfl) rfl (fun w hS hB => ?_)
    refine wpS_nil ?_
    refine QH_stepG (hB.sub (fun _ _ h => by simpa using h)) ?_
    refine wpR_end (by kernel_rfl) ?_
    refine QH_seq_k hK77 ?_
    refine wpC_seq_k (fun K hK84 => ?_)
    refine wpC_seq_k (fun K hK85 => ?_)
    refine wpC_region ?_
    refine wpS_quick 1 rfl ?_
    refine wpS_put rfl rfl rfl (yv_len el_28 rfl) ?_
    refine wpS_quick 1 rfl ?_
    refine wpS_nil ?_
    refine QH_seq_k hK85 ?_
    refine wpC_block ?_
    refine wpC_rounds 60 ?_
    refine wpC_seq_k (fun K hK86 => ?_)
    refine wpC_region ?_
    refine wpS_put rfl rfl rfl (yv_lss rfl rfl) ?_
    refine wpS_nil ?_
    refine QH_seq_k hK86 ?_
    refine wpC_seq_k (fun K hK87 => ?_)
    refine wpC_cond_f rfl rfl ?_
    refine wpC_exit ?_
    refine QH_then_exit ?_
    refine QH_then_exit ?_
    refine QH_block_hit ?_
    refine QH_seq_k hK84 ?_
    refine wpC_seq_k (fun K hK88 => ?_)
    refine wpC_region ?_
    refine wpS_put rfl rfl rfl (yv_load_boxA ag_30 rfl (RW.here _) hS hs3 trivial sg0_22) ?_
    refine wpS_store rfl rfl rfl CellsOf.agg hS ps2 st0_22 (by kernel_rfl) rfl (fun w hS hB => ?_)
    refine wpS_nil ?_
    refine QH_seq_k hK88 ?_
    refine wpC_ret ?_
    refine QH_ret rfl (RV.cell rfl (load_boxA ag_30 hS hs2 sg0_22) RV.nil) rfl ?_
    refine ⟨_, rfl, ?_⟩
    refine wpS_store rfl rfl rfl CellsOf.agg hS ps16 st0_22 (by kernel_rfl) rfl (fun w hS hB => ?_)
    refine wpS_nil ?_
    refine QH_seq_k hK39 ?_
    refine wpC_seq_k (fun K hK89 => ?_)
    refine wpC_label ?_
    refine QH_seq_k hK89 ?_
    refine wpC_seq_k (fun K hK90 => ?_)
    refine wpC_region ?_
    refine wpS_put rfl rfl rfl (yv_load_boxA ag_30 rfl (RW.here _) hS hs16 trivial sg0_22) ?_
    refine wpS_store rfl rfl rfl CellsOf.agg hS ps14 st0_22 (by kernel_rfl) rfl (fun w hS hB => ?_)
    refine wpS_nil ?_
    refine QH_seq_k hK90 ?_
    refine wpC_ret ?_
    refine QH_jmp_ret ?_
    refine QH_ret rfl (RV.cell rfl (load_boxA ag_30 hS hs14 sg0_22) RV.nil) rfl ?_
    obtain rfl := Option.some.inj H
    have hS := hS.front 8 rfl
    have hS := hS.front 8 rfl
    have hS := hS.front 8 rfl
    have hS := hS.front 3 rfl
    have hS := hS.front 4 rfl
    replace hS := hS.cut 5
    exact ⟨A73, c74, A80, c81, A51, c52, A55, c56, A59, c60, rfl, k75, k82, k53, k57, k61, hS⟩
  · try dsimp only [pickL]
    refine wpS_store rfl rfl rfl CellsOf.int hS ps2 st2_1 (by kernel_rfl) rfl (fun w hS hB => ?_)
    refine wpS_nil ?_
    refine QH_stepG (hB.sub (fun _ _ h => by simpa using h)) ?_
    refine wpR_call [false, false, false, true] 3 ⟨by decide, by kernel_rfl, by kernel_rfl⟩ rfl rfl ?_
    try dsimp only [pickL]
    obtain ⟨l78, hm79, H⟩ := bind_some H
    refine wpX_make he_enO em_27 rfl (by decide) rfl rfl rfl rfl hS hm79 (fun A80 c81 w k82 hS hB => ?_)
    refine wpS_nil ?_
    refine QH_step hB ?_
    refine wpR_batch [false, false, false, false, false, false, true] (by decide +kernel) (by repeat (first | exact PF.body | exact PF.round | apply PF.then | apply PF.inBlock | apply PF.jump)) ?_
    refine LtK.put rfl rfl rfl (yv_fieldAddr fo_30_7 rfl) ?_
    refine LtK.nil ?_
    refine wpR_seal [false, false, false, false, false, false, false, true] 7 ⟨by decide, by kernel_rfl, by kernel_rfl⟩ rfl rfl ?_
    try dsimp only [pickL]
    refine wpS_store rfl rfl rfl CellsOf.slice hS ps3 st18_1 (by kernel_rfl) rfl (fun w hS hB => ?_)
    refine wpS_nil ?_
    refine QH_stepG (hB.sub (fun _ _ h => by simpa using h)) ?_
    refine wpR_end (by kernel_rfl) ?_
    refine QH_seq_k hK77 ?_
    refine wpC_seq_k (fun K hK84 => ?_)
    refine wpC_seq_k (fun K hK85 => ?_)
    refine wpC_region ?_
    refine wpS_quick 1 rfl ?_
    refine wpS_put rfl rfl rfl (yv_len el_28 rfl) ?_
    refine wpS_quick 1 rfl ?_
    refine wpS_nil ?_
    refine QH_seq_k hK85 ?_
    refine wpC_block ?_
    refine wpC_rounds 60 ?_
    refine wpC_seq_k (fun K hK86 => ?_)
    refine wpC_region ?_
    refine wpS_put rfl rfl rfl (yv_lss rfl rfl) ?_
    refine wpS_nil ?_
    refine QH_seq_k hK86 ?_
    refine wpC_seq_k (fun K hK87 => ?_)
    refine wpC_cond_f rfl rfl ?_
    refine wpC_exit ?_
    refine QH_then_exit ?_
    refine QH_then_exit ?_
    refine QH_block_hit ?_
    refine QH_seq_k hK84 ?_
    refine wpC_seq_k (fun K hK88 => ?_)
    refine wpC_region ?_
    refine wpS_put rfl rfl rfl (yv_load_boxA ag_30 rfl (RW.here _) hS hs3 trivial sg0_22) ?_
    refine wpS_store rfl rfl rfl CellsOf.agg hS ps2 st0_22 (by kernel_rfl) rfl (fun w hS hB => ?_)
    refine wpS_nil ?_
    refine QH_seq_k hK88 ?_
    refine wpC_ret ?_
    refine QH_ret rfl (RV.cell rfl (load_boxA ag_30 hS hs2 sg0_22) RV.nil) rfl ?_
    refine ⟨_, rfl, ?_⟩
    refine wpS_store rfl rfl rfl CellsOf.agg hS ps16 st0_22 (by kernel_rfl) rfl (fun w hS hB => ?_)
    refine wpS_nil ?_
    refine QH_seq_k hK39 ?_
    refine wpC_seq_k (fun K hK89 => ?_)
    refine wpC_label ?_
    refine QH_seq_k hK89 ?_
    refine wpC_seq_k (fun K hK90 => ?_)
    refine wpC_region ?_
    refine wpS_put rfl rfl rfl (yv_load_boxA ag_30 rfl (RW.here _) hS hs16 trivial sg0_22) ?_
    refine wpS_store rfl rfl rfl CellsOf.agg hS ps14 st0_22 (by kernel_rfl) rfl (fun w hS hB => ?_)
    refine wpS_nil ?_
    refine QH_seq_k hK90 ?_
    refine wpC_ret ?_
    refine QH_jmp_ret ?_
    refine QH_ret rfl (RV.cell rfl (load_boxA ag_30 hS hs14 sg0_22) RV.nil) rfl ?_
    obtain rfl := Option.some.inj H
    have hS := hS.front 8 rfl
    have hS := hS.front 8 rfl
    have hS := hS.front 8 rfl
    have hS := hS.front 3 rfl
    have hS := hS.front 4 rfl
    replace hS := hS.cut 5
    exact ⟨A73, c74, A80, c81, A51, c52, A55, c56, A59, c60, rfl, k75, k82, k53, k57, k61, hS⟩
theorem c_elect_Newer (x0 : Co) (x1 : Int) (x2 : Int) (A0_ : Option Addr) (c0_ : Nat) (A1_ : Option Addr) (c1_ : Nat) (A2_ : Option Addr) (c2_ : Nat) (A3_ : Option Addr) (c3_ : Nat) (A4_ : Option Addr) (c4_ : Nat) (w0 : World) (s0_ : SlI w0 enE A0_ c0_ x0.tuple.log) (s1_ : SlI w0 enO A1_ c1_ x0.votes) (s2_ : SlI w0 enI A2_ c2_ x0.next) (s3_ : SlI w0 enI A3_ c3_ x0.mtch) (s4_ : SlI w0 enI A4_ c4_ x0.caps) {r : Bool} (H : m_elect_Newer x0 x1 x2 = some r) : Calls Try.prog 36 #[.agg #[.int .i64 x0.id, .int .i64 x0.n, .int .u8 x0.role, .int .i64 x0.binary, .int .i64 x0.tuple.snap.index, .int .i64 x0.tuple.snap.term, .int .i64 x0.tuple.snap.sum, .int .i64 x0.tuple.snap.level, .bool x0.tuple.snap.final, .slice A0_ x0.tuple.log.length c0_, .int .i64 x0.tuple.term, .int .i64 x0.tuple.vote, .int .i64 x0.commit, .int .i64 x0.applied.index, .int .i64 x0.applied.term, .int .i64 x0.applied.sum, .int .i64 x0.applied.level, .bool x0.applied.final, .slice A1_ x0.votes.length c1_, .slice A2_ x0.next.length c2_, .slice A3_ x0.mtch.length c3_, .slice A4_ x0.caps.length c4_], .int .i64 x1, .int .i64 x2] w0 fun e w' => e = .returned (.bool r) ∧ St0 All w0 w' [] := by
  unfold m_elect_Newer at H
  refine gw_enter3 Try.func36 rfl Try.ntmps36 rfl ?_
  have hS := St0.start All w0
  refine wpC_seq_k (fun K hK1 => ?_)
  refine wpC_region ?_
  refine wpS_box rfl rfl rfl CellsOf.agg hS (fun b2 w hS hB => ?_)
  refine wpS_quick 1 rfl ?_
  refine wpS_nil ?_
  refine QH_seq_k hK1 ?_
  refine wpC_seq_k (fun K hK4 => ?_)
  refine wpC_seq_k (fun K hK5 => ?_)
  refine wpC_region ?_
  refine wpS_put rfl rfl rfl (yv_load_boxA ag_30 rfl (RW.here _) hS hs0 trivial sg0_22) ?_
  obtain ⟨r6, hm7, H⟩ := bind_some H
  refine wpS_call rfl rfl rfl rfl (by kernel_rfl) rfl (c_msg_Right x0 A0_ c0_ A1_ c1_ A2_ c2_ A3_ c3_ A4_ c4_ _ (SlI.of_rd s0_.k (hS.rd0 s0_.rd) (hS.blk0 s0_.blk)) (SlI.of_rd s1_.k (hS.rd0 s1_.rd) (hS.blk0 s1_.blk)) (SlI.of_rd s2_.k (hS.rd0 s2_.rd) (hS.blk0 s2_.blk)) (SlI.of_rd s3_.k (hS.rd0 s3_.rd) (hS.blk0 s3_.blk)) (SlI.of_rd s4_.k (hS.rd0 s4_.rd) (hS.blk0 s4_.blk)) hm7) ?_
  rintro e w ⟨rfl, hN⟩; refine ⟨_, rfl, ?_⟩; have hB := hN.pure; have hS := hS.join hN; clear hN
  refine wpS_put rfl rfl rfl (yv_not rfl) ?_
  refine wpS_nil ?_
  refine QH_seq_k hK5 ?_
  refine wpC_cond rfl (fun hb => ?_) (fun hb => ?_)
  · replace H := cond_t H hb
    refine wpC_seq_k (fun K hK9 => ?_)
    refine wpC_region ?_
    refine wpS_quick 1 rfl ?_
    refine wpS_nil ?_
    refine QH_seq_k hK9 ?_
    refine wpC_ret ?_
    refine QH_then_ret ?_
    refine QH_ret rfl (RV.tmp rfl RV.nil) rfl ?_
    obtain rfl := Option.some.inj H
    replace hS := hS.cut 0
    exact ⟨rfl, hS⟩
  replace H := cond_f H hb
  refine wpC_skip ?_
  refine QH_seq_k hK4 ?_
  refine wpC_seq_k (fun K hK11 => ?_)
  refine wpC_region ?_
  refine wpS_put rfl rfl rfl (yv_load_boxA ag_30 rfl (RW.here _) hS hs0 trivial sg0_22) ?_
  obtain ⟨r12, hm13, H⟩ := bind_some H
  refine wpS_call rfl rfl rfl rfl (by kernel_rfl) rfl (c_elect_end x0 A0_ c0_ A1_ c1_ A2_ c2_ A3_ c3_ A4_ c4_ _ (SlI.of_rd s0_.k (hS.rd0 s0_.rd) (hS.blk0 s0_.blk)) (SlI.of_rd s1_.k (hS.rd0 s1_.rd) (hS.blk0 s1_.blk)) (SlI.of_rd s2_.k (hS.rd0 s2_.rd) (hS.blk0 s2_.blk)) (SlI.of_rd s3_.k (hS.rd0 s3_.rd) (hS.blk0 s3_.blk)) (SlI.of_rd s4_.k (hS.rd0 s4_.rd) (hS.blk0 s4_.blk)) hm13) ?_
  rintro e w ⟨rfl, hN⟩; refine ⟨_, rfl, ?_⟩; have hB := hN.pure; have hS := hS.join hN; clear hN
  refine wpS_quick 1 rfl ?_
  refine wpS_put rfl rfl rfl (yv_extract rfl rfl) ?_
  refine wpS_put rfl rfl rfl (yv_extract rfl rfl) ?_
  refine wpS_quick 2 rfl ?_
  refine wpS_nil ?_
  refine QH_seq_k hK11 ?_
  refine wpC_seq_k (fun K hK14 => ?_)
  refine wpC_seq_k (fun K hK15 => ?_)
  refine wpC_region ?_
  refine wpS_quick 2 rfl ?_
  refine wpS_put rfl rfl rfl (yv_neq rfl rfl) ?_
  refine wpS_nil ?_
  refine QH_seq_k hK15 ?_
  refine wpC_cond rfl (fun hb => ?_) (fun hb => ?_)
  · replace H := cond_t H hb
    refine wpC_seq_k (fun K hK17 => ?_)
    refine wpC_region ?_
    refine wpS_quick 2 rfl ?_
    refine wpS_put rfl rfl rfl (yv_gtr rfl rfl) ?_
    refine wpS_quick 1 rfl ?_
    refine wpS_nil ?_
    refine QH_seq_k hK17 ?_
    refine wpC_ret ?_
    refine QH_then_ret ?_
    refine QH_ret rfl (RV.tmp rfl RV.nil) rfl ?_
    obtain rfl := Option.some.inj H
    replace hS := hS.cut 0
    exact ⟨rfl, hS⟩
  replace H := cond_f H hb
  refine wpC_skip ?_
  refine QH_seq_k hK14 ?_
  refine wpC_seq_k (fun K hK19 => ?_)
  refine wpC_region ?_
  refine wpS_quick 2 rfl ?_
  refine wpS_put rfl rfl rfl (yv_geq rfl rfl) ?_
  refine wpS_quick 1 rfl ?_
  refine wpS_nil ?_
  refine QH_seq_k hK19 ?_
  refine wpC_ret ?_
  refine QH_ret rfl (RV.tmp rfl RV.nil) rfl ?_
  obtain rfl := Option.some.inj H
  replace hS := hS.cut 0
  exact ⟨rfl, hS⟩
theorem c_msg_Back (x0 : Co) (x1 : Ms) (x2 : Int) (x3 : Bool) (x4 : Int) (A0_ : Option Addr) (c0_ : Nat) (A1_ : Option Addr) (c1_ : Nat) (A2_ : Option Addr) (c2_ : Nat) (A3_ : Option Addr) (c3_ : Nat) (A4_ : Option Addr) (c4_ : Nat) (A5_ : Option Addr) (c5_ : Nat) (w0 : World) (s0_ : SlI w0 enE A0_ c0_ x0.tuple.log) (s1_ : SlI w0 enO A1_ c1_ x0.votes) (s2_ : SlI w0 enI A2_ c2_ x0.next) (s3_ : SlI w0 enI A3_ c3_ x0.mtch) (s4_ : SlI w0 enI A4_ c4_ x0.caps) (s5_ : SlW w0 enE A5_ c5_ x1.entries) {r : Ms} (H : m_msg_Back x0 x1 x2 x3 x4 = some r) : Calls Try.prog 50 #[.agg #[.int .i64 x0.id, .int .i64 x0.n, .int .u8 x0.role, .int .i64 x0.binary, .int .i64 x0.tuple.snap.index, .int .i64 x0.tuple.snap.term, .int .i64 x0.tuple.snap.sum, .int .i64 x0.tuple.snap.level, .bool x0.tuple.snap.final, .slice A0_ x0.tuple.log.length c0_, .int .i64 x0.tuple.term, .int .i64 x0.tuple.vote, .int .i64 x0.commit, .int .i64 x0.applied.index, .int .i64 x0.applied.term, .int .i64 x0.applied.sum, .int .i64 x0.applied.level, .bool x0.applied.final, .slice A1_ x0.votes.length c1_, .slice A2_ x0.next.length c2_, .slice A3_ x0.mtch.length c3_, .slice A4_ x0.caps.length c4_], .agg #[.int .u8 x1.kind, .int .i64 x1.frm, .int .i64 x1.dst, .int .i64 x1.term, .int .i64 x1.cap, .int .i64 x1.last, .int .i64 x1.lastTerm, .int .i64 x1.commit, .bool x1.okk, .slice A5_ x1.entries.length c5_, .int .i64 x1.snap.index, .int .i64 x1.snap.term, .int .i64 x1.snap.sum, .int .i64 x1.snap.level, .bool x1.snap.final], .int .u8 x2, .bool x3, .int .i64 x4] w0 fun e w' => ∃ (A0 : Option Addr) (c0 : Nat), e = .returned (.agg #[.int .u8 r.kind, .int .i64 r.frm, .int .i64 r.dst, .int .i64 r.term, .int .i64 r.cap, .int .i64 r.last, .int .i64 r.lastTerm, .int .i64 r.commit, .bool r.okk, .slice A0 r.entries.length c0, .int .i64 r.snap.index, .int .i64 r.snap.term, .int .i64 r.snap.sum, .int .i64 r.snap.level, .bool r.snap.final]) ∧ (r.entries.length ≤ c0 ∧ c0 ≤ maxLen) ∧ St0 All w0 w' [.rd A0 (encs enE r.entries)] := by
  unfold m_msg_Back at H
  refine gw_enter5 Try.func50 rfl Try.ntmps50 rfl ?_
  have hS := St0.start All w0
  refine wpC_seq_k (fun K hK1 => ?_)
  refine wpC_region ?_
  refine wpS_box rfl rfl rfl CellsOf.agg hS (fun b2 w hS hB => ?_)
  refine wpS_box rfl rfl rfl CellsOf.agg hS (fun b4 w hS hB => ?_)
  refine wpS_alloc rfl rfl zc_36 hS (fun b6 w hS hB => ?_)
  refine wpS_nil ?_
  refine QH_seq_k hK1 ?_
  refine wpC_seq_k (fun K hK8 => ?_)
  refine wpC_region ?_
  refine wpS_quick 1 rfl ?_
  refine wpS_put rfl rfl rfl (yv_fieldAddr fo_30_0 rfl) ?_
  refine wpS_put rfl rfl rfl (yv_load_box sc_3 rfl (RW.here _) hS hs2 trivial sg0_1) ?_
  refine wpS_put rfl rfl rfl (yv_fieldAddr fo_36_1 rfl) ?_
  refine wpS_put rfl rfl rfl (yv_load_box sc_3 rfl (RW.here _) hS hs1 trivial sg1_1) ?_
  refine wpS_put rfl rfl rfl (yv_fieldAddr fo_30_4 rfl) ?_
  refine wpS_put rfl rfl rfl (yv_fieldAddr fo_26_2 rfl) ?_
  refine wpS_put rfl rfl rfl (yv_load_box sc_3 rfl (RW.here _) hS hs2 trivial sg10_1) ?_
  refine wpS_put rfl rfl rfl (yv_fieldAddr fo_30_3 rfl) ?_
  refine wpS_put rfl rfl rfl (yv_load_box sc_3 rfl (RW.here _) hS hs2 trivial sg3_1) ?_
  refine wpS_quick 2 rfl ?_
  refine wpS_put rfl rfl rfl (yv_build (cells := [.int .u8 x2, .int .i64 x0.id, .int .i64 x1.frm, .int .i64 x0.tuple.term, .int .i64 x0.binary, .int .i64 x4, .int .i64 0, .int .i64 0, .bool x3, .slice none 0 0, .int .i64 0, .int .i64 0, .int .i64 0, .int .i64 0, .bool false]) rfl (by kernel_rfl)) ?_
  refine wpS_store rfl rfl rfl CellsOf.agg hS ps0 st0_15 (by kernel_rfl) rfl (fun w hS hB => ?_)
  refine wpS_nil ?_
  refine QH_seq_k hK8 ?_
  refine wpC_ret ?_
  refine QH_ret rfl (RV.cell rfl (load_boxA ag_36 hS hs0 sg0_15) RV.nil) rfl ?_
  obtain rfl := Option.some.inj H
  have hS := hS.nilRd
  replace hS := hS.cut 1
  exact ⟨none, 0, rfl, ⟨Nat.le_refl _, Nat.zero_le _⟩, hS⟩
theorem c_elect_Vote (x0 : Co) (x1 : Ms) (A0_ : Option Addr) (c0_ : Nat) (A1_ : Option Addr) (c1_ : Nat) (A2_ : Option Addr) (c2_ : Nat) (A3_ : Option Addr) (c3_ : Nat) (A4_ : Option Addr) (c4_ : Nat) (A5_ : Option Addr) (c5_ : Nat) (w0 : World) (s0_ : SlI w0 enE A0_ c0_ x0.tuple.log) (s1_ : SlI w0 enO A1_ c1_ x0.votes) (s2_ : SlI w0 enI A2_ c2_ x0.next) (s3_ : SlI w0 enI A3_ c3_ x0.mtch) (s4_ : SlI w0 enI A4_ c4_ x0.caps) (s5_ : SlW w0 enE A5_ c5_ x1.entries) {r : Co × List Ms} (H : m_elect_Vote x0 x1 = some r) : Calls Try.prog 18 #[.agg #[.int .i64 x0.id, .int .i64 x0.n, .int .u8 x0.role, .int .i64 x0.binary, .int .i64 x0.tuple.snap.index, .int .i64 x0.tuple.snap.term, .int .i64 x0.tuple.snap.sum, .int .i64 x0.tuple.snap.level, .bool x0.tuple.snap.final, .slice A0_ x0.tuple.log.length c0_, .int .i64 x0.tuple.term, .int .i64 x0.tuple.vote, .int .i64 x0.commit, .int .i64 x0.applied.index, .int .i64 x0.applied.term, .int .i64 x0.applied.sum, .int .i64 x0.applied.level, .bool x0.applied.final, .slice A1_ x0.votes.length c1_, .slice A2_ x0.next.length c2_, .slice A3_ x0.mtch.length c3_, .slice A4_ x0.caps.length c4_], .agg #[.int .u8 x1.kind, .int .i64 x1.frm, .int .i64 x1.dst, .int .i64 x1.term, .int .i64 x1.cap, .int .i64 x1.last, .int .i64 x1.lastTerm, .int .i64 x1.commit, .bool x1.okk, .slice A5_ x1.entries.length c5_, .int .i64 x1.snap.index, .int .i64 x1.snap.term, .int .i64 x1.snap.sum, .int .i64 x1.snap.level, .bool x1.snap.final]] w0 fun e w' => ∃ (A0 : Option Addr) (c0 : Nat) (A1 : Option Addr) (c1 : Nat) (A2 : Option Addr) (c2 : Nat) (A3 : Option Addr) (c3 : Nat) (A4 : Option Addr) (c4 : Nat) (A5 : Option Addr) (c5 : Nat) (q5 : List Mq), e = .returned (.tuple #[.agg #[.int .i64 r.1.id, .int .i64 r.1.n, .int .u8 r.1.role, .int .i64 r.1.binary, .int .i64 r.1.tuple.snap.index, .int .i64 r.1.tuple.snap.term, .int .i64 r.1.tuple.snap.sum, .int .i64 r.1.tuple.snap.level, .bool r.1.tuple.snap.final, .slice A0 r.1.tuple.log.length c0, .int .i64 r.1.tuple.term, .int .i64 r.1.tuple.vote, .int .i64 r.1.commit, .int .i64 r.1.applied.index, .int .i64 r.1.applied.term, .int .i64 r.1.applied.sum, .int .i64 r.1.applied.level, .bool r.1.applied.final, .slice A1 r.1.votes.length c1, .slice A2 r.1.next.length c2, .slice A3 r.1.mtch.length c3, .slice A4 r.1.caps.length c4], .slice A5 r.2.length c5]) ∧ (r.1.tuple.log.length ≤ c0 ∧ c0 ≤ maxLen) ∧ (r.1.votes.length ≤ c1 ∧ c1 ≤ maxLen) ∧ (r.1.next.length ≤ c2 ∧ c2 ≤ maxLen) ∧ (r.1.mtch.length ≤ c3 ∧ c3 ≤ maxLen) ∧ (r.1.caps.length ≤ c4 ∧ c4 ≤ maxLen) ∧ (r.2.length ≤ c5 ∧ c5 ≤ maxLen) ∧ q5.map Mq.m = r.2 ∧ (∀ y ∈ q5, okQ y) ∧ St0 All w0 w' [.rd A0 (encs enE r.1.tuple.log), .row (.slice A1 r.1.votes.length c1) 4 1 r.1.votes.length (encs enO r.1.votes), .row (.slice A2 r.1.next.length c2) 3 1 r.1.next.length (encs enI r.1.next), .row (.slice A3 r.1.mtch.length c3) 3 1 r.1.mtch.length (encs enI r.1.mtch), .row (.slice A4 r.1.caps.length c4) 3 1 r.1.caps.length (encs enI r.1.caps), .rd A5 (encs enQ q5), .rds (q5.map subQ)] := by
  unfold m_elect_Vote at H
  refine gw_enter2 Try.func18 rfl Try.ntmps18 rfl ?_
  have hS := St0.start All w0
  refine wpC_seq_k (fun K hK1 => ?_)
  refine wpC_region ?_
  refine wpS_box rfl rfl rfl CellsOf.agg hS (fun b2 w hS hB => ?_)
  refine wpS_box rfl rfl rfl CellsOf.agg hS (fun b4 w hS hB => ?_)
  refine wpS_alloc rfl rfl zc_30 hS (fun b6 w hS hB => ?_)
  refine wpS_quick 1 rfl ?_
  refine wpS_nil ?_
  refine QH_seq_k hK1 ?_
  refine wpC_seq_k (fun K hK8 => ?_)
  refine wpC_seq_k (fun K hK9 => ?_)
  refine wpC_region ?_
  refine wpS_put rfl rfl rfl (yv_load_boxA ag_30 rfl (RW.here _) hS hs2 trivial sg0_22) ?_
  refine wpS_put rfl rfl rfl (yv_load_boxA ag_36 rfl (RW.here _) hS hs1 trivial sg0_15) ?_
  obtain ⟨r10, hm11, H⟩ := bind_some H
  refine wpS_call rfl rfl rfl rfl (by kernel_rfl) rfl (c_elect_fits x0 x1 A0_ c0_ A1_ c1_ A2_ c2_ A3_ c3_ A4_ c4_ A5_ c5_ _ (SlI.of_rd s0_.k (hS.rd0 s0_.rd) (hS.blk0 s0_.blk)) (SlI.of_rd s1_.k (hS.rd0 s1_.rd) (hS.blk0 s1_.blk)) (SlI.of_rd s2_.k (hS.rd0 s2_.rd) (hS.blk0 s2_.blk)) (SlI.of_rd s3_.k (hS.rd0 s3_.rd) (hS.blk0 s3_.blk)) (SlI.of_rd s4_.k (hS.rd0 s4_.rd) (hS.blk0 s4_.blk)) (SlW.of_rd s5_.k (hS.rd0 s5_.rd)) hm11) ?_
  rintro e w ⟨rfl, hN⟩; refine ⟨_, rfl, ?_⟩; have hB := hN.pure; have hS := hS.join hN; clear hN
  refine wpS_put rfl rfl rfl (yv_not rfl) ?_
  refine wpS_quick 1 rfl ?_
  refine wpS_case 12 rfl (fun hb => ?_) (fun hb => ?_)
  · replace H := cond_t H hb
    refine wpS_quick 4 rfl ?_
    refine wpS_nil ?_
    refine QH_seq_k hK9 ?_
    refine wpC_cond_t rfl rfl ?_
    refine wpC_seq_k (fun K hK13 => ?_)
    refine wpC_region ?_
    refine wpS_put rfl rfl rfl (yv_load_boxA ag_30 rfl (RW.here _) hS hs2 trivial sg0_22) ?_
    obtain ⟨r14, hm15, H⟩ := bind_some H
    refine wpS_call rfl rfl rfl rfl (by kernel_rfl) rfl (c_msg_Own x0 A0_ c0_ A1_ c1_ A2_ c2_ A3_ c3_ A4_ c4_ _ (SlI.of_rd s0_.k (hS.rd0 s0_.rd) (hS.blk0 s0_.blk)) (SlI.of_rd s1_.k (hS.rd0 s1_.rd) (hS.blk0 s1_.blk)) (SlI.of_rd s2_.k (hS.rd0 s2_.rd) (hS.blk0 s2_.blk)) (SlI.of_rd s3_.k (hS.rd0 s3_.rd) (hS.blk0 s3_.blk)) (SlI.of_rd s4_.k (hS.rd0 s4_.rd) (hS.blk0 s4_.blk)) hm15) ?_
    rintro e w ⟨A16, c17, A20, c21, A24, c25, A28, c29, A32, c33, rfl, k18, k22, k26, k30, k34, hN⟩; refine ⟨_, rfl, ?_⟩; have hB := hN.pure; have hS := hS.join hN; clear hN
    refine wpS_store rfl rfl rfl CellsOf.agg hS ps5 st0_22 (by kernel_rfl) rfl (fun w hS hB => ?_)
    refine wpS_quick 1 rfl ?_
    refine wpS_nil ?_
    refine QH_seq_k hK13 ?_
    refine wpC_ret ?_
    refine QH_then_ret ?_
    refine QH_ret rfl (RV.cell rfl (load_boxA ag_30 hS hs5 sg0_22) (RV.tmp rfl RV.nil)) rfl ?_
    obtain rfl := Option.some.inj H
    have hS := hS.nilRds
    replace hS := hS.nilRd
    have hS := hS.front 6 rfl
    have hS := hS.front 6 rfl
    have hS := hS.front 6 rfl
    have hS := hS.front 6 rfl
    have hS := hS.front 6 rfl
    replace hS := hS.weak Weak.rowRd
    replace hS := hS.cut 7
    exact ⟨A16, c17, A20, c21, A24, c25, A28, c29, A32, c33, none, 0, ([] : List Mq), rfl, k18, k22, k26, k30, k34, ⟨Nat.le_refl _, Nat.zero_le _⟩, rfl, okq_nil, hS⟩
  replace H := cond_f H hb
  refine wpS_put rfl rfl rfl (yv_fieldAddr fo_36_0 rfl) ?_
  refine wpS_put rfl rfl rfl (yv_load_box sc_5 rfl (RW.here _) hS hs1 trivial sg0_1) ?_
  refine wpS_put rfl rfl rfl (yv_neq rfl rfl) ?_
  refine wpS_quick 1 rfl ?_
  refine wpS_nil ?_
  refine QH_seq_k hK9 ?_
  refine wpC_cond rfl (fun hb => ?_) (fun hb => ?_)
  · replace H := cond_t H hb
    refine wpC_seq_k (fun K hK38 => ?_)
    refine wpC_region ?_
    refine wpS_put rfl rfl rfl (yv_load_boxA ag_30 rfl (RW.here _) hS hs2 trivial sg0_22) ?_
    obtain ⟨r39, hm40, H⟩ := bind_some H
    refine wpS_call rfl rfl rfl rfl (by kernel_rfl) rfl (c_msg_Own x0 A0_ c0_ A1_ c1_ A2_ c2_ A3_ c3_ A4_ c4_ _ (SlI.of_rd s0_.k (hS.rd0 s0_.rd) (hS.blk0 s0_.blk)) (SlI.of_rd s1_.k (hS.rd0 s1_.rd) (hS.blk0 s1_.blk)) (SlI.of_rd s2_.k (hS.rd0 s2_.rd) (hS.blk0 s2_.blk)) (SlI.of_rd s3_.k (hS.rd0 s3_.rd) (hS.blk0 s3_.blk)) (SlI.of_rd s4_.k (hS.rd0 s4_.rd) (hS.blk0 s4_.blk)) hm40) ?_
    rintro e w ⟨A41, c42, A45, c46, A49, c50, A53, c54, A57, c58, rfl, k43, k47, k51, k55, k59, hN⟩; refine ⟨_, rfl, ?_⟩; have hB := hN.pure; have hS := hS.join hN; clear hN
    refine wpS_store rfl rfl rfl CellsOf.agg hS ps5 st0_22 (by kernel_rfl) rfl (fun w hS hB => ?_)
    refine wpS_quick 1 rfl ?_
    refine wpS_nil ?_
    refine QH_seq_k hK38 ?_
    refine wpC_ret ?_
    refine QH_then_ret ?_
    refine QH_ret rfl (RV.cell rfl (load_boxA ag_30 hS hs5 sg0_22) (RV.tmp rfl RV.nil)) rfl ?_
    obtain rfl := Option.some.inj H
    have hS := hS.nilRds
    replace hS := hS.nilRd
    have hS := hS.front 6 rfl
    have hS := hS.front 6 rfl
    have hS := hS.front 6 rfl
    have hS := hS.front 6 rfl
    have hS := hS.front 6 rfl
    replace hS := hS.weak Weak.rowRd
    replace hS := hS.cut 7
    exact ⟨A41, c42, A45, c46, A49, c50, A53, c54, A57, c58, none, 0, ([] : List Mq), rfl, k43, k47, k51, k55, k59, ⟨Nat.le_refl _, Nat.zero_le _⟩, rfl, okq_nil, hS⟩
  replace H := cond_f H hb
  refine wpC_skip ?_
  refine QH_seq_k hK8 ?_
  refine wpC_seq_k (fun K hK62 => ?_)
  refine wpC_region ?_
  refine wpS_put rfl rfl rfl (yv_load_boxA ag_30 rfl (RW.here _) hS hs2 trivial sg0_22) ?_
  refine wpS_put rfl rfl rfl (yv_load_boxA ag_36 rfl (RW.here _) hS hs1 trivial sg0_15) ?_
  obtain ⟨r63, hm64, H⟩ := bind_some H
  refine wpS_call rfl rfl rfl rfl (by kernel_rfl) rfl (c_elect_Meet x0 x1 A0_ c0_ A1_ c1_ A2_ c2_ A3_ c3_ A4_ c4_ A5_ c5_ _ (SlI.of_rd s0_.k (hS.rd0 s0_.rd) (hS.blk0 s0_.blk)) (SlI.of_rd s1_.k (hS.rd0 s1_.rd) (hS.blk0 s1_.blk)) (SlI.of_rd s2_.k (hS.rd0 s2_.rd) (hS.blk0 s2_.blk)) (SlI.of_rd s3_.k (hS.rd0 s3_.rd) (hS.blk0 s3_.blk)) (SlI.of_rd s4_.k (hS.rd0 s4_.rd) (hS.blk0 s4_.blk)) (SlW.of_rd s5_.k (hS.rd0 s5_.rd)) hm64) ?_
  rintro e w ⟨A65, c66, A69, c70, A73, c74, A77, c78, A81, c82, rfl, k67, k71, k75, k79, k83, hN⟩; refine ⟨_, rfl, ?_⟩; have hB := hN.pure; have hS := hS.join hN; clear hN
  refine wpS_store rfl rfl rfl CellsOf.agg hS ps7 st0_22 (by kernel_rfl) rfl (fun w hS hB => ?_)
  refine wpS_nil ?_
  refine QH_seq_k hK62 ?_
  refine wpC_seq_k (fun K hK85 => ?_)
  refine wpC_region ?_
  refine wpS_put rfl rfl rfl (yv_fieldAddr fo_30_4 rfl) ?_
  refine wpS_put rfl rfl rfl (yv_fieldAddr fo_26_3 rfl) ?_
  refine wpS_put rfl rfl rfl (yv_load_box sc_3 rfl (RW.here _) hS hs7 trivial sg11_1) ?_
  refine wpS_put rfl rfl rfl (yv_eql rfl rfl) ?_
  refine wpS_quick 1 rfl ?_
  refine wpS_case 26 rfl (fun hb => ?_) (fun hb => ?_)
  · replace H := cond_t H hb
    refine wpS_quick 8 rfl ?_
    refine wpS_nil ?_
    refine QH_seq_k hK85 ?_
    refine wpC_seq_k (fun K hK87 => ?_)
    refine wpC_region ?_
    refine wpS_quick 2 rfl ?_
    refine wpS_put rfl rfl rfl (yv_fieldAddr fo_30_2 rfl) ?_
    refine wpS_put rfl rfl rfl (yv_load_box sc_5 rfl (RW.here _) hS hs7 trivial sg2_1) ?_
    refine wpS_put rfl rfl rfl (yv_eql rfl rfl) ?_
    refine wpS_quick 2 rfl ?_
    refine wpS_case 40 rfl (fun hb => ?_) (fun hb => ?_)
    rotate_left
    · replace H := cond_f H hb
      refine wpS_quick 16 rfl ?_
      refine wpS_nil ?_
      refine QH_seq_k hK87 ?_
      refine wpC_seq_k (fun K hK133 => ?_)
      refine wpC_seq_k (fun K hK134 => ?_)
      refine wpC_region ?_
      refine wpS_quick 1 rfl ?_
      refine wpS_nil ?_
      refine QH_seq_k hK134 ?_
      refine wpC_cond_f rfl rfl ?_
      refine wpC_skip ?_
      refine QH_seq_k hK133 ?_
      refine wpC_seq_k (fun K hK135 => ?_)
      refine wpC_draw 8 [6] (fun i b => (i = 6 → b ≠ b6)) ⟨by kernel_rfl, by kernel_rfl⟩ hS (fun w hS hB => ?_)
      refine wpR_batch [true, true, true, true] (by decide +kernel) (by repeat (first | exact PF.body | exact PF.round | apply PF.then | apply PF.inBlock | apply PF.jump)) ?_
      refine LtK.put rfl rfl rfl (yv_load_boxA ag_30 rfl (RW.below _) hS hs7 trivial sg0_22) ?_
      refine LtK.put rfl rfl rfl (yv_load_boxA ag_30 rfl (RW.below _) hS hs7 trivial sg0_22) ?_
      refine LtK.put rfl rfl rfl (yv_load_boxA ag_36 rfl (RW.below _) hS hs6 trivial sg0_15) ?_
      refine LtK.put rfl rfl rfl (yv_move rfl) ?_
      refine LtK.nil ?_
      refine wpR_call [false, false, false, false, true] 4 ⟨by decide, by kernel_rfl, by kernel_rfl⟩ rfl rfl ?_
      try dsimp only [pickL]
      obtain ⟨r136, hm137, H⟩ := bind_some H
      refine wpS_call rfl rfl rfl rfl (by kernel_rfl) rfl (c_msg_Back r63 x1 2 false 0 A65 c66 A69 c70 A73 c74 A77 c78 A81 c82 A5_ c5_ _ (SlI.of_rd k67 (hS.rd hs0) (hS.rd_blk hs0)) (SlI.of_rd k71 (hS.row_rd hs1) (hS.row_blk hs1)) (SlI.of_rd k75 (hS.row_rd hs2) (hS.row_blk hs2)) (SlI.of_rd k79 (hS.row_rd hs3) (hS.row_blk hs3)) (SlI.of_rd k83 (hS.row_rd hs4) (hS.row_blk hs4)) (SlW.of_rd s5_.k (hS.rd0 s5_.rd)) hm137) ?_
      rintro e w ⟨A138, c139, rfl, k140, hN⟩; refine ⟨_, rfl, ?_⟩; have hB := hN.pure; have hS := hS.join hN; clear hN
      refine wpS_nil ?_
      refine QH_step hB ?_
      refine wpR_many [5, 6] ⟨by decide, by kernel_rfl⟩ rfl (.call [false, false, false, false, false, true] 5 rfl rfl rfl ?_ (.put [false, false, false, false, false, false, true] 6 rfl rfl rfl ?_ .nil))
      · try dsimp only [pickL]
        refine wpS_sliceM (ps := [(0, .tmp 72)]) [.int .u8 r136.kind, .int .i64 r136.frm, .int .i64 r136.dst, .int .i64 r136.term, .int .i64 r136.cap, .int .i64 r136.last, .int .i64 r136.lastTerm, .int .i64 r136.commit, .bool r136.okk, .slice A138 r136.entries.length c139, .int .i64 r136.snap.index, .int .i64 r136.snap.term, .int .i64 r136.snap.sum, .int .i64 r136.snap.level, .bool r136.snap.final] el_32 zc_36 rfl rfl rfl rfl rfl (by kernel_rfl) hS (fun b142 w hS hB => ?_)
        refine wpS_nil ?_
        refine QH_step hB ?_
        refine wpR_seal [false, false, false, false, false, false, true] 6 ⟨by decide, by kernel_rfl, by kernel_rfl⟩ rfl rfl ?_
        try dsimp only [pickL]
        refine wpS_store rfl rfl rfl CellsOf.agg hS ps7 st0_22 (by kernel_rfl) rfl (fun w hS hB => ?_)
        refine wpS_nil ?_
        refine QH_stepG (hB.sub (fun _ _ h => by simpa using h)) ?_
        refine wpR_batch [false, false, false, false, false, false, false, true] (by decide +kernel) (by repeat (first | exact PF.body | exact PF.round | apply PF.then | apply PF.inBlock | apply PF.jump)) ?_
        refine LtK.put rfl rfl rfl (yv_assign rfl) ?_
        refine LtK.nil ?_
        refine wpR_end (by kernel_rfl) ?_
        refine QH_seq_k hK135 ?_
        refine wpC_ret ?_
        refine QH_ret rfl (RV.cell rfl (load_boxA ag_30 hS hs7 sg0_22) (RV.tmp rfl RV.nil)) rfl ?_
        obtain rfl := Option.some.inj H
        have hS := hS.nilRds
        replace hS := hS.front 2 rfl
        replace hS := hS.absorbQ ⟨r136, A138, c139⟩
        replace hS := hS.front 1 rfl
        replace hS := hS.weak Weak.boxRd
        have hS := hS.front 6 rfl
        have hS := hS.front 6 rfl
        have hS := hS.front 6 rfl
        have hS := hS.front 6 rfl
        have hS := hS.front 6 rfl
        replace hS := hS.cut 7
        exact ⟨A65, c66, A69, c70, A73, c74, A77, c78, A81, c82, (some ⟨b142, 0, none⟩), 1, ([⟨r136, A138, c139⟩] : List Mq), rfl, k67, k71, k75, k79, k83, ⟨Nat.le_refl 1, by decide⟩, rfl, (okq_cons k140 okq_nil), hS⟩
      · try dsimp only [pickL]
        refine wpS_store rfl rfl rfl CellsOf.agg hS ps6 st0_22 (by kernel_rfl) rfl (fun w hS hB => ?_)
        refine wpS_nil ?_
        refine QH_stepG (hB.sub (fun _ _ h => by simpa using h)) ?_
        refine wpR_call [false, false, false, false, false, true] 5 ⟨by decide, by kernel_rfl, by kernel_rfl⟩ rfl rfl ?_
        try dsimp only [pickL]
        refine wpS_sliceM (ps := [(0, .tmp 72)]) [.int .u8 r136.kind, .int .i64 r136.frm, .int .i64 r136.dst, .int .i64 r136.term, .int .i64 r136.cap, .int .i64 r136.last, .int .i64 r136.lastTerm, .int .i64 r136.commit, .bool r136.okk, .slice A138 r136.entries.length c139, .int .i64 r136.snap.index, .int .i64 r136.snap.term, .int .i64 r136.snap.sum, .int .i64 r136.snap.level, .bool r136.snap.final] el_32 zc_36 rfl rfl rfl rfl rfl (by kernel_rfl) hS (fun b142 w hS hB => ?_)
        refine wpS_nil ?_
        refine QH_step hB ?_
        refine wpR_batch [false, false, false, false, false, false, false, true] (by decide +kernel) (by repeat (first | exact PF.body | exact PF.round | apply PF.then | apply PF.inBlock | apply PF.jump)) ?_
        refine LtK.put rfl rfl rfl (yv_assign rfl) ?_
        refine LtK.nil ?_
        refine wpR_end (by kernel_rfl) ?_
        refine QH_seq_k hK135 ?_
        refine wpC_ret ?_
        refine QH_ret rfl (RV.cell rfl (load_boxA ag_30 hS hs7 sg0_22) (RV.tmp rfl RV.nil)) rfl ?_
        obtain rfl := Option.some.inj H
        have hS := hS.nilRds
        replace hS := hS.front 2 rfl
        replace hS := hS.absorbQ ⟨r136, A138, c139⟩
        replace hS := hS.front 1 rfl
        replace hS := hS.weak Weak.boxRd
        have hS := hS.front 6 rfl
        have hS := hS.front 6 rfl
        have hS := hS.front 6 rfl
        have hS := hS.front 6 rfl
        have hS := hS.front 6 rfl
        replace hS := hS.cut 7
        exact ⟨A65, c66, A69, c70, A73, c74, A77, c78, A81, c82, (some ⟨b142, 0, none⟩), 1, ([⟨r136, A138, c139⟩] : List Mq), rfl, k67, k71, k75, k79, k83, ⟨Nat.le_refl 1, by decide⟩, rfl, (okq_cons k140 okq_nil), hS⟩
    replace H := cond_t H hb
    refine wpS_put rfl rfl rfl (yv_fieldAddr fo_36_3 rfl) ?_
    refine wpS_put rfl rfl rfl (yv_load_box sc_3 rfl (RW.here _) hS hs6 trivial sg3_1) ?_
    refine wpS_put rfl rfl rfl (yv_fieldAddr fo_30_4 rfl) ?_
    refine wpS_put rfl rfl rfl (yv_fieldAddr fo_26_2 rfl) ?_
    refine wpS_put rfl rfl rfl (yv_load_box sc_3 rfl (RW.here _) hS hs7 trivial sg10_1) ?_
    refine wpS_put rfl rfl rfl (yv_eql rfl rfl) ?_
    refine wpS_quick 2 rfl ?_
    refine wpS_case 48 rfl (fun hb => ?_) (fun hb => ?_)
    rotate_left
    · replace H := cond_f H hb
      refine wpS_quick 8 rfl ?_
      refine wpS_nil ?_
      refine QH_seq_k hK87 ?_
      refine wpC_seq_k (fun K hK121 => ?_)
      refine wpC_seq_k (fun K hK122 => ?_)
      refine wpC_region ?_
      refine wpS_quick 1 rfl ?_
      refine wpS_nil ?_
      refine QH_seq_k hK122 ?_
      refine wpC_cond_f rfl rfl ?_
      refine wpC_skip ?_
      refine QH_seq_k hK121 ?_
      refine wpC_seq_k (fun K hK123 => ?_)
      refine wpC_draw 8 [6] (fun i b => (i = 6 → b ≠ b6)) ⟨by kernel_rfl, by kernel_rfl⟩ hS (fun w hS hB => ?_)
      refine wpR_batch [true, true, true, true] (by decide +kernel) (by repeat (first | exact PF.body | exact PF.round | apply PF.then | apply PF.inBlock | apply PF.jump)) ?_
      refine LtK.put rfl rfl rfl (yv_load_boxA ag_30 rfl (RW.below _) hS hs7 trivial sg0_22) ?_
      refine LtK.put rfl rfl rfl (yv_load_boxA ag_30 rfl (RW.below _) hS hs7 trivial sg0_22) ?_
      refine LtK.put rfl rfl rfl (yv_load_boxA ag_36 rfl (RW.below _) hS hs6 trivial sg0_15) ?_
      refine LtK.put rfl rfl rfl (yv_move rfl) ?_
      refine LtK.nil ?_
      refine wpR_call [false, false, false, false, true] 4 ⟨by decide, by kernel_rfl, by kernel_rfl⟩ rfl rfl ?_
      try dsimp only [pickL]
      obtain ⟨r124, hm125, H⟩ := bind_some H
      refine wpS_call rfl rfl rfl rfl (by kernel_rfl) rfl (c_msg_Back r63 x1 2 false 0 A65 c66 A69 c70 A73 c74 A77 c78 A81 c82 A5_ c5_ _ (SlI.of_rd k67 (hS.rd hs0) (hS.rd_blk hs0)) (SlI.of_rd k71 (hS.row_rd hs1) (hS.row_blk hs1)) (SlI.of_rd k75 (hS.row_rd hs2) (hS.row_blk hs2)) (SlI.of_rd k79 (hS.row_rd hs3) (hS.row_blk hs3)) (SlI.of_rd k83 (hS.row_rd hs4) (hS.row_blk hs4)) (SlW.of_rd s5_.k (hS.rd0 s5_.rd)) hm125) ?_
      rintro e w ⟨A126, c127, rfl, k128, hN⟩; refine ⟨_, rfl, ?_⟩; have hB := hN.pure; have hS := hS.join hN; clear hN
      refine wpS_nil ?_
      refine QH_step hB ?_
      refine wpR_many [5, 6] ⟨by decide, by kernel_rfl⟩ rfl (.call [false, false, false, false, false, true] 5 rfl rfl rfl ?_ (.put [false, false, false, false, false, false, true] 6 rfl rfl rfl ?_ .nil))
      · try dsimp only [pickL]
        refine wpS_sliceM (ps := [(0, .tmp 72)]) [.int .u8 r124.kind, .int .i64 r124.frm, .int .i64 r124.dst, .int .i64 r124.term, .int .i64 r124.cap, .int .i64 r124.last, .int .i64 r124.lastTerm, .int .i64 r124.commit, .bool r124.okk, .slice A126 r124.entries.length c127, .int .i64 r124.snap.index, .int .i64 r124.snap.term, .int .i64 r124.snap.sum, .int .i64 r124.snap.level, .bool r124.snap.final] el_32 zc_36 rfl rfl rfl rfl rfl (by kernel_rfl) hS (fun b130 w hS hB => ?_)
        refine wpS_nil ?_
        refine QH_step hB ?_
        refine wpR_seal [false, false, false, false, false, false, true] 6 ⟨by decide, by kernel_rfl, by kernel_rfl⟩ rfl rfl ?_
        try dsimp only [pickL]
        refine wpS_store rfl rfl rfl CellsOf.agg hS ps7 st0_22 (by kernel_rfl) rfl (fun w hS hB => ?_)
        refine wpS_nil ?_
        refine QH_stepG (hB.sub (fun _ _ h => by simpa using h)) ?_
        refine wpR_batch [false, false, false, false, false, false, false, true] (by decide +kernel) (by repeat (first | exact PF.body | exact PF.round | apply PF.then | apply PF.inBlock | apply PF.jump)) ?_
        refine LtK.put rfl rfl rfl (yv_assign rfl) ?_
        refine LtK.nil ?_
        refine wpR_end (by kernel_rfl) ?_
        refine QH_seq_k hK123 ?_
        refine wpC_ret ?_
        refine QH_ret rfl (RV.cell rfl (load_boxA ag_30 hS hs7 sg0_22) (RV.tmp rfl RV.nil)) rfl ?_
        obtain rfl := Option.some.inj H
        have hS := hS.nilRds
        replace hS := hS.front 2 rfl
        replace hS := hS.absorbQ ⟨r124, A126, c127⟩
        replace hS := hS.front 1 rfl
        replace hS := hS.weak Weak.boxRd
        have hS := hS.front 6 rfl
        have hS := hS.front 6 rfl
        have hS := hS.front 6 rfl
        have hS := hS.front 6 rfl
        have hS := hS.front 6 rfl
        replace hS := hS.cut 7
        exact ⟨A65, c66, A69, c70, A73, c74, A77, c78, A81, c82, (some ⟨b130, 0, none⟩), 1, ([⟨r124, A126, c127⟩] : List Mq), rfl, k67, k71, k75, k79, k83, ⟨Nat.le_refl 1, by decide⟩, rfl, (okq_cons k128 okq_nil), hS⟩
      · try dsimp only [pickL]
        refine wpS_store rfl rfl rfl CellsOf.agg hS ps6 st0_22 (by kernel_rfl) rfl (fun w hS hB => ?_)
        refine wpS_nil ?_
        refine QH_stepG (hB.sub (fun _ _ h => by simpa using h)) ?_
        refine wpR_call [false, false, false, false, false, true] 5 ⟨by decide, by kernel_rfl, by kernel_rfl⟩ rfl rfl ?_
        try dsimp only [pickL]
        refine wpS_sliceM (ps := [(0, .tmp 72)]) [.int .u8 r124.kind, .int .i64 r124.frm, .int .i64 r124.dst, .int .i64 r124.term, .int .i64 r124.cap, .int .i64 r124.last, .int .i64 r124.lastTerm, .int .i64 r124.commit, .bool r124.okk, .slice A126 r124.entries.length c127, .int .i64 r124.snap.index, .int .i64 r124.snap.term, .int .i64 r124.snap.sum, .int .i64 r124.snap.level, .bool r124.snap.final] el_32 zc_36 rfl rfl rfl rfl rfl (by kernel_rfl) hS (fun b130 w hS hB => ?_)
        refine wpS_nil ?_
        refine QH_step hB ?_
        refine wpR_batch [false, false, false, false, false, false, false, true] (by decide +kernel) (by repeat (first | exact PF.body | exact PF.round | apply PF.then | apply PF.inBlock | apply PF.jump)) ?_
        refine LtK.put rfl rfl rfl (yv_assign rfl) ?_
        refine LtK.nil ?_
        refine wpR_end (by kernel_rfl) ?_
        refine QH_seq_k hK123 ?_
        refine wpC_ret ?_
        refine QH_ret rfl (RV.cell rfl (load_boxA ag_30 hS hs7 sg0_22) (RV.tmp rfl RV.nil)) rfl ?_
        obtain rfl := Option.some.inj H
        have hS := hS.nilRds
        replace hS := hS.front 2 rfl
        replace hS := hS.absorbQ ⟨r124, A126, c127⟩
        replace hS := hS.front 1 rfl
        replace hS := hS.weak Weak.boxRd
        have hS := hS.front 6 rfl
        have hS := hS.front 6 rfl
        have hS := hS.front 6 rfl
        have hS := hS.front 6 rfl
        have hS := hS.front 6 rfl
        replace hS := hS.cut 7
        exact ⟨A65, c66, A69, c70, A73, c74, A77, c78, A81, c82, (some ⟨b130, 0, none⟩), 1, ([⟨r124, A126, c127⟩] : List Mq), rfl, k67, k71, k75, k79, k83, ⟨Nat.le_refl 1, by decide⟩, rfl, (okq_cons k128 okq_nil), hS⟩
    replace H := cond_t H hb
    refine wpS_put rfl rfl rfl (yv_load_boxA ag_30 rfl (RW.here _) hS hs7 trivial sg0_22) ?_
    refine wpS_put rfl rfl rfl (yv_fieldAddr fo_36_6 rfl) ?_
    refine wpS_put rfl rfl rfl (yv_load_box sc_3 rfl (RW.here _) hS hs6 trivial sg6_1) ?_
    refine wpS_put rfl rfl rfl (yv_fieldAddr fo_36_5 rfl) ?_
    refine wpS_put rfl rfl rfl (yv_load_box sc_3 rfl (RW.here _) hS hs6 trivial sg5_1) ?_
    obtain ⟨r90, hm91, H⟩ := bind_some H
    refine wpS_call rfl rfl rfl rfl (by kernel_rfl) rfl (c_elect_Newer r63 x1.lastTerm x1.last A65 c66 A69 c70 A73 c74 A77 c78 A81 c82 _ (SlI.of_rd k67 (hS.rd hs0) (hS.rd_blk hs0)) (SlI.of_rd k71 (hS.row_rd hs1) (hS.row_blk hs1)) (SlI.of_rd k75 (hS.row_rd hs2) (hS.row_blk hs2)) (SlI.of_rd k79 (hS.row_rd hs3) (hS.row_blk hs3)) (SlI.of_rd k83 (hS.row_rd hs4) (hS.row_blk hs4)) hm91) ?_
    rintro e w ⟨rfl, hN⟩; refine ⟨_, rfl, ?_⟩; have hB := hN.pure; have hS := hS.join hN; clear hN
    refine wpS_quick 2 rfl ?_
    refine wpS_nil ?_
    refine QH_seq_k hK87 ?_
    refine wpC_seq_k (fun K hK92 => ?_)
    refine wpC_seq_k (fun K hK93 => ?_)
    refine wpC_region ?_
    refine wpS_quick 1 rfl ?_
    refine wpS_nil ?_
    refine QH_seq_k hK93 ?_
    refine wpC_cond rfl (fun hb => ?_) (fun hb => ?_)
    rotate_left
    · replace H := cond_f H hb
      refine wpC_skip ?_
      refine QH_seq_k hK92 ?_
      refine wpC_seq_k (fun K hK111 => ?_)
      refine wpC_draw 8 [6] (fun i b => (i = 6 → b ≠ b6)) ⟨by kernel_rfl, by kernel_rfl⟩ hS (fun w hS hB => ?_)
      refine wpR_batch [true, true, true, true] (by decide +kernel) (by repeat (first | exact PF.body | exact PF.round | apply PF.then | apply PF.inBlock | apply PF.jump)) ?_
      refine LtK.put rfl rfl rfl (yv_load_boxA ag_30 rfl (RW.below _) hS hs7 trivial sg0_22) ?_
      refine LtK.put rfl rfl rfl (yv_load_boxA ag_30 rfl (RW.below _) hS hs7 trivial sg0_22) ?_
      refine LtK.put rfl rfl rfl (yv_load_boxA ag_36 rfl (RW.below _) hS hs6 trivial sg0_15) ?_
      refine LtK.put rfl rfl rfl (yv_move rfl) ?_
      refine LtK.nil ?_
      refine wpR_call [false, false, false, false, true] 4 ⟨by decide, by kernel_rfl, by kernel_rfl⟩ rfl rfl ?_
      try dsimp only [pickL]
      obtain ⟨r112, hm113, H⟩ := bind_some H
      refine wpS_call rfl rfl rfl rfl (by kernel_rfl) rfl (c_msg_Back r63 x1 2 r90 0 A65 c66 A69 c70 A73 c74 A77 c78 A81 c82 A5_ c5_ _ (SlI.of_rd k67 (hS.rd hs0) (hS.rd_blk hs0)) (SlI.of_rd k71 (hS.row_rd hs1) (hS.row_blk hs1)) (SlI.of_rd k75 (hS.row_rd hs2) (hS.row_blk hs2)) (SlI.of_rd k79 (hS.row_rd hs3) (hS.row_blk hs3)) (SlI.of_rd k83 (hS.row_rd hs4) (hS.row_blk hs4)) (SlW.of_rd s5_.k (hS.rd0 s5_.rd)) hm113) ?_
      rintro e w ⟨A114, c115, rfl, k116, hN⟩; refine ⟨_, rfl, ?_⟩; have hB := hN.pure; have hS := hS.join hN; clear hN
      refine wpS_nil ?_
      refine QH_step hB ?_
      refine wpR_many [5, 6] ⟨by decide, by kernel_rfl⟩ rfl (.call [false, false, false, false, false, true] 5 rfl rfl rfl ?_ (.put [false, false, false, false, false, false, true] 6 rfl rfl rfl ?_ .nil))
      · try dsimp only [pickL]
        refine wpS_sliceM (ps := [(0, .tmp 72)]) [.int .u8 r112.kind, .int .i64 r112.frm, .int .i64 r112.dst, .int .i64 r112.term, .int .i64 r112.cap, .int .i64 r112.last, .int .i64 r112.lastTerm, .int .i64 r112.commit, .bool r112.okk, .slice A114 r112.entries.length c115, .int .i64 r112.snap.index, .int .i64 r112.snap.term, .int .i64 r112.snap.sum, .int .i64 r112.snap.level, .bool r112.snap.final] el_32 zc_36 rfl rfl rfl rfl rfl (by kernel_rfl) hS (fun b118 w hS hB => ?_)
        refine wpS_nil ?_
        refine QH_step hB ?_
        refine wpR_seal [false, false, false, false, false, false, true] 6 ⟨by decide, by kernel_rfl, by kernel_rfl⟩ rfl rfl ?_
        try dsimp only [pickL]
        refine wpS_store rfl rfl rfl CellsOf.agg hS ps7 st0_22 (by kernel_rfl) rfl (fun w hS hB => ?_)
        refine wpS_nil ?_
        refine QH_stepG (hB.sub (fun _ _ h => by simpa using h)) ?_
        refine wpR_batch [false, false, false, false, false, false, false, true] (by decide +kernel) (by repeat (first | exact PF.body | exact PF.round | apply PF.then | apply PF.inBlock | apply PF.jump)) ?_
        refine LtK.put rfl rfl rfl (yv_assign rfl) ?_
        refine LtK.nil ?_
        refine wpR_end (by kernel_rfl) ?_
        refine QH_seq_k hK111 ?_
        refine wpC_ret ?_
        refine QH_ret rfl (RV.cell rfl (load_boxA ag_30 hS hs7 sg0_22) (RV.tmp rfl RV.nil)) rfl ?_
        obtain rfl := Option.some.inj H
        have hS := hS.nilRds
        replace hS := hS.front 2 rfl
        replace hS := hS.absorbQ ⟨r112, A114, c115⟩
        replace hS := hS.front 1 rfl
        replace hS := hS.weak Weak.boxRd
        have hS := hS.front 6 rfl
        have hS := hS.front 6 rfl
        have hS := hS.front 6 rfl
        have hS := hS.front 6 rfl
        have hS := hS.front 6 rfl
        replace hS := hS.cut 7
        exact ⟨A65, c66, A69, c70, A73, c74, A77, c78, A81, c82, (some ⟨b118, 0, none⟩), 1, ([⟨r112, A114, c115⟩] : List Mq), rfl, k67, k71, k75, k79, k83, ⟨Nat.le_refl 1, by decide⟩, rfl, (okq_cons k116 okq_nil), hS⟩
      · try dsimp only [pickL]
        refine wpS_store rfl rfl rfl CellsOf.agg hS ps6 st0_22 (by kernel_rfl) rfl (fun w hS hB => ?_)
        refine wpS_nil ?_
        refine QH_stepG (hB.sub (fun _ _ h => by simpa using h)) ?_
        refine wpR_call [false, false, false, false, false, true] 5 ⟨by decide, by kernel_rfl, by kernel_rfl⟩ rfl rfl ?_
        try dsimp only [pickL]
        refine wpS_sliceM (ps := [(0, .tmp 72)]) [.int .u8 r112.kind, .int .i64 r112.frm, .int .i64 r112.dst, .int .i64 r112.term, .int .i64 r112.cap, .int .i64 r112.last, .int .i64 r112.lastTerm, .int .i64 r112.commit, .bool r112.okk, .slice A114 r112.entries.length c115, .int .i64 r112.snap.index, .int .i64 r112.snap.term, .int .i64 r112.snap.sum, .int .i64 r112.snap.level, .bool r112.snap.final] el_32 zc_36 rfl rfl rfl rfl rfl (by kernel_rfl) hS (fun b118 w hS hB => ?_)
        refine wpS_nil ?_
        refine QH_step hB ?_
        refine wpR_batch [false, false, false, false, false, false, false, true] (by decide +kernel) (by repeat (first | exact PF.body | exact PF.round | apply PF.then | apply PF.inBlock | apply PF.jump)) ?_
        refine LtK.put rfl rfl rfl (yv_assign rfl) ?_
        refine LtK.nil ?_
        refine wpR_end (by kernel_rfl) ?_
        refine QH_seq_k hK111 ?_
        refine wpC_ret ?_
        refine QH_ret rfl (RV.cell rfl (load_boxA ag_30 hS hs7 sg0_22) (RV.tmp rfl RV.nil)) rfl ?_
        obtain rfl := Option.some.inj H
        have hS := hS.nilRds
        replace hS := hS.front 2 rfl
        replace hS := hS.absorbQ ⟨r112, A114, c115⟩
        replace hS := hS.front 1 rfl
        replace hS := hS.weak Weak.boxRd
        have hS := hS.front 6 rfl
        have hS := hS.front 6 rfl
        have hS := hS.front 6 rfl
        have hS := hS.front 6 rfl
        have hS := hS.front 6 rfl
        replace hS := hS.cut 7
        exact ⟨A65, c66, A69, c70, A73, c74, A77, c78, A81, c82, (some ⟨b118, 0, none⟩), 1, ([⟨r112, A114, c115⟩] : List Mq), rfl, k67, k71, k75, k79, k83, ⟨Nat.le_refl 1, by decide⟩, rfl, (okq_cons k116 okq_nil), hS⟩
    replace H := cond_t H hb
    refine wpC_region ?_
    refine wpS_put rfl rfl rfl (yv_fieldAddr fo_30_4 rfl) ?_
    refine wpS_put rfl rfl rfl (yv_load_boxA ag_26 rfl (RW.here _) hS hs7 trivial sg4_8) ?_
    refine wpS_put rfl rfl rfl (yv_fieldAddr fo_36_3 rfl) ?_
    refine wpS_put rfl rfl rfl (yv_load_box sc_3 rfl (RW.here _) hS hs6 trivial sg3_1) ?_
    refine wpS_put rfl rfl rfl (yv_fieldAddr fo_36_1 rfl) ?_
    refine wpS_put rfl rfl rfl (yv_load_box sc_3 rfl (RW.here _) hS hs6 trivial sg1_1) ?_
    obtain ⟨r95, hm96, H⟩ := bind_some H
    refine wpS_call rfl rfl rfl rfl (by kernel_rfl) rfl (c_tuple_Hard r63.tuple x1.term x1.frm A65 c66 _ (SlI.of_rd k67 (hS.rd hs0) (hS.rd_blk hs0)) hm96) ?_
    rintro e w ⟨A97, c98, rfl, k99, hN⟩; refine ⟨_, rfl, ?_⟩; have hB := hN.pure; have hS := hS.join hN; clear hN
    refine wpS_quick 1 rfl ?_
    refine wpS_put rfl rfl rfl (yv_extract rfl rfl) ?_
    refine wpS_put rfl rfl rfl (yv_extract rfl rfl) ?_
    refine wpS_put rfl rfl rfl (yv_fieldAddr fo_30_4 rfl) ?_
    refine wpS_store rfl rfl rfl CellsOf.agg hS ps8 st4_8 (by kernel_rfl) rfl (fun w hS hB => ?_)
    refine wpS_nil ?_
    refine QH_seq_k hK92 ?_
    refine wpC_seq_k (fun K hK101 => ?_)
    refine wpC_draw 8 [6] (fun i b => (i = 6 → b ≠ b6)) ⟨by kernel_rfl, by kernel_rfl⟩ hS (fun w hS hB => ?_)
    refine wpR_batch [true, true, true, true] (by decide +kernel) (by repeat (first | exact PF.body | exact PF.round | apply PF.then | apply PF.inBlock | apply PF.jump)) ?_
    refine LtK.put rfl rfl rfl (yv_load_boxA ag_30 rfl (RW.below _) hS hs8 trivial sg0_22) ?_
    refine LtK.put rfl rfl rfl (yv_load_boxA ag_30 rfl (RW.below _) hS hs8 trivial sg0_22) ?_
    refine LtK.put rfl rfl rfl (yv_load_boxA ag_36 rfl (RW.below _) hS hs7 trivial sg0_15) ?_
    refine LtK.put rfl rfl rfl (yv_move rfl) ?_
    refine LtK.nil ?_
    refine wpR_call [false, false, false, false, true] 4 ⟨by decide, by kernel_rfl, by kernel_rfl⟩ rfl rfl ?_
    try dsimp only [pickL]
    obtain ⟨r102, hm103, H⟩ := bind_some H
    refine wpS_call rfl rfl rfl rfl (by kernel_rfl) rfl (c_msg_Back (⟨r63.id, r63.n, r63.role, r63.binary, r95.1, r63.commit, r63.applied, r63.votes, r63.next, r63.mtch, r63.caps⟩ : Co) x1 2 r90 0 A97 c98 A69 c70 A73 c74 A77 c78 A81 c82 A5_ c5_ _ (SlI.of_rd k99 (hS.rd hs0) (hS.rd_blk hs0)) (SlI.of_rd k71 (hS.row_rd hs2) (hS.row_blk hs2)) (SlI.of_rd k75 (hS.row_rd hs3) (hS.row_blk hs3)) (SlI.of_rd k79 (hS.row_rd hs4) (hS.row_blk hs4)) (SlI.of_rd k83 (hS.row_rd hs5) (hS.row_blk hs5)) (SlW.of_rd s5_.k (hS.rd0 s5_.rd)) hm103) ?_
    rintro e w ⟨A104, c105, rfl, k106, hN⟩; refine ⟨_, rfl, ?_⟩; have hB := hN.pure; have hS := hS.join hN; clear hN
    refine wpS_nil ?_
    refine QH_step hB ?_
    refine wpR_many [5, 6] ⟨by decide, by kernel_rfl⟩ rfl (.call [false, false, false, false, false, true] 5 rfl rfl rfl ?_ (.put [false, false, false, false, false, false, true] 6 rfl rfl rfl ?_ .nil))
    · try dsimp only [pickL]
      refine wpS_sliceM (ps := [(0, .tmp 72)]) [.int .u8 r102.kind, .int .i64 r102.frm, .int .i64 r102.dst, .int .i64 r102.term, .int .i64 r102.cap, .int .i64 r102.last, .int .i64 r102.lastTerm, .int .i64 r102.commit, .bool r102.okk, .slice A104 r102.entries.length c105, .int .i64 r102.snap.index, .int .i64 r102.snap.term, .int .i64 r102.snap.sum, .int .i64 r102.snap.level, .bool r102.snap.final] el_32 zc_36 rfl rfl rfl rfl rfl (by kernel_rfl) hS (fun b108 w hS hB => ?_)
      refine wpS_nil ?_
      refine QH_step hB ?_
      refine wpR_seal [false, false, false, false, false, false, true] 6 ⟨by decide, by kernel_rfl, by kernel_rfl⟩ rfl rfl ?_
      try dsimp only [pickL]
      refine wpS_store rfl rfl rfl CellsOf.agg hS ps8 st0_22 (by kernel_rfl) rfl (fun w hS hB => ?_)
      refine wpS_nil ?_
      refine QH_stepG (hB.sub (fun _ _ h => by simpa using h)) ?_
      refine wpR_batch [false, false, false, false, false, false, false, true] (by decide +kernel) (by repeat (first | exact PF.body | exact PF.round | apply PF.then | apply PF.inBlock | apply PF.jump)) ?_
      refine LtK.put rfl rfl rfl (yv_assign rfl) ?_
      refine LtK.nil ?_
      refine wpR_end (by kernel_rfl) ?_
      refine QH_seq_k hK101 ?_
      refine wpC_ret ?_
      refine QH_ret rfl (RV.cell rfl (load_boxA ag_30 hS hs8 sg0_22) (RV.tmp rfl RV.nil)) rfl ?_
      obtain rfl := Option.some.inj H
      have hS := hS.nilRds
      replace hS := hS.front 2 rfl
      replace hS := hS.absorbQ ⟨r102, A104, c105⟩
      replace hS := hS.front 1 rfl
      replace hS := hS.weak Weak.boxRd
      have hS := hS.front 7 rfl
      have hS := hS.front 7 rfl
      have hS := hS.front 7 rfl
      have hS := hS.front 7 rfl
      have hS := hS.front 6 rfl
      replace hS := hS.cut 7
      exact ⟨A97, c98, A69, c70, A73, c74, A77, c78, A81, c82, (some ⟨b108, 0, none⟩), 1, ([⟨r102, A104, c105⟩] : List Mq), rfl, k99, k71, k75, k79, k83, ⟨Nat.le_refl 1, by decide⟩, rfl, (okq_cons k106 okq_nil), hS⟩
    · try dsimp only [pickL]
      refine wpS_store rfl rfl rfl CellsOf.agg hS ps7 st0_22 (by kernel_rfl) rfl (fun w hS hB => ?_)
      refine wpS_nil ?_
      refine QH_stepG (hB.sub (fun _ _ h => by simpa using h)) ?_
      refine wpR_call [false, false, false, false, false, true] 5 ⟨by decide, by kernel_rfl, by kernel_rfl⟩ rfl rfl ?_
      try dsimp only [pickL]
      refine wpS_sliceM (ps := [(0, .tmp 72)]) [.int .u8 r102.kind, .int .i64 r102.frm, .int .i64 r102.dst, .int .i64 r102.term, .int .i64 r102.cap, .int .i64 r102.last, .int .i64 r102.lastTerm, .int .i64 r102.commit, .bool r102.okk, .slice A104 r102.entries.length c105, .int .i64 r102.snap.index, .int .i64 r102.snap.term, .int .i64 r102.snap.sum, .int .i64 r102.snap.level, .bool r102.snap.final] el_32 zc_36 rfl rfl rfl rfl rfl (by kernel_rfl) hS (fun b108 w hS hB => ?_)
      refine wpS_nil ?_
      refine QH_step hB ?_
      refine wpR_batch [false, false, false, false, false, false, false, true] (by decide +kernel) (by repeat (first | exact PF.body | exact PF.round | apply PF.then | apply PF.inBlock | apply PF.jump)) ?_
      refine LtK.put rfl rfl rfl (yv_assign rfl) ?_
      refine LtK.nil ?_
      refine wpR_end (by kernel_rfl) ?_
      refine QH_seq_k hK101 ?_
      refine wpC_ret ?_
      refine QH_ret rfl (RV.cell rfl (load_boxA ag_30 hS hs8 sg0_22) (RV.tmp rfl RV.nil)) rfl ?_
      obtain rfl := Option.some.inj H
      have hS := hS.nilRds
      replace hS := hS.front 2 rfl
      replace hS := hS.absorbQ ⟨r102, A104, c105⟩
      replace hS := hS.front 1 rfl
      replace hS := hS.weak Weak.boxRd
      have hS := hS.front 7 rfl
      have hS := hS.front 7 rfl
      have hS := hS.front 7 rfl
      have hS := hS.front 7 rfl
      have hS := hS.front 6 rfl
      replace hS := hS.cut 7
      exact ⟨A97, c98, A69, c70, A73, c74, A77, c78, A81, c82, (some ⟨b108, 0, none⟩), 1, ([⟨r102, A104, c105⟩] : List Mq), rfl, k99, k71, k75, k79, k83, ⟨Nat.le_refl 1, by decide⟩, rfl, (okq_cons k106 okq_nil), hS⟩
  replace H := cond_f H hb
  refine wpS_put rfl rfl rfl (yv_fieldAddr fo_30_4 rfl) ?_
  refine wpS_put rfl rfl rfl (yv_fieldAddr fo_26_3 rfl) ?_
  refine wpS_put rfl rfl rfl (yv_load_box sc_3 rfl (RW.here _) hS hs7 trivial sg11_1) ?_
  refine wpS_put rfl rfl rfl (yv_fieldAddr fo_36_1 rfl) ?_
  refine wpS_put rfl rfl rfl (yv_load_box sc_3 rfl (RW.here _) hS hs6 trivial sg1_1) ?_
  refine wpS_put rfl rfl rfl (yv_eql rfl rfl) ?_
  refine wpS_quick 2 rfl ?_
  refine wpS_nil ?_
  refine QH_seq_k hK85 ?_
  refine wpC_seq_k (fun K hK145 => ?_)
  refine wpC_region ?_
  refine wpS_quick 2 rfl ?_
  refine wpS_case 35 rfl (fun hb => ?_) (fun hb => ?_)
  rotate_left
  · replace H := cond_f H hb
    refine wpS_quick 21 rfl ?_
    refine wpS_nil ?_
    refine QH_seq_k hK145 ?_
    refine wpC_seq_k (fun K hK204 => ?_)
    refine wpC_seq_k (fun K hK205 => ?_)
    refine wpC_region ?_
    refine wpS_quick 1 rfl ?_
    refine wpS_nil ?_
    refine QH_seq_k hK205 ?_
    refine wpC_cond_f rfl rfl ?_
    refine wpC_skip ?_
    refine QH_seq_k hK204 ?_
    refine wpC_seq_k (fun K hK206 => ?_)
    refine wpC_draw 8 [6] (fun i b => (i = 6 → b ≠ b6)) ⟨by kernel_rfl, by kernel_rfl⟩ hS (fun w hS hB => ?_)
    refine wpR_batch [true, true, true, true] (by decide +kernel) (by repeat (first | exact PF.body | exact PF.round | apply PF.then | apply PF.inBlock | apply PF.jump)) ?_
    refine LtK.put rfl rfl rfl (yv_load_boxA ag_30 rfl (RW.below _) hS hs7 trivial sg0_22) ?_
    refine LtK.put rfl rfl rfl (yv_load_boxA ag_30 rfl (RW.below _) hS hs7 trivial sg0_22) ?_
    refine LtK.put rfl rfl rfl (yv_load_boxA ag_36 rfl (RW.below _) hS hs6 trivial sg0_15) ?_
    refine LtK.put rfl rfl rfl (yv_move rfl) ?_
    refine LtK.nil ?_
    refine wpR_call [false, false, false, false, true] 4 ⟨by decide, by kernel_rfl, by kernel_rfl⟩ rfl rfl ?_
    try dsimp only [pickL]
    obtain ⟨r207, hm208, H⟩ := bind_some H
    refine wpS_call rfl rfl rfl rfl (by kernel_rfl) rfl (c_msg_Back r63 x1 2 false 0 A65 c66 A69 c70 A73 c74 A77 c78 A81 c82 A5_ c5_ _ (SlI.of_rd k67 (hS.rd hs0) (hS.rd_blk hs0)) (SlI.of_rd k71 (hS.row_rd hs1) (hS.row_blk hs1)) (SlI.of_rd k75 (hS.row_rd hs2) (hS.row_blk hs2)) (SlI.of_rd k79 (hS.row_rd hs3) (hS.row_blk hs3)) (SlI.of_rd k83 (hS.row_rd hs4) (hS.row_blk hs4)) (SlW.of_rd s5_.k (hS.rd0 s5_.rd)) hm208) ?_
    rintro e w ⟨A209, c210, rfl, k211, hN⟩; refine ⟨_, rfl, ?_⟩; have hB := hN.pure; have hS := hS.join hN; clear hN
    refine wpS_nil ?_
    refine QH_step hB ?_
    refine wpR_many [5, 6] ⟨by decide, by kernel_rfl⟩ rfl (.call [false, false, false, false, false, true] 5 rfl rfl rfl ?_ (.put [false, false, false, false, false, false, true] 6 rfl rfl rfl ?_ .nil))
    · try dsimp only [pickL]
      refine wpS_sliceM (ps := [(0, .tmp 72)]) [.int .u8 r207.kind, .int .i64 r207.frm, .int .i64 r207.dst, .int .i64 r207.term, .int .i64 r207.cap, .int .i64 r207.last, .int .i64 r207.lastTerm, .int .i64 r207.commit, .bool r207.okk, .slice A209 r207.entries.length c210, .int .i64 r207.snap.index, .int .i64 r207.snap.term, .int .i64 r207.snap.sum, .int .i64 r207.snap.level, .bool r207.snap.final] el_32 zc_36 rfl rfl rfl rfl rfl (by kernel_rfl) hS (fun b213 w hS hB => ?_)
      refine wpS_nil ?_
      refine QH_step hB ?_
      refine wpR_seal [false, false, false, false, false, false, true] 6 ⟨by decide, by kernel_rfl, by kernel_rfl⟩ rfl rfl ?_
      try dsimp only [pickL]
      refine wpS_store rfl rfl rfl CellsOf.agg hS ps7 st0_22 (by kernel_rfl) rfl (fun w hS hB => ?_)
      refine wpS_nil ?_
      refine QH_stepG (hB.sub (fun _ _ h => by simpa using h)) ?_
      refine wpR_batch [false, false, false, false, false, false, false, true] (by decide +kernel) (by repeat (first | exact PF.body | exact PF.round | apply PF.then | apply PF.inBlock | apply PF.jump)) ?_
      refine LtK.put rfl rfl rfl (yv_assign rfl) ?_
      refine LtK.nil ?_
      refine wpR_end (by kernel_rfl) ?_
      refine QH_seq_k hK206 ?_
      refine wpC_ret ?_
      refine QH_ret rfl (RV.cell rfl (load_boxA ag_30 hS hs7 sg0_22) (RV.tmp rfl RV.nil)) rfl ?_
      obtain rfl := Option.some.inj H
      have hS := hS.nilRds
      replace hS := hS.front 2 rfl
      replace hS := hS.absorbQ ⟨r207, A209, c210⟩
      replace hS := hS.front 1 rfl
      replace hS := hS.weak Weak.boxRd
      have hS := hS.front 6 rfl
      have hS := hS.front 6 rfl
      have hS := hS.front 6 rfl
      have hS := hS.front 6 rfl
      have hS := hS.front 6 rfl
      replace hS := hS.cut 7
      exact ⟨A65, c66, A69, c70, A73, c74, A77, c78, A81, c82, (some ⟨b213, 0, none⟩), 1, ([⟨r207, A209, c210⟩] : List Mq), rfl, k67, k71, k75, k79, k83, ⟨Nat.le_refl 1, by decide⟩, rfl, (okq_cons k211 okq_nil), hS⟩
    · try dsimp only [pickL]
      refine wpS_store rfl rfl rfl CellsOf.agg hS ps6 st0_22 (by kernel_rfl) rfl (fun w hS hB => ?_)
      refine wpS_nil ?_
      refine QH_stepG (hB.sub (fun _ _ h => by simpa using h)) ?_
      refine wpR_call [false, false, false, false, false, true] 5 ⟨by decide, by kernel_rfl, by kernel_rfl⟩ rfl rfl ?_
      try dsimp only [pickL]
      refine wpS_sliceM (ps := [(0, .tmp 72)]) [.int .u8 r207.kind, .int .i64 r207.frm, .int .i64 r207.dst, .int .i64 r207.term, .int .i64 r207.cap, .int .i64 r207.last, .int .i64 r207.lastTerm, .int .i64 r207.commit, .bool r207.okk, .slice A209 r207.entries.length c210, .int .i64 r207.snap.index, .int .i64 r207.snap.term, .int .i64 r207.snap.sum, .int .i64 r207.snap.level, .bool r207.snap.final] el_32 zc_36 rfl rfl rfl rfl rfl (by kernel_rfl) hS (fun b213 w hS hB => ?_)
      refine wpS_nil ?_
      refine QH_step hB ?_
      refine wpR_batch [false, false, false, false, false, false, false, true] (by decide +kernel) (by repeat (first | exact PF.body | exact PF.round | apply PF.then | apply PF.inBlock | apply PF.jump)) ?_
      refine LtK.put rfl rfl rfl (yv_assign rfl) ?_
      refine LtK.nil ?_
      refine wpR_end (by kernel_rfl) ?_
      refine QH_seq_k hK206 ?_
      refine wpC_ret ?_
      refine QH_ret rfl (RV.cell rfl (load_boxA ag_30 hS hs7 sg0_22) (RV.tmp rfl RV.nil)) rfl ?_
      obtain rfl := Option.some.inj H
      have hS := hS.nilRds
      replace hS := hS.front 2 rfl
      replace hS := hS.absorbQ ⟨r207, A209, c210⟩
      replace hS := hS.front 1 rfl
      replace hS := hS.weak Weak.boxRd
      have hS := hS.front 6 rfl
      have hS := hS.front 6 rfl
      have hS := hS.front 6 rfl
      have hS := hS.front 6 rfl
      have hS := hS.front 6 rfl
      replace hS := hS.cut 7
      exact ⟨A65, c66, A69, c70, A73, c74, A77, c78, A81, c82, (some ⟨b213, 0, none⟩), 1, ([⟨r207, A209, c210⟩] : List Mq), rfl, k67, k71, k75, k79, k83, ⟨Nat.le_refl 1, by decide⟩, rfl, (okq_cons k211 okq_nil), hS⟩
  replace H := cond_t H hb
  refine wpS_put rfl rfl rfl (yv_fieldAddr fo_30_2 rfl) ?_
  refine wpS_put rfl rfl rfl (yv_load_box sc_5 rfl (RW.here _) hS hs7 trivial sg2_1) ?_
  refine wpS_put rfl rfl rfl (yv_eql rfl rfl) ?_
  refine wpS_quick 2 rfl ?_
  refine wpS_case 40 rfl (fun hb => ?_) (fun hb => ?_)
  rotate_left
  · replace H := cond_f H hb
    refine wpS_quick 16 rfl ?_
    refine wpS_nil ?_
    refine QH_seq_k hK145 ?_
    refine wpC_seq_k (fun K hK192 => ?_)
    refine wpC_seq_k (fun K hK193 => ?_)
    refine wpC_region ?_
    refine wpS_quick 1 rfl ?_
    refine wpS_nil ?_
    refine QH_seq_k hK193 ?_
    refine wpC_cond_f rfl rfl ?_
    refine wpC_skip ?_
    refine QH_seq_k hK192 ?_
    refine wpC_seq_k (fun K hK194 => ?_)
    refine wpC_draw 8 [6] (fun i b => (i = 6 → b ≠ b6)) ⟨by kernel_rfl, by kernel_rfl⟩ hS (fun w hS hB => ?_)
    refine wpR_batch [true, true, true, true] (by decide +kernel) (by repeat (first | exact PF.body | exact PF.round | apply PF.then | apply PF.inBlock | apply PF.jump)) ?_
    refine LtK.put rfl rfl rfl (yv_load_boxA ag_30 rfl (RW.below _) hS hs7 trivial sg0_22) ?_
    refine LtK.put rfl rfl rfl (yv_load_boxA ag_30 rfl (RW.below _) hS hs7 trivial sg0_22) ?_
    refine LtK.put rfl rfl rfl (yv_load_boxA ag_36 rfl (RW.below _) hS hs6 trivial sg0_15) ?_
    refine LtK.put rfl rfl rfl (yv_move rfl) ?_
    refine LtK.nil ?_
    refine wpR_call [false, false, false, false, true] 4 ⟨by decide, by kernel_rfl, by kernel_rfl⟩ rfl rfl ?_
    try dsimp only [pickL]
    obtain ⟨r195, hm196, H⟩ := bind_some H
    refine wpS_call rfl rfl rfl rfl (by kernel_rfl) rfl (c_msg_Back r63 x1 2 false 0 A65 c66 A69 c70 A73 c74 A77 c78 A81 c82 A5_ c5_ _ (SlI.of_rd k67 (hS.rd hs0) (hS.rd_blk hs0)) (SlI.of_rd k71 (hS.row_rd hs1) (hS.row_blk hs1)) (SlI.of_rd k75 (hS.row_rd hs2) (hS.row_blk hs2)) (SlI.of_rd k79 (hS.row_rd hs3) (hS.row_blk hs3)) (SlI.of_rd k83 (hS.row_rd hs4) (hS.row_blk hs4)) (SlW.of_rd s5_.k (hS.rd0 s5_.rd)) hm196) ?_
    rintro e w ⟨A197, c198, rfl, k199, hN⟩; refine ⟨_, rfl, ?_⟩; have hB := hN.pure; have hS := hS.join hN; clear hN
    refine wpS_nil ?_
    refine QH_step hB ?_
    refine wpR_many [5, 6] ⟨by decide, by kernel_rfl⟩ rfl (.call [false, false, false, false, false, true] 5 rfl rfl rfl ?_ (.put [false, false, false, false, false, false, true] 6 rfl rfl rfl ?_ .nil))
    · try dsimp only [pickL]
      refine wpS_sliceM (ps := [(0, .tmp 72)]) [.int .u8 r195.kind, .int .i64 r195.frm, .int .i64 r195.dst, .int .i64 r195.term, .int .i64 r195.cap, .int .i64 r195.last, .int .i64 r195.lastTerm, .int .i64 r195.commit, .bool r195.okk, .slice A197 r195.entries.length c198, .int .i64 r195.snap.index, .int .i64 r195.snap.term, .int .i64 r195.snap.sum, .int .i64 r195.snap.level, .bool r195.snap.final] el_32 zc_36 rfl rfl rfl rfl rfl (by kernel_rfl) hS (fun b201 w hS hB => ?_)
      refine wpS_nil ?_
      refine QH_step hB ?_
      refine wpR_seal [false, false, false, false, false, false, true] 6 ⟨by decide, by kernel_rfl, by kernel_rfl⟩ rfl rfl ?_
      try dsimp only [pickL]
      refine wpS_store rfl rfl rfl CellsOf.agg hS ps7 st0_22 (by kernel_rfl) rfl (fun w hS hB => ?_)
      refine wpS_nil ?_
      refine QH_stepG (hB.sub (fun _ _ h => by simpa using h)) ?_
      refine wpR_batch [false, false, false, false, false, false, false, true] (by decide +kernel) (by repeat (first | exact PF.body | exact PF.round | apply PF.then | apply PF.inBlock | apply PF.jump)) ?_
      refine LtK.put rfl rfl rfl (yv_assign rfl) ?_
      refine LtK.nil ?_
      refine wpR_end (by kernel_rfl) ?_
      refine QH_seq_k hK194 ?_
      refine wpC_ret ?_
      refine QH_ret rfl (RV.cell rfl (load_boxA ag_30 hS hs7 sg0_22) (RV.tmp rfl RV.nil)) rfl ?_
      obtain rfl := Option.some.inj H
      have hS := hS.nilRds
      replace hS := hS.front 2 rfl
      replace hS := hS.absorbQ ⟨r195, A197, c198⟩
      replace hS := hS.front 1 rfl
      replace hS := hS.weak Weak.boxRd
      have hS := hS.front 6 rfl
      have hS := hS.front 6 rfl
      have hS := hS.front 6 rfl
      have hS := hS.front 6 rfl
      have hS := hS.front 6 rfl
      replace hS := hS.cut 7
      exact ⟨A65, c66, A69, c70, A73, c74, A77, c78, A81, c82, (some ⟨b201, 0, none⟩), 1, ([⟨r195, A197, c198⟩] : List Mq), rfl, k67, k71, k75, k79, k83, ⟨Nat.le_refl 1, by decide⟩, rfl, (okq_cons k199 okq_nil), hS⟩
    · try dsimp only [pickL]
      refine wpS_store rfl rfl rfl CellsOf.agg hS ps6 st0_22 (by kernel_rfl) rfl (fun w hS hB => ?_)
      refine wpS_nil ?_
      refine QH_stepG (hB.sub (fun _ _ h => by simpa using h)) ?_
      refine wpR_call [false, false, false, false, false, true] 5 ⟨by decide, by kernel_rfl, by kernel_rfl⟩ rfl rfl ?_
      try dsimp only [pickL]
      refine wpS_sliceM (ps := [(0, .tmp 72)]) [.int .u8 r195.kind, .int .i64 r195.frm, .int .i64 r195.dst, .int .i64 r195.term, .int .i64 r195.cap, .int .i64 r195.last, .int .i64 r195.lastTerm, .int .i64 r195.commit, .bool r195.okk, .slice A197 r195.entries.length c198, .int .i64 r195.snap.index, .int .i64 r195.snap.term, .int .i64 r195.snap.sum, .int .i64 r195.snap.level, .bool r195.snap.final] el_32 zc_36 rfl rfl rfl rfl rfl (by kernel_rfl) hS (fun b201 w hS hB => ?_)
      refine wpS_nil ?_
      refine QH_step hB ?_
      refine wpR_batch [false, false, false, false, false, false, false, true] (by decide +kernel) (by repeat (first | exact PF.body | exact PF.round | apply PF.then | apply PF.inBlock | apply PF.jump)) ?_
      refine LtK.put rfl rfl rfl (yv_assign rfl) ?_
      refine LtK.nil ?_
      refine wpR_end (by kernel_rfl) ?_
      refine QH_seq_k hK194 ?_
      refine wpC_ret ?_
      refine QH_ret rfl (RV.cell rfl (load_boxA ag_30 hS hs7 sg0_22) (RV.tmp rfl RV.nil)) rfl ?_
      obtain rfl := Option.some.inj H
      have hS := hS.nilRds
      replace hS := hS.front 2 rfl
      replace hS := hS.absorbQ ⟨r195, A197, c198⟩
      replace hS := hS.front 1 rfl
      replace hS := hS.weak Weak.boxRd
      have hS := hS.front 6 rfl
      have hS := hS.front 6 rfl
      have hS := hS.front 6 rfl
      have hS := hS.front 6 rfl
      have hS := hS.front 6 rfl
      replace hS := hS.cut 7
      exact ⟨A65, c66, A69, c70, A73, c74, A77, c78, A81, c82, (some ⟨b201, 0, none⟩), 1, ([⟨r195, A197, c198⟩] : List Mq), rfl, k67, k71, k75, k79, k83, ⟨Nat.le_refl 1, by decide⟩, rfl, (okq_cons k199 okq_nil), hS⟩
  replace H := cond_t H hb
  refine wpS_put rfl rfl rfl (yv_fieldAddr fo_36_3 rfl) ?_
  refine wpS_put rfl rfl rfl (yv_load_box sc_3 rfl (RW.here _) hS hs6 trivial sg3_1) ?_
  refine wpS_put rfl rfl rfl (yv_fieldAddr fo_30_4 rfl) ?_
  refine wpS_put rfl rfl rfl (yv_fieldAddr fo_26_2 rfl) ?_
  refine wpS_put rfl rfl rfl (yv_load_box sc_3 rfl (RW.here _) hS hs7 trivial sg10_1) ?_
  refine wpS_put rfl rfl rfl (yv_eql rfl rfl) ?_
  refine wpS_quick 2 rfl ?_
  refine wpS_case 48 rfl (fun hb => ?_) (fun hb => ?_)
  rotate_left
  · replace H := cond_f H hb
    refine wpS_quick 8 rfl ?_
    refine wpS_nil ?_
    refine QH_seq_k hK145 ?_
    refine wpC_seq_k (fun K hK180 => ?_)
    refine wpC_seq_k (fun K hK181 => ?_)
    refine wpC_region ?_
    refine wpS_quick 1 rfl ?_
    refine wpS_nil ?_
    refine QH_seq_k hK181 ?_
    refine wpC_cond_f rfl rfl ?_
    refine wpC_skip ?_
    refine QH_seq_k hK180 ?_
    refine wpC_seq_k (fun K hK182 => ?_)
    refine wpC_draw 8 [6] (fun i b => (i = 6 → b ≠ b6)) ⟨by kernel_rfl, by kernel_rfl⟩ hS (fun w hS hB => ?_)
    refine wpR_batch [true, true, true, true] (by decide +kernel) (by repeat (first | exact PF.body | exact PF.round | apply PF.then | apply PF.inBlock | apply PF.jump)) ?_
    refine LtK.put rfl rfl rfl (yv_load_boxA ag_30 rfl (RW.below _) hS hs7 trivial sg0_22) ?_
    refine LtK.put rfl rfl rfl (yv_load_boxA ag_30 rfl (RW.below _) hS hs7 trivial sg0_22) ?_
    refine LtK.put rfl rfl rfl (yv_load_boxA ag_36 rfl (RW.below _) hS hs6 trivial sg0_15) ?_
    refine LtK.put rfl rfl rfl (yv_move rfl) ?_
    refine LtK.nil ?_
    refine wpR_call [false, false, false, false, true] 4 ⟨by decide, by kernel_rfl, by kernel_rfl⟩ rfl rfl ?_
    try dsimp only [pickL]
    obtain ⟨r183, hm184, H⟩ := bind_some H
    refine wpS_call rfl rfl rfl rfl (by kernel_rfl) rfl (c_msg_Back r63 x1 2 false 0 A65 c66 A69 c70 A73 c74 A77 c78 A81 c82 A5_ c5_ _ (SlI.of_rd k67 (hS.rd hs0) (hS.rd_blk hs0)) (SlI.of_rd k71 (hS.row_rd hs1) (hS.row_blk hs1)) (SlI.of_rd k75 (hS.row_rd hs2) (hS.row_blk hs2)) (SlI.of_rd k79 (hS.row_rd hs3) (hS.row_blk hs3)) (SlI.of_rd k83 (hS.row_rd hs4) (hS.row_blk hs4)) (SlW.of_rd s5_.k (hS.rd0 s5_.rd)) hm184) ?_
    rintro e w ⟨A185, c186, rfl, k187, hN⟩; refine ⟨_, rfl, ?_⟩; have hB := hN.pure; have hS := hS.join hN; clear hN
    refine wpS_nil ?_
    refine QH_step hB ?_
    refine wpR_many [5, 6] ⟨by decide, by kernel_rfl⟩ rfl (.call [false, false, false, false, false, true] 5 rfl rfl rfl ?_ (.put [false, false, false, false, false, false, true] 6 rfl rfl rfl ?_ .nil))
    · try dsimp only [pickL]
      refine wpS_sliceM (ps := [(0, .tmp 72)]) [.int .u8 r183.kind, .int .i64 r183.frm, .int .i64 r183.dst, .int .i64 r183.term, .int .i64 r183.cap, .int .i64 r183.last, .int .i64 r183.lastTerm, .int .i64 r183.commit, .bool r183.okk, .slice A185 r183.entries.length c186, .int .i64 r183.snap.index, .int .i64 r183.snap.term, .int .i64 r183.snap.sum, .int .i64 r183.snap.level, .bool r183.snap.final] el_32 zc_36 rfl rfl rfl rfl rfl (by kernel_rfl) hS (fun b189 w hS hB => ?_)
      refine wpS_nil ?_
      refine QH_step hB ?_
      refine wpR_seal [false, false, false, false, false, false, true] 6 ⟨by decide, by kernel_rfl, by kernel_rfl⟩ rfl rfl ?_
      try dsimp only [pickL]
      refine wpS_store rfl rfl rfl CellsOf.agg hS ps7 st0_22 (by kernel_rfl) rfl (fun w hS hB => ?_)
      refine wpS_nil ?_
      refine QH_stepG (hB.sub (fun _ _ h => by simpa using h)) ?_
      refine wpR_batch [false, false, false, false, false, false, false, true] (by decide +kernel) (by repeat (first | exact PF.body | exact PF.round | apply PF.then | apply PF.inBlock | apply PF.jump)) ?_
      refine LtK.put rfl rfl rfl (yv_assign rfl) ?_
      refine LtK.nil ?_
      refine wpR_end (by kernel_rfl) ?_
      refine QH_seq_k hK182 ?_
      refine wpC_ret ?_
      refine QH_ret rfl (RV.cell rfl (load_boxA ag_30 hS hs7 sg0_22) (RV.tmp rfl RV.nil)) rfl ?_
      obtain rfl := Option.some.inj H
      have hS := hS.nilRds
      replace hS := hS.front 2 rfl
      replace hS := hS.absorbQ ⟨r183, A185, c186⟩
      replace hS := hS.front 1 rfl
      replace hS := hS.weak Weak.boxRd
      have hS := hS.front 6 rfl
      have hS := hS.front 6 rfl
      have hS := hS.front 6 rfl
      have hS := hS.front 6 rfl
      have hS := hS.front 6 rfl
      replace hS := hS.cut 7
      exact ⟨A65, c66, A69, c70, A73, c74, A77, c78, A81, c82, (some ⟨b189, 0, none⟩), 1, ([⟨r183, A185, c186⟩] : List Mq), rfl, k67, k71, k75, k79, k83, ⟨Nat.le_refl 1, by decide⟩, rfl, (okq_cons k187 okq_nil), hS⟩
    · try dsimp only [pickL]
      refine wpS_store rfl rfl rfl CellsOf.agg hS ps6 st0_22 (by kernel_rfl) rfl (fun w hS hB => ?_)
      refine wpS_nil ?_
      refine QH_stepG (hB.sub (fun _ _ h => by simpa using h)) ?_
      refine wpR_call [false, false, false, false, false, true] 5 ⟨by decide, by kernel_rfl, by kernel_rfl⟩ rfl rfl ?_
      try dsimp only [pickL]
      refine wpS_sliceM (ps := [(0, .tmp 72)]) [.int .u8 r183.kind, .int .i64 r183.frm, .int .i64 r183.dst, .int .i64 r183.term, .int .i64 r183.cap, .int .i64 r183.last, .int .i64 r183.lastTerm, .int .i64 r183.commit, .bool r183.okk, .slice A185 r183.entries.length c186, .int .i64 r183.snap.index, .int .i64 r183.snap.term, .int .i64 r183.snap.sum, .int .i64 r183.snap.level, .bool r183.snap.final] el_32 zc_36 rfl rfl rfl rfl rfl (by kernel_rfl) hS (fun b189 w hS hB => ?_)
      refine wpS_nil ?_
      refine QH_step hB ?_
      refine wpR_batch [false, false, false, false, false, false, false, true] (by decide +kernel) (by repeat (first | exact PF.body | exact PF.round | apply PF.then | apply PF.inBlock | apply PF.jump)) ?_
      refine LtK.put rfl rfl rfl (yv_assign rfl) ?_
      refine LtK.nil ?_
      refine wpR_end (by kernel_rfl) ?_
      refine QH_seq_k hK182 ?_
      refine wpC_ret ?_
      refine QH_ret rfl (RV.cell rfl (load_boxA ag_30 hS hs7 sg0_22) (RV.tmp rfl RV.nil)) rfl ?_
      obtain rfl := Option.some.inj H
      have hS := hS.nilRds
      replace hS := hS.front 2 rfl
      replace hS := hS.absorbQ ⟨r183, A185, c186⟩
      replace hS := hS.front 1 rfl
      replace hS := hS.weak Weak.boxRd
      have hS := hS.front 6 rfl
      have hS := hS.front 6 rfl
      have hS := hS.front 6 rfl
      have hS := hS.front 6 rfl
      have hS := hS.front 6 rfl
      replace hS := hS.cut 7
      exact ⟨A65, c66, A69, c70, A73, c74, A77, c78, A81, c82, (some ⟨b189, 0, none⟩), 1, ([⟨r183, A185, c186⟩] : List Mq), rfl, k67, k71, k75, k79, k83, ⟨Nat.le_refl 1, by decide⟩, rfl, (okq_cons k187 okq_nil), hS⟩
  replace H := cond_t H hb
  refine wpS_put rfl rfl rfl (yv_load_boxA ag_30 rfl (RW.here _) hS hs7 trivial sg0_22) ?_
  refine wpS_put rfl rfl rfl (yv_fieldAddr fo_36_6 rfl) ?_
  refine wpS_put rfl rfl rfl (yv_load_box sc_3 rfl (RW.here _) hS hs6 trivial sg6_1) ?_
  refine wpS_put rfl rfl rfl (yv_fieldAddr fo_36_5 rfl) ?_
  refine wpS_put rfl rfl rfl (yv_load_box sc_3 rfl (RW.here _) hS hs6 trivial sg5_1) ?_
  obtain ⟨r149, hm150, H⟩ := bind_some H
  refine wpS_call rfl rfl rfl rfl (by kernel_rfl) rfl (c_elect_Newer r63 x1.lastTerm x1.last A65 c66 A69 c70 A73 c74 A77 c78 A81 c82 _ (SlI.of_rd k67 (hS.rd hs0) (hS.rd_blk hs0)) (SlI.of_rd k71 (hS.row_rd hs1) (hS.row_blk hs1)) (SlI.of_rd k75 (hS.row_rd hs2) (hS.row_blk hs2)) (SlI.of_rd k79 (hS.row_rd hs3) (hS.row_blk hs3)) (SlI.of_rd k83 (hS.row_rd hs4) (hS.row_blk hs4)) hm150) ?_
  rintro e w ⟨rfl, hN⟩; refine ⟨_, rfl, ?_⟩; have hB := hN.pure; have hS := hS.join hN; clear hN
  refine wpS_quick 2 rfl ?_
  refine wpS_nil ?_
  refine QH_seq_k hK145 ?_
  refine wpC_seq_k (fun K hK151 => ?_)
  refine wpC_seq_k (fun K hK152 => ?_)
  refine wpC_region ?_
  refine wpS_quick 1 rfl ?_
  refine wpS_nil ?_
  refine QH_seq_k hK152 ?_
  refine wpC_cond rfl (fun hb => ?_) (fun hb => ?_)
  rotate_left
  · replace H := cond_f H hb
    refine wpC_skip ?_
    refine QH_seq_k hK151 ?_
    refine wpC_seq_k (fun K hK170 => ?_)
    refine wpC_draw 8 [6] (fun i b => (i = 6 → b ≠ b6)) ⟨by kernel_rfl, by kernel_rfl⟩ hS (fun w hS hB => ?_)
    refine wpR_batch [true, true, true, true] (by decide +kernel) (by repeat (first | exact PF.body | exact PF.round | apply PF.then | apply PF.inBlock | apply PF.jump)) ?_
    refine LtK.put rfl rfl rfl (yv_load_boxA ag_30 rfl (RW.below _) hS hs7 trivial sg0_22) ?_
    refine LtK.put rfl rfl rfl (yv_load_boxA ag_30 rfl (RW.below _) hS hs7 trivial sg0_22) ?_
    refine LtK.put rfl rfl rfl (yv_load_boxA ag_36 rfl (RW.below _) hS hs6 trivial sg0_15) ?_
    refine LtK.put rfl rfl rfl (yv_move rfl) ?_
    refine LtK.nil ?_
    refine wpR_call [false, false, false, false, true] 4 ⟨by decide, by kernel_rfl, by kernel_rfl⟩ rfl rfl ?_
    try dsimp only [pickL]
    obtain ⟨r171, hm172, H⟩ := bind_some H
    refine wpS_call rfl rfl rfl rfl (by kernel_rfl) rfl (c_msg_Back r63 x1 2 r149 0 A65 c66 A69 c70 A73 c74 A77 c78 A81 c82 A5_ c5_ _ (SlI.of_rd k67 (hS.rd hs0) (hS.rd_blk hs0)) (SlI.of_rd k71 (hS.row_rd hs1) (hS.row_blk hs1)) (SlI.of_rd k75 (hS.row_rd hs2) (hS.row_blk hs2)) (SlI.of_rd k79 (hS.row_rd hs3) (hS.row_blk hs3)) (SlI.of_rd k83 (hS.row_rd hs4) (hS.row_blk hs4)) (SlW.of_rd s5_.k (hS.rd0 s5_.rd)) hm172) ?_
    rintro e w ⟨A173, c174, rfl, k175, hN⟩; refine ⟨_, rfl, ?_⟩; have hB := hN.pure; have hS := hS.join hN; clear hN
    refine wpS_nil ?_
    refine QH_step hB ?_
    refine wpR_many [5, 6] ⟨by decide, by kernel_rfl⟩ rfl (.call [false, false, false, false, false, true] 5 rfl rfl rfl ?_ (.put [false, false, false, false, false, false, true] 6 rfl rfl rfl ?_ .nil))
    · try dsimp only [pickL]
      refine wpS_sliceM (ps := [(0, .tmp 72)]) [.int .u8 r171.kind, .int .i64 r171.frm, .int .i64 r171.dst, .int .i64 r171.term, .int .i64 r171.cap, .int .i64 r171.last, .int .i64 r171.lastTerm, .int .i64 r171.commit, .bool r171.okk, .slice A173 r171.entries.length c174, .int .i64 r171.snap.index, .int .i64 r171.snap.term, .int .i64 r171.snap.sum, .int .i64 r171.snap.level, .bool r171.snap.final] el_32 zc_36 rfl rfl rfl rfl rfl (by kernel_rfl) hS (fun b177 w hS hB => ?_)
      refine wpS_nil ?_
      refine QH_step hB ?_
      refine wpR_seal [false, false, false, false, false, false, true] 6 ⟨by decide, by kernel_rfl, by kernel_rfl⟩ rfl rfl ?_
      try dsimp only [pickL]
      refine wpS_store rfl rfl rfl CellsOf.agg hS ps7 st0_22 (by kernel_rfl) rfl (fun w hS hB => ?_)
      refine wpS_nil ?_
      refine QH_stepG (hB.sub (fun _ _ h => by simpa using h)) ?_
      refine wpR_batch [false, false, false, false, false, false, false, true] (by decide +kernel) (by repeat (first | exact PF.body | exact PF.round | apply PF.then | apply PF.inBlock | apply PF.jump)) ?_
      refine LtK.put rfl rfl rfl (yv_assign rfl) ?_
      refine LtK.nil ?_
      refine wpR_end (by kernel_rfl) ?_
      refine QH_seq_k hK170 ?_
      refine wpC_ret ?_
      refine QH_ret rfl (RV.cell rfl (load_boxA ag_30 hS hs7 sg0_22) (RV.tmp rfl RV.nil)) rfl ?_
      obtain rfl := Option.some.inj H
      have hS := hS.nilRds
      replace hS := hS.front 2 rfl
      replace hS := hS.absorbQ ⟨r171, A173, c174⟩
      replace hS := hS.front 1 rfl
      replace hS := hS.weak Weak.boxRd
      have hS := hS.front 6 rfl
      have hS := hS.front 6 rfl
      have hS := hS.front 6 rfl
      have hS := hS.front 6 rfl
      have hS := hS.front 6 rfl
      replace hS := hS.cut 7
      exact ⟨A65, c66, A69, c70, A73, c74, A77, c78, A81, c82, (some ⟨b177, 0, none⟩), 1, ([⟨r171, A173, c174⟩] : List Mq), rfl, k67, k71, k75, k79, k83, ⟨Nat.le_refl 1, by decide⟩, rfl, (okq_cons k175 okq_nil), hS⟩
    · try dsimp only [pickL]
      refine wpS_store rfl rfl rfl CellsOf.agg hS ps6 st0_22 (by kernel_rfl) rfl (fun w hS hB => ?_)
      refine wpS_nil ?_
      refine QH_stepG (hB.sub (fun _ _ h => by simpa using h)) ?_
      refine wpR_call [false, false, false, false, false, true] 5 ⟨by decide, by kernel_rfl, by kernel_rfl⟩ rfl rfl ?_
      try dsimp only [pickL]
      refine wpS_sliceM (ps := [(0, .tmp 72)]) [.int .u8 r171.kind, .int .i64 r171.frm, .int .i64 r171.dst, .int .i64 r171.term, .int .i64 r171.cap, .int .i64 r171.last, .int .i64 r171.lastTerm, .int .i64 r171.commit, .bool r171.okk, .slice A173 r171.entries.length c174, .int .i64 r171.snap.index, .int .i64 r171.snap.term, .int .i64 r171.snap.sum, .int .i64 r171.snap.level, .bool r171.snap.final] el_32 zc_36 rfl rfl rfl rfl rfl (by kernel_rfl) hS (fun b177 w hS hB => ?_)
      refine wpS_nil ?_
      refine QH_step hB ?_
      refine wpR_batch [false, false, false, false, false, false, false, true] (by decide +kernel) (by repeat (first | exact PF.body | exact PF.round | apply PF.then | apply PF.inBlock | apply PF.jump)) ?_
      refine LtK.put rfl rfl rfl (yv_assign rfl) ?_
      refine LtK.nil ?_
      refine wpR_end (by kernel_rfl) ?_
      refine QH_seq_k hK170 ?_
      refine wpC_ret ?_
      refine QH_ret rfl (RV.cell rfl (load_boxA ag_30 hS hs7 sg0_22) (RV.tmp rfl RV.nil)) rfl ?_
      obtain rfl := Option.some.inj H
      have hS := hS.nilRds
      replace hS := hS.front 2 rfl
      replace hS := hS.absorbQ ⟨r171, A173, c174⟩
      replace hS := hS.front 1 rfl
      replace hS := hS.weak Weak.boxRd
      have hS := hS.front 6 rfl
      have hS := hS.front 6 rfl
      have hS := hS.front 6 rfl
      have hS := hS.front 6 rfl
      have hS := hS.front 6 rfl
      replace hS := hS.cut 7
      exact ⟨A65, c66, A69, c70, A73, c74, A77, c78, A81, c82, (some ⟨b177, 0, none⟩), 1, ([⟨r171, A173, c174⟩] : List Mq), rfl, k67, k71, k75, k79, k83, ⟨Nat.le_refl 1, by decide⟩, rfl, (okq_cons k175 okq_nil), hS⟩
  replace H := cond_t H hb
  refine wpC_region ?_
  refine wpS_put rfl rfl rfl (yv_fieldAddr fo_30_4 rfl) ?_
  refine wpS_put rfl rfl rfl (yv_load_boxA ag_26 rfl (RW.here _) hS hs7 trivial sg4_8) ?_
  refine wpS_put rfl rfl rfl (yv_fieldAddr fo_36_3 rfl) ?_
  refine wpS_put rfl rfl rfl (yv_load_box sc_3 rfl (RW.here _) hS hs6 trivial sg3_1) ?_
  refine wpS_put rfl rfl rfl (yv_fieldAddr fo_36_1 rfl) ?_
  refine wpS_put rfl rfl rfl (yv_load_box sc_3 rfl (RW.here _) hS hs6 trivial sg1_1) ?_
  obtain ⟨r154, hm155, H⟩ := bind_some H
  refine wpS_call rfl rfl rfl rfl (by kernel_rfl) rfl (c_tuple_Hard r63.tuple x1.term x1.frm A65 c66 _ (SlI.of_rd k67 (hS.rd hs0) (hS.rd_blk hs0)) hm155) ?_
  rintro e w ⟨A156, c157, rfl, k158, hN⟩; refine ⟨_, rfl, ?_⟩; have hB := hN.pure; have hS := hS.join hN; clear hN
  refine wpS_quick 1 rfl ?_
  refine wpS_put rfl rfl rfl (yv_extract rfl rfl) ?_
  refine wpS_put rfl rfl rfl (yv_extract rfl rfl) ?_
  refine wpS_put rfl rfl rfl (yv_fieldAddr fo_30_4 rfl) ?_
  refine wpS_store rfl rfl rfl CellsOf.agg hS ps8 st4_8 (by kernel_rfl) rfl (fun w hS hB => ?_)
  refine wpS_nil ?_
  refine QH_seq_k hK151 ?_
  refine wpC_seq_k (fun K hK160 => ?_)
  refine wpC_draw 8 [6] (fun i b => (i = 6 → b ≠ b6)) ⟨by kernel_rfl, by kernel_rfl⟩ hS (fun w hS hB => ?_)
  refine wpR_batch [true, true, true, true] (by decide +kernel) (by repeat (first | exact PF.body | exact PF.round | apply PF.then | apply PF.inBlock | apply PF.jump)) ?_
  refine LtK.put rfl rfl rfl (yv_load_boxA ag_30 rfl (RW.below _) hS hs8 trivial sg0_22) ?_
  refine LtK.put rfl rfl rfl (yv_load_boxA ag_30 rfl (RW.below _) hS hs8 trivial sg0_22) ?_
  refine LtK.put rfl rfl rfl (yv_load_boxA ag_36 rfl (RW.below _) hS hs7 trivial sg0_15) ?_
  refine LtK.put rfl rfl rfl (yv_move rfl) ?_
  refine LtK.nil ?_
  refine wpR_call [false, false, false, false, true] 4 ⟨by decide, by kernel_rfl, by kernel_rfl⟩ rfl rfl ?_
  try dsimp only [pickL]
  obtain ⟨r161, hm162, H⟩ := bind_some H
  refine wpS_call rfl rfl rfl rfl (by kernel_rfl) rfl (c_msg_Back (⟨r63.id, r63.n, r63.role, r63.binary, r154.1, r63.commit, r63.applied, r63.votes, r63.next, r63.mtch, r63.caps⟩ : Co) x1 2 r149 0 A156 c157 A69 c70 A73 c74 A77 c78 A81 c82 A5_ c5_ _ (SlI.of_rd k158 (hS.rd hs0) (hS.rd_blk hs0)) (SlI.of_rd k71 (hS.row_rd hs2) (hS.row_blk hs2)) (SlI.of_rd k75 (hS.row_rd hs3) (hS.row_blk hs3)) (SlI.of_rd k79 (hS.row_rd hs4) (hS.row_blk hs4)) (SlI.of_rd k83 (hS.row_rd hs5) (hS.row_blk hs5)) (SlW.of_rd s5_.k (hS.rd0 s5_.rd)) hm162) ?_
  rintro e w ⟨A163, c164, rfl, k165, hN⟩; refine ⟨_, rfl, ?_⟩; have hB := hN.pure; have hS := hS.join hN; clear hN
  refine wpS_nil ?_
  refine QH_step hB ?_
  refine wpR_many [5, 6] ⟨by decide, by kernel_rfl⟩ rfl (.call [false, false, false, false, false, true] 5 rfl rfl rfl ?_ (.put [false, false, false, false, false, false, true] 6 rfl rfl rfl ?_ .nil))
  · try dsimp only [pickL]
    refine wpS_sliceM (ps := [(0, .tmp 72)]) [.int .u8 r161.kind, .int .i64 r161.frm, .int .i64 r161.dst, .int .i64 r161.term, .int .i64 r161.cap, .int .i64 r161.last, .int .i64 r161.lastTerm, .int .i64 r161.commit, .bool r161.okk, .slice A163 r161.entries.length c164, .int .i64 r161.snap.index, .int .i64 r161.snap.term, .int .i64 r161.snap.sum, .int .i64 r161.snap.level, .bool r161.snap.final] el_32 zc_36 rfl rfl rfl rfl rfl (by kernel_rfl) hS (fun b167 w hS hB => ?_)
    refine wpS_nil ?_
    refine QH_step hB ?_
    refine wpR_seal [false, false, false, false, false, false, true] 6 ⟨by decide, by kernel_rfl, by kernel_rfl⟩ rfl rfl ?_
    try dsimp only [pickL]
    refine wpS_store rfl rfl rfl CellsOf.agg hS ps8 st0_22 (by kernel_rfl) rfl (fun w hS hB => ?_)
    refine wpS_nil ?_
    refine QH_stepG (hB.sub (fun _ _ h => by simpa using h)) ?_
    refine wpR_batch [false, false, false, false, false, false, false, true] (by decide +kernel) (by repeat (first | exact PF.body | exact PF.round | apply PF.then | apply PF.inBlock | apply PF.jump)) ?_
    refine LtK.put rfl rfl rfl (yv_assign rfl) ?_
    refine LtK.nil ?_
    refine wpR_end (by kernel_rfl) ?_
    refine QH_seq_k hK160 ?_
    refine wpC_ret ?_
    refine QH_ret rfl (RV.cell rfl (load_boxA ag_30 hS hs8 sg0_22) (RV.tmp rfl RV.nil)) rfl ?_
    obtain rfl := Option.some.inj H
    have hS := hS.nilRds
    replace hS := hS.front 2 rfl
    replace hS := hS.absorbQ ⟨r161, A163, c164⟩
    replace hS := hS.front 1 rfl
    replace hS := hS.weak Weak.boxRd
    have hS := hS.front 7 rfl
    have hS := hS.front 7 rfl
    have hS := hS.front 7 rfl
    have hS := hS.front 7 rfl
    have hS := hS.front 6 rfl
    replace hS := hS.cut 7
    exact ⟨A156, c157, A69, c70, A73, c74, A77, c78, A81, c82, (some ⟨b167, 0, none⟩), 1, ([⟨r161, A163, c164⟩] : List Mq), rfl, k158, k71, k75, k79, k83, ⟨Nat.le_refl 1, by decide⟩, rfl, (okq_cons k165 okq_nil), hS⟩
  · try dsimp only [pickL]
    refine wpS_store rfl rfl rfl CellsOf.agg hS ps7 st0_22 (by kernel_rfl) rfl (fun w hS hB => ?_)
    refine wpS_nil ?_
    refine QH_stepG (hB.sub (fun _ _ h => by simpa using h)) ?_
    refine wpR_call [false, false, false, false, false, true] 5 ⟨by decide, by kernel_rfl, by kernel_rfl⟩ rfl rfl ?_
    try dsimp only [pickL]
    refine wpS_sliceM (ps := [(0, .tmp 72)]) [.int .u8 r161.kind, .int .i64 r161.frm, .int .i64 r161.dst, .int .i64 r161.term, .int .i64 r161.cap, .int .i64 r161.last, .int .i64 r161.lastTerm, .int .i64 r161.commit, .bool r161.okk, .slice A163 r161.entries.length c164, .int .i64 r161.snap.index, .int .i64 r161.snap.term, .int .i64 r161.snap.sum, .int .i64 r161.snap.level, .bool r161.snap.final] el_32 zc_36 rfl rfl rfl rfl rfl (by kernel_rfl) hS (fun b167 w hS hB => ?_)
    refine wpS_nil ?_
    refine QH_step hB ?_
    refine wpR_batch [false, false, false, false, false, false, false, true] (by decide +kernel) (by repeat (first | exact PF.body | exact PF.round | apply PF.then | apply PF.inBlock | apply PF.jump)) ?_
    refine LtK.put rfl rfl rfl (yv_assign rfl) ?_
    refine LtK.nil ?_
    refine wpR_end (by kernel_rfl) ?_
    refine QH_seq_k hK160 ?_
    refine wpC_ret ?_
    refine QH_ret rfl (RV.cell rfl (load_boxA ag_30 hS hs8 sg0_22) (RV.tmp rfl RV.nil)) rfl ?_
    obtain rfl := Option.some.inj H
    have hS := hS.nilRds
    replace hS := hS.front 2 rfl
    replace hS := hS.absorbQ ⟨r161, A163, c164⟩
    replace hS := hS.front 1 rfl
    replace hS := hS.weak Weak.boxRd
    have hS := hS.front 7 rfl
    have hS := hS.front 7 rfl
    have hS := hS.front 7 rfl
    have hS := hS.front 7 rfl
    have hS := hS.front 6 rfl
    replace hS := hS.cut 7
    exact ⟨A156, c157, A69, c70, A73, c74, A77, c78, A81, c82, (some ⟨b167, 0, none⟩), 1, ([⟨r161, A163, c164⟩] : List Mq), rfl, k158, k71, k75, k79, k83, ⟨Nat.le_refl 1, by decide⟩, rfl, (okq_cons k165 okq_nil), hS⟩
theorem c_elect_Voted (x0 : Co) (x1 : Ms) (A0_ : Option Addr) (c0_ : Nat) (A1_ : Option Addr) (c1_ : Nat) (A2_ : Option Addr) (c2_ : Nat) (A3_ : Option Addr) (c3_ : Nat) (A4_ : Option Addr) (c4_ : Nat) (A5_ : Option Addr) (c5_ : Nat) (w0 : World) (s0_ : SlI w0 enE A0_ c0_ x0.tuple.log) (s1_ : SlI w0 enO A1_ c1_ x0.votes) (s2_ : SlI w0 enI A2_ c2_ x0.next) (s3_ : SlI w0 enI A3_ c3_ x0.mtch) (s4_ : SlI w0 enI A4_ c4_ x0.caps) (s5_ : SlW w0 enE A5_ c5_ x1.entries) {r : Co × List Ms} (H : m_elect_Voted x0 x1 = some r) : Calls Try.prog 19 #[.agg #[.int .i64 x0.id, .int .i64 x0.n, .int .u8 x0.role, .int .i64 x0.binary, .int .i64 x0.tuple.snap.index, .int .i64 x0.tuple.snap.term, .int .i64 x0.tuple.snap.sum, .int .i64 x0.tuple.snap.level, .bool x0.tuple.snap.final, .slice A0_ x0.tuple.log.length c0_, .int .i64 x0.tuple.term, .int .i64 x0.tuple.vote, .int .i64 x0.commit, .int .i64 x0.applied.index, .int .i64 x0.applied.term, .int .i64 x0.applied.sum, .int .i64 x0.applied.level, .bool x0.applied.final, .slice A1_ x0.votes.length c1_, .slice A2_ x0.next.length c2_, .slice A3_ x0.mtch.length c3_, .slice A4_ x0.caps.length c4_], .agg #[.int .u8 x1.kind, .int .i64 x1.frm, .int .i64 x1.dst, .int .i64 x1.term, .int .i64 x1.cap, .int .i64 x1.last, .int .i64 x1.lastTerm, .int .i64 x1.commit, .bool x1.okk, .slice A5_ x1.entries.length c5_, .int .i64 x1.snap.index, .int .i64 x1.snap.term, .int .i64 x1.snap.sum, .int .i64 x1.snap.level, .bool x1.snap.final]] w0 fun e w' => ∃ (A0 : Option Addr) (c0 : Nat) (A1 : Option Addr) (c1 : Nat) (A2 : Option Addr) (c2 : Nat) (A3 : Option Addr) (c3 : Nat) (A4 : Option Addr) (c4 : Nat) (A5 : Option Addr) (c5 : Nat) (q5 : List Mq), e = .returned (.tuple #[.agg #[.int .i64 r.1.id, .int .i64 r.1.n, .int .u8 r.1.role, .int .i64 r.1.binary, .int .i64 r.1.tuple.snap.index, .int .i64 r.1.tuple.snap.term, .int .i64 r.1.tuple.snap.sum, .int .i64 r.1.tuple.snap.level, .bool r.1.tuple.snap.final, .slice A0 r.1.tuple.log.length c0, .int .i64 r.1.tuple.term, .int .i64 r.1.tuple.vote, .int .i64 r.1.commit, .int .i64 r.1.applied.index, .int .i64 r.1.applied.term, .int .i64 r.1.applied.sum, .int .i64 r.1.applied.level, .bool r.1.applied.final, .slice A1 r.1.votes.length c1, .slice A2 r.1.next.length c2, .slice A3 r.1.mtch.length c3, .slice A4 r.1.caps.length c4], .slice A5 r.2.length c5]) ∧ (r.1.tuple.log.length ≤ c0 ∧ c0 ≤ maxLen) ∧ (r.1.votes.length ≤ c1 ∧ c1 ≤ maxLen) ∧ (r.1.next.length ≤ c2 ∧ c2 ≤ maxLen) ∧ (r.1.mtch.length ≤ c3 ∧ c3 ≤ maxLen) ∧ (r.1.caps.length ≤ c4 ∧ c4 ≤ maxLen) ∧ (r.2.length ≤ c5 ∧ c5 ≤ maxLen) ∧ q5.map Mq.m = r.2 ∧ (∀ y ∈ q5, okQ y) ∧ St0 All w0 w' [.rd A0 (encs enE r.1.tuple.log), .row (.slice A1 r.1.votes.length c1) 4 1 r.1.votes.length (encs enO r.1.votes), .row (.slice A2 r.1.next.length c2) 3 1 r.1.next.length (encs enI r.1.next), .row (.slice A3 r.1.mtch.length c3) 3 1 r.1.mtch.length (encs enI r.1.mtch), .row (.slice A4 r.1.caps.length c4) 3 1 r.1.caps.length (encs enI r.1.caps), .rd A5 (encs enQ q5), .rds (q5.map subQ)] := by
  unfold m_elect_Voted at H
  refine gw_enter2 Try.func19 rfl Try.ntmps19 rfl ?_
  have hS := St0.start All w0
  refine wpC_seq_k (fun K hK1 => ?_)
  refine wpC_region ?_
  refine wpS_box rfl rfl rfl CellsOf.agg hS (fun b2 w hS hB => ?_)
  refine wpS_box rfl rfl rfl CellsOf.agg hS (fun b4 w hS hB => ?_)
  refine wpS_alloc rfl rfl zc_30 hS (fun b6 w hS hB => ?_)
  refine wpS_quick 1 rfl ?_
  refine wpS_nil ?_
  refine QH_seq_k hK1 ?_
  refine wpC_scope1 0 rfl ?_
  refine wpC_seq_k (fun K hK8 => ?_)
  refine wpC_seq_k (fun K hK9 => ?_)
  refine wpC_region ?_
  refine wpS_put rfl rfl rfl (yv_load_boxA ag_30 rfl (RW.here _) hS hs2 trivial sg0_22) ?_
  refine wpS_put rfl rfl rfl (yv_load_boxA ag_36 rfl (RW.here _) hS hs1 trivial sg0_15) ?_
  obtain ⟨r10, hm11, H⟩ := bind_some H
  refine wpS_call rfl rfl rfl rfl (by kernel_rfl) rfl (c_elect_fits x0 x1 A0_ c0_ A1_ c1_ A2_ c2_ A3_ c3_ A4_ c4_ A5_ c5_ _ (SlI.of_rd s0_.k (hS.rd0 s0_.rd) (hS.blk0 s0_.blk)) (SlI.of_rd s1_.k (hS.rd0 s1_.rd) (hS.blk0 s1_.blk)) (SlI.of_rd s2_.k (hS.rd0 s2_.rd) (hS.blk0 s2_.blk)) (SlI.of_rd s3_.k (hS.rd0 s3_.rd) (hS.blk0 s3_.blk)) (SlI.of_rd s4_.k (hS.rd0 s4_.rd) (hS.blk0 s4_.blk)) (SlW.of_rd s5_.k (hS.rd0 s5_.rd)) hm11) ?_
  rintro e w ⟨rfl, hN⟩; refine ⟨_, rfl, ?_⟩; have hB := hN.pure; have hS := hS.join hN; clear hN
  refine wpS_put rfl rfl rfl (yv_not rfl) ?_
  refine wpS_quick 1 rfl ?_
  refine wpS_case 10 rfl (fun hb => ?_) (fun hb => ?_)
  · replace H := cond_t H hb
    refine wpS_quick 4 rfl ?_
    refine wpS_nil ?_
    refine QH_seq_k hK9 ?_
    refine wpC_cond_t rfl rfl ?_
    refine wpC_seq_k (fun K hK13 => ?_)
    refine wpC_region ?_
    refine wpS_put rfl rfl rfl (yv_load_boxA ag_30 rfl (RW.here _) hS hs2 trivial sg0_22) ?_
    obtain ⟨r14, hm15, H⟩ := bind_some H
    refine wpS_call rfl rfl rfl rfl (by kernel_rfl) rfl (c_msg_Own x0 A0_ c0_ A1_ c1_ A2_ c2_ A3_ c3_ A4_ c4_ _ (SlI.of_rd s0_.k (hS.rd0 s0_.rd) (hS.blk0 s0_.blk)) (SlI.of_rd s1_.k (hS.rd0 s1_.rd) (hS.blk0 s1_.blk)) (SlI.of_rd s2_.k (hS.rd0 s2_.rd) (hS.blk0 s2_.blk)) (SlI.of_rd s3_.k (hS.rd0 s3_.rd) (hS.blk0 s3_.blk)) (SlI.of_rd s4_.k (hS.rd0 s4_.rd) (hS.blk0 s4_.blk)) hm15) ?_
    rintro e w ⟨A16, c17, A20, c21, A24, c25, A28, c29, A32, c33, rfl, k18, k22, k26, k30, k34, hN⟩; refine ⟨_, rfl, ?_⟩; have hB := hN.pure; have hS := hS.join hN; clear hN
    refine wpS_store rfl rfl rfl CellsOf.agg hS ps5 st0_22 (by kernel_rfl) rfl (fun w hS hB => ?_)
    refine wpS_quick 1 rfl ?_
    refine wpS_nil ?_
    refine QH_seq_k hK13 ?_
    refine wpC_ret ?_
    refine QH_then_ret ?_
    refine QH_jmp_ret ?_
    refine QH_ret rfl (RV.cell rfl (load_boxA ag_30 hS hs5 sg0_22) (RV.tmp rfl RV.nil)) rfl ?_
    obtain rfl := Option.some.inj H
    have hS := hS.nilRds
    replace hS := hS.nilRd
    have hS := hS.front 6 rfl
    have hS := hS.front 6 rfl
    have hS := hS.front 6 rfl
    have hS := hS.front 6 rfl
    have hS := hS.front 6 rfl
    replace hS := hS.weak Weak.rowRd
    replace hS := hS.cut 7
    exact ⟨A16, c17, A20, c21, A24, c25, A28, c29, A32, c33, none, 0, ([] : List Mq), rfl, k18, k22, k26, k30, k34, ⟨Nat.le_refl _, Nat.zero_le _⟩, rfl, okq_nil, hS⟩
  replace H := cond_f H hb
  refine wpS_put rfl rfl rfl (yv_fieldAddr fo_36_0 rfl) ?_
  refine wpS_put rfl rfl rfl (yv_load_box sc_5 rfl (RW.here _) hS hs1 trivial sg0_1) ?_
  refine wpS_put rfl rfl rfl (yv_neq rfl rfl) ?_
  refine wpS_quick 1 rfl ?_
  refine wpS_nil ?_
  refine QH_seq_k hK9 ?_
  refine wpC_cond rfl (fun hb => ?_) (fun hb => ?_)
  · replace H := cond_t H hb
    refine wpC_seq_k (fun K hK38 => ?_)
    refine wpC_region ?_
    refine wpS_put rfl rfl rfl (yv_load_boxA ag_30 rfl (RW.here _) hS hs2 trivial sg0_22) ?_
    obtain ⟨r39, hm40, H⟩ := bind_some H
    refine wpS_call rfl rfl rfl rfl (by kernel_rfl) rfl (c_msg_Own x0 A0_ c0_ A1_ c1_ A2_ c2_ A3_ c3_ A4_ c4_ _ (SlI.of_rd s0_.k (hS.rd0 s0_.rd) (hS.blk0 s0_.blk)) (SlI.of_rd s1_.k (hS.rd0 s1_.rd) (hS.blk0 s1_.blk)) (SlI.of_rd s2_.k (hS.rd0 s2_.rd) (hS.blk0 s2_.blk)) (SlI.of_rd s3_.k (hS.rd0 s3_.rd) (hS.blk0 s3_.blk)) (SlI.of_rd s4_.k (hS.rd0 s4_.rd) (hS.blk0 s4_.blk)) hm40) ?_
    rintro e w ⟨A41, c42, A45, c46, A49, c50, A53, c54, A57, c58, rfl, k43, k47, k51, k55, k59, hN⟩; refine ⟨_, rfl, ?_⟩; have hB := hN.pure; have hS := hS.join hN; clear hN
    refine wpS_store rfl rfl rfl CellsOf.agg hS ps5 st0_22 (by kernel_rfl) rfl (fun w hS hB => ?_)
    refine wpS_quick 1 rfl ?_
    refine wpS_nil ?_
    refine QH_seq_k hK38 ?_
    refine wpC_ret ?_
    refine QH_then_ret ?_
    refine QH_jmp_ret ?_
    refine QH_ret rfl (RV.cell rfl (load_boxA ag_30 hS hs5 sg0_22) (RV.tmp rfl RV.nil)) rfl ?_
    obtain rfl := Option.some.inj H
    have hS := hS.nilRds
    replace hS := hS.nilRd
    have hS := hS.front 6 rfl
    have hS := hS.front 6 rfl
    have hS := hS.front 6 rfl
    have hS := hS.front 6 rfl
    have hS := hS.front 6 rfl
    replace hS := hS.weak Weak.rowRd
    replace hS := hS.cut 7
    exact ⟨A41, c42, A45, c46, A49, c50, A53, c54, A57, c58, none, 0, ([] : List Mq), rfl, k43, k47, k51, k55, k59, ⟨Nat.le_refl _, Nat.zero_le _⟩, rfl, okq_nil, hS⟩
  replace H := cond_f H hb
  refine wpC_skip ?_
  refine QH_seq_k hK8 ?_
  refine wpC_seq_k (fun K hK62 => ?_)
  refine wpC_region ?_
  refine wpS_put rfl rfl rfl (yv_load_boxA ag_30 rfl (RW.here _) hS hs2 trivial sg0_22) ?_
  refine wpS_put rfl rfl rfl (yv_load_boxA ag_36 rfl (RW.here _) hS hs1 trivial sg0_15) ?_
  obtain ⟨r63, hm64, H⟩ := bind_some H
  refine wpS_call rfl rfl rfl rfl (by kernel_rfl) rfl (c_elect_Meet x0 x1 A0_ c0_ A1_ c1_ A2_ c2_ A3_ c3_ A4_ c4_ A5_ c5_ _ (SlI.of_rd s0_.k (hS.rd0 s0_.rd) (hS.blk0 s0_.blk)) (SlI.of_rd s1_.k (hS.rd0 s1_.rd) (hS.blk0 s1_.blk)) (SlI.of_rd s2_.k (hS.rd0 s2_.rd) (hS.blk0 s2_.blk)) (SlI.of_rd s3_.k (hS.rd0 s3_.rd) (hS.blk0 s3_.blk)) (SlI.of_rd s4_.k (hS.rd0 s4_.rd) (hS.blk0 s4_.blk)) (SlW.of_rd s5_.k (hS.rd0 s5_.rd)) hm64) ?_
  rintro e w ⟨A65, c66, A69, c70, A73, c74, A77, c78, A81, c82, rfl, k67, k71, k75, k79, k83, hN⟩; refine ⟨_, rfl, ?_⟩; have hB := hN.pure; have hS := hS.join hN; clear hN
  refine wpS_store rfl rfl rfl CellsOf.agg hS ps7 st0_22 (by kernel_rfl) rfl (fun w hS hB => ?_)
  refine wpS_nil ?_
  refine QH_seq_k hK62 ?_
  refine wpC_seq_k (fun K hK85 => ?_)
  refine wpC_seq_k (fun K hK86 => ?_)
  refine wpC_region ?_
  refine wpS_put rfl rfl rfl (yv_fieldAddr fo_36_8 rfl) ?_
  refine wpS_put rfl rfl rfl (yv_load_box sc_4 rfl (RW.here _) hS hs6 trivial sg8_1) ?_
  refine wpS_put rfl rfl rfl (yv_not rfl) ?_
  refine wpS_quick 1 rfl ?_
  refine wpS_case 23 rfl (fun hb => ?_) (fun hb => ?_)
  · replace H := cond_t H hb
    refine wpS_quick 12 rfl ?_
    refine wpS_nil ?_
    refine QH_seq_k hK86 ?_
    refine wpC_cond_t rfl rfl ?_
    refine wpC_goto ?_
    refine QH_then_goto ?_
    refine QH_ahead ?_
    refine wpC_seq_k (fun K hK88 => ?_)
    refine wpC_skip ?_
    refine QH_seq_k hK88 ?_
    refine wpC_seq_k (fun K hK89 => ?_)
    refine wpC_region ?_
    refine wpS_put rfl rfl rfl (yv_load_boxA ag_30 rfl (RW.here _) hS hs7 trivial sg0_22) ?_
    refine wpS_store rfl rfl rfl CellsOf.agg hS ps5 st0_22 (by kernel_rfl) rfl (fun w hS hB => ?_)
    refine wpS_quick 1 rfl ?_
    refine wpS_nil ?_
    refine QH_seq_k hK89 ?_
    refine wpC_ret ?_
    refine QH_jmp_ret ?_
    refine QH_ret rfl (RV.cell rfl (load_boxA ag_30 hS hs5 sg0_22) (RV.tmp rfl RV.nil)) rfl ?_
    obtain rfl := Option.some.inj H
    have hS := hS.nilRds
    replace hS := hS.nilRd
    have hS := hS.front 6 rfl
    have hS := hS.front 6 rfl
    have hS := hS.front 6 rfl
    have hS := hS.front 6 rfl
    have hS := hS.front 6 rfl
    replace hS := hS.cut 7
    exact ⟨A65, c66, A69, c70, A73, c74, A77, c78, A81, c82, none, 0, ([] : List Mq), rfl, k67, k71, k75, k79, k83, ⟨Nat.le_refl _, Nat.zero_le _⟩, rfl, okq_nil, hS⟩
  replace H := cond_f H hb
  refine wpS_put rfl rfl rfl (yv_fieldAddr fo_30_2 rfl) ?_
  refine wpS_put rfl rfl rfl (yv_load_box sc_5 rfl (RW.here _) hS hs7 trivial sg2_1) ?_
  refine wpS_put rfl rfl rfl (yv_neq rfl rfl) ?_
  refine wpS_quick 2 rfl ?_
  refine wpS_case 28 rfl (fun hb => ?_) (fun hb => ?_)
  · replace H := cond_t H hb
    refine wpS_quick 7 rfl ?_
    refine wpS_nil ?_
    refine QH_seq_k hK86 ?_
    refine wpC_cond_t rfl rfl ?_
    refine wpC_goto ?_
    refine QH_then_goto ?_
    refine QH_ahead ?_
    refine wpC_seq_k (fun K hK92 => ?_)
    refine wpC_skip ?_
    refine QH_seq_k hK92 ?_
    refine wpC_seq_k (fun K hK93 => ?_)
    refine wpC_region ?_
    refine wpS_put rfl rfl rfl (yv_load_boxA ag_30 rfl (RW.here _) hS hs7 trivial sg0_22) ?_
    refine wpS_store rfl rfl rfl CellsOf.agg hS ps5 st0_22 (by kernel_rfl) rfl (fun w hS hB => ?_)
    refine wpS_quick 1 rfl ?_
    refine wpS_nil ?_
    refine QH_seq_k hK93 ?_
    refine wpC_ret ?_
    refine QH_jmp_ret ?_
    refine QH_ret rfl (RV.cell rfl (load_boxA ag_30 hS hs5 sg0_22) (RV.tmp rfl RV.nil)) rfl ?_
    obtain rfl := Option.some.inj H
    have hS := hS.nilRds
    replace hS := hS.nilRd
    have hS := hS.front 6 rfl
    have hS := hS.front 6 rfl
    have hS := hS.front 6 rfl
    have hS := hS.front 6 rfl
    have hS := hS.front 6 rfl
    replace hS := hS.cut 7
    exact ⟨A65, c66, A69, c70, A73, c74, A77, c78, A81, c82, none, 0, ([] : List Mq), rfl, k67, k71, k75, k79, k83, ⟨Nat.le_refl _, Nat.zero_le _⟩, rfl, okq_nil, hS⟩
  replace H := cond_f H hb
  refine wpS_put rfl rfl rfl (yv_fieldAddr fo_36_3 rfl) ?_
  refine wpS_put rfl rfl rfl (yv_load_box sc_3 rfl (RW.here _) hS hs6 trivial sg3_1) ?_
  refine wpS_put rfl rfl rfl (yv_fieldAddr fo_30_4 rfl) ?_
  refine wpS_put rfl rfl rfl (yv_fieldAddr fo_26_2 rfl) ?_
  refine wpS_put rfl rfl rfl (yv_load_box sc_3 rfl (RW.here _) hS hs7 trivial sg10_1) ?_
  refine wpS_put rfl rfl rfl (yv_neq rfl rfl) ?_
  refine wpS_quick 1 rfl ?_
  refine wpS_nil ?_
  refine QH_seq_k hK86 ?_
  refine wpC_cond rfl (fun hb => ?_) (fun hb => ?_)
  · replace H := cond_t H hb
    refine wpC_goto ?_
    refine QH_then_goto ?_
    refine QH_ahead ?_
    refine wpC_seq_k (fun K hK96 => ?_)
    refine wpC_skip ?_
    refine QH_seq_k hK96 ?_
    refine wpC_seq_k (fun K hK97 => ?_)
    refine wpC_region ?_
    refine wpS_put rfl rfl rfl (yv_load_boxA ag_30 rfl (RW.here _) hS hs7 trivial sg0_22) ?_
    refine wpS_store rfl rfl rfl CellsOf.agg hS ps5 st0_22 (by kernel_rfl) rfl (fun w hS hB => ?_)
    refine wpS_quick 1 rfl ?_
    refine wpS_nil ?_
    refine QH_seq_k hK97 ?_
    refine wpC_ret ?_
    refine QH_jmp_ret ?_
    refine QH_ret rfl (RV.cell rfl (load_boxA ag_30 hS hs5 sg0_22) (RV.tmp rfl RV.nil)) rfl ?_
    obtain rfl := Option.some.inj H
    have hS := hS.nilRds
    replace hS := hS.nilRd
    have hS := hS.front 6 rfl
    have hS := hS.front 6 rfl
    have hS := hS.front 6 rfl
    have hS := hS.front 6 rfl
    have hS := hS.front 6 rfl
    replace hS := hS.cut 7
    exact ⟨A65, c66, A69, c70, A73, c74, A77, c78, A81, c82, none, 0, ([] : List Mq), rfl, k67, k71, k75, k79, k83, ⟨Nat.le_refl _, Nat.zero_le _⟩, rfl, okq_nil, hS⟩
  replace H := cond_f H hb
  refine wpC_skip ?_
  refine QH_seq_k hK85 ?_
  refine wpC_seq_k (fun K hK99 => ?_)
  refine wpC_seq_k (fun K hK100 => ?_)
  refine wpC_region ?_
  refine wpS_put rfl rfl rfl (yv_fieldAddr fo_30_7 rfl) ?_
  refine wpS_put rfl rfl rfl (yv_load_box sc_27 rfl (RW.here _) hS hs7 trivial sg18_1) ?_
  refine wpS_put rfl rfl rfl (yv_fieldAddr fo_36_1 rfl) ?_
  refine wpS_put rfl rfl rfl (yv_load_box sc_3 rfl (RW.here _) hS hs6 trivial sg1_1) ?_
  refine wpS_put rfl rfl rfl (yx_sub rfl rfl) ?_
  obtain ⟨e101, hi103, H⟩ := bind_some H
  obtain ⟨j102, hi103a, hi103b, hi103c⟩ := idx_some hi103
  refine wpS_put rfl rfl rfl (yx_idx el_27 rfl rfl hi103a hi103c (Rd.el (hS.row_rd hs1) he_enO hi103b)) ?_
  refine wpX_storeR (a' := true) (zs := (setI r63.votes (IntKind.wrap .i64 (x1.frm - 1)) true)) he_enO rfl rfl rfl CellsOf.bool hS ps1 (Rd.el (hS.row_rd hs1) he_enO hi103b) hi103a hi103b rfl st0_1 (by kernel_rfl) rfl (fun w hS => ?_)
  have hi104b := setI_at (a := true) hi103a hi103b
  have hi104a := hi103a
  refine wpS_nil ?_
  refine QH_seq_k hK100 ?_
  refine wpC_seq_k (fun K hK105 => ?_)
  refine wpC_region ?_
  refine wpS_put rfl rfl rfl (yv_fieldAddr fo_30_7 rfl) ?_
  refine wpS_put rfl rfl rfl (yv_load_box sc_27 rfl (RW.here _) hS hs7 trivial sg18_1) ?_
  obtain ⟨r106, hm107, H⟩ := bind_some H
  refine wpS_call rfl rfl rfl rfl (by kernel_rfl) (by (repeat rw [(setI_len rfl)]); rfl) (c_elect_Half (setI r63.votes (IntKind.wrap .i64 (x1.frm - 1)) true) A69 c70 _ (SlI.of_rd (k_set k71) (hS.row_rd hs1) (hS.row_blk hs1)) hm107) ?_
  rintro e w ⟨rfl, hN⟩; refine ⟨_, rfl, ?_⟩; have hB := hN.pure; have hS := hS.join hN; clear hN
  refine wpS_nil ?_
  refine QH_seq_k hK105 ?_
  refine wpC_cond rfl (fun hb => ?_) (fun hb => ?_)
  rotate_left
  · replace H := cond_f H hb
    refine wpC_skip ?_
    refine QH_seq_k hK99 ?_
    refine wpC_seq_k (fun K hK134 => ?_)
    refine wpC_label ?_
    refine QH_seq_k hK134 ?_
    refine wpC_seq_k (fun K hK135 => ?_)
    refine wpC_region ?_
    refine wpS_put rfl rfl rfl (yv_load_boxA ag_30 rfl (RW.here _) hS hs7 trivial sg0_22) ?_
    refine wpS_store rfl rfl rfl CellsOf.agg hS ps5 st0_22 (by kernel_rfl) rfl (fun w hS hB => ?_)
    refine wpS_quick 1 rfl ?_
    refine wpS_nil ?_
    refine QH_seq_k hK135 ?_
    refine wpC_ret ?_
    refine QH_jmp_ret ?_
    refine QH_ret rfl (RV.cell rfl (load_boxA ag_30 hS hs5 sg0_22) (RV.tmp rfl RV.nil)) rfl ?_
    obtain rfl := Option.some.inj H
    have hS := hS.nilRds
    replace hS := hS.nilRd
    have hS := hS.front 6 rfl
    have hS := hS.front 6 rfl
    have hS := hS.front 6 rfl
    have hS := hS.front 6 rfl
    have hS := hS.front 6 rfl
    replace hS := hS.cut 7
    exact ⟨A65, c66, A69, c70, A73, c74, A77, c78, A81, c82, none, 0, ([] : List Mq), by (repeat rw [(setI_len rfl)]); rfl, k67, (k_set k71), k75, k79, k83, ⟨Nat.le_refl _, Nat.zero_le _⟩, rfl, okq_nil, hS.eqv (by (repeat rw [(setI_len rfl)]); rfl)⟩
  replace H := cond_t H hb
  refine wpC_region ?_
  refine wpS_put rfl rfl rfl (yv_load_boxA ag_30 rfl (RW.here _) hS hs7 trivial sg0_22) ?_
  obtain ⟨r109, hm110, H⟩ := bind_some H
  refine wpS_call rfl rfl rfl rfl (by kernel_rfl) (by (repeat rw [(setI_len rfl)]); rfl) (c_elect_Lead (⟨r63.id, r63.n, r63.role, r63.binary, r63.tuple, r63.commit, r63.applied, (setI r63.votes (IntKind.wrap .i64 (x1.frm - 1)) true), r63.next, r63.mtch, r63.caps⟩ : Co) A65 c66 A69 c70 A73 c74 A77 c78 A81 c82 _ (SlI.of_rd k67 (hS.rd hs0) (hS.rd_blk hs0)) (SlI.of_rd (k_set k71) (hS.row_rd hs1) (hS.row_blk hs1)) (SlI.of_rd k75 (hS.row_rd hs2) (hS.row_blk hs2)) (SlI.of_rd k79 (hS.row_rd hs3) (hS.row_blk hs3)) (SlI.of_rd k83 (hS.row_rd hs4) (hS.row_blk hs4)) hm110) ?_
  rintro e w ⟨A111, c112, A115, c116, A119, c120, A123, c124, A127, c128, rfl, k113, k117, k121, k125, k129, hN⟩; refine ⟨_, rfl, ?_⟩; have hB := hN.pure; have hS := hS.join hN; clear hN
  refine wpS_store rfl rfl rfl CellsOf.agg hS ps12 st0_22 (by kernel_rfl) rfl (fun w hS hB => ?_)
  refine wpS_nil ?_
  refine QH_seq_k hK99 ?_
  refine wpC_seq_k (fun K hK131 => ?_)
  refine wpC_label ?_
  refine QH_seq_k hK131 ?_
  refine wpC_seq_k (fun K hK132 => ?_)
  refine wpC_region ?_
  refine wpS_put rfl rfl rfl (yv_load_boxA ag_30 rfl (RW.here _) hS hs12 trivial sg0_22) ?_
  refine wpS_store rfl rfl rfl CellsOf.agg hS ps10 st0_22 (by kernel_rfl) rfl (fun w hS hB => ?_)
  refine wpS_quick 1 rfl ?_
  refine wpS_nil ?_
  refine QH_seq_k hK132 ?_
  refine wpC_ret ?_
  refine QH_jmp_ret ?_
  refine QH_ret rfl (RV.cell rfl (load_boxA ag_30 hS hs10 sg0_22) (RV.tmp rfl RV.nil)) rfl ?_
  obtain rfl := Option.some.inj H
  have hS := hS.nilRds
  replace hS := hS.nilRd
  have hS := hS.front 6 rfl
  have hS := hS.front 6 rfl
  have hS := hS.front 6 rfl
  have hS := hS.front 6 rfl
  have hS := hS.front 6 rfl
  replace hS := hS.cut 7
  exact ⟨A111, c112, A115, c116, A119, c120, A123, c124, A127, c128, none, 0, ([] : List Mq), rfl, k113, k117, k121, k125, k129, ⟨Nat.le_refl _, Nat.zero_le _⟩, rfl, okq_nil, hS⟩
theorem c_law22_wakes (w0 : World) {r : Bool} (H : m_law22_wakes = some r) : Calls Try.prog 11 #[] w0 fun e w' => e = .returned (.bool r) ∧ St0 All w0 w' [] := by
  unfold m_law22_wakes at H
  refine gw_enter0 Try.func11 rfl Try.ntmps11 rfl ?_
  have hS := St0.start All w0
  refine wpC_seq_k (fun K hK1 => ?_)
  refine wpC_region ?_
  refine wpS_quick 1 rfl ?_
  refine wpS_nil ?_
  refine QH_seq_k hK1 ?_
  refine wpC_seq_k (fun K hK2 => ?_)
  refine wpC_region ?_
  obtain ⟨r3, hm4, H⟩ := bind_some H
  refine wpS_call rfl rfl rfl rfl (by kernel_rfl) rfl (c_ref12_First _ hm4) ?_
  rintro e w ⟨A5, c6, rfl, k7, hN⟩; refine ⟨_, rfl, ?_⟩; have hB := hN.pure; have hS := hS.join hN; clear hN
  obtain ⟨r9, hm10, H⟩ := bind_some H
  refine wpS_call rfl rfl rfl rfl (by kernel_rfl) rfl (c_ref20_New 1 1 1 r3 A5 c6 _ (SlI.of_rd k7 (hS.rd hs0) (hS.rd_blk hs0)) hm10) ?_
  rintro e w ⟨A11, c12, A15, c16, A19, c20, A23, c24, A27, c28, rfl, k13, k17, k21, k25, k29, hN⟩; refine ⟨_, rfl, ?_⟩; have hB := hN.pure; have hS := hS.join hN; clear hN
  obtain ⟨r31, hm32, H⟩ := bind_some H
  refine wpS_call rfl rfl rfl rfl (by kernel_rfl) rfl (c_elect_Timeout r9 A11 c12 A15 c16 A19 c20 A23 c24 A27 c28 _ (SlI.of_rd k13 (hS.row_rd hs0) (hS.row_blk hs0)) (SlI.of_rd k17 (hS.row_rd hs1) (hS.row_blk hs1)) (SlI.of_rd k21 (hS.row_rd hs2) (hS.row_blk hs2)) (SlI.of_rd k25 (hS.row_rd hs3) (hS.row_blk hs3)) (SlI.of_rd k29 (hS.row_rd hs4) (hS.row_blk hs4)) hm32) ?_
  rintro e w ⟨A33, c34, A37, c38, A41, c42, A45, c46, A49, c50, A53, c54, q57, rfl, k35, k39, k43, k47, k51, k55, hq58, okq59, hN⟩; refine ⟨_, rfl, ?_⟩; have hB := hN.pure; have hS := hS.join hN; clear hN
  refine wpS_quick 1 rfl ?_
  refine wpS_put rfl rfl rfl (yv_extract rfl rfl) ?_
  refine wpS_put rfl rfl rfl (yv_extract rfl rfl) ?_
  refine wpS_alloc rfl rfl zc_30 hS (fun b61 w hS hB => ?_)
  refine wpS_store rfl rfl rfl CellsOf.agg hS ps0 st0_22 (by kernel_rfl) rfl (fun w hS hB => ?_)
  refine wpS_quick 1 rfl ?_
  refine wpS_nil ?_
  refine QH_seq_k hK2 ?_
  refine wpC_seq_k (fun K hK63 => ?_)
  refine wpC_region ?_
  obtain ⟨r64, hm65, H⟩ := bind_some H
  refine wpS_call rfl rfl rfl rfl (by kernel_rfl) rfl (c_ref12_First _ hm65) ?_
  rintro e w ⟨A66, c67, rfl, k68, hN⟩; refine ⟨_, rfl, ?_⟩; have hB := hN.pure; have hS := hS.join hN; clear hN
  obtain ⟨r70, hm71, H⟩ := bind_some H
  refine wpS_call rfl rfl rfl rfl (by kernel_rfl) rfl (c_ref20_New 1 3 1 r64 A66 c67 _ (SlI.of_rd k68 (hS.rd hs0) (hS.rd_blk hs0)) hm71) ?_
  rintro e w ⟨A72, c73, A76, c77, A80, c81, A84, c85, A88, c89, rfl, k74, k78, k82, k86, k90, hN⟩; refine ⟨_, rfl, ?_⟩; have hB := hN.pure; have hS := hS.join hN; clear hN
  obtain ⟨r92, hm93, H⟩ := bind_some H
  refine wpS_call rfl rfl rfl rfl (by kernel_rfl) rfl (c_elect_Timeout r70 A72 c73 A76 c77 A80 c81 A84 c85 A88 c89 _ (SlI.of_rd k74 (hS.row_rd hs0) (hS.row_blk hs0)) (SlI.of_rd k78 (hS.row_rd hs1) (hS.row_blk hs1)) (SlI.of_rd k82 (hS.row_rd hs2) (hS.row_blk hs2)) (SlI.of_rd k86 (hS.row_rd hs3) (hS.row_blk hs3)) (SlI.of_rd k90 (hS.row_rd hs4) (hS.row_blk hs4)) hm93) ?_
  rintro e w ⟨A94, c95, A98, c99, A102, c103, A106, c107, A110, c111, A114, c115, q118, rfl, k96, k100, k104, k108, k112, k116, hq119, okq120, hN⟩; refine ⟨_, rfl, ?_⟩; have hB := hN.pure; have hS := hS.join hN; clear hN
  refine wpS_quick 1 rfl ?_
  refine wpS_put rfl rfl rfl (yv_extract rfl rfl) ?_
  refine wpS_put rfl rfl rfl (yv_extract rfl rfl) ?_
  refine wpS_alloc rfl rfl zc_30 hS (fun b122 w hS hB => ?_)
  refine wpS_store rfl rfl rfl CellsOf.agg hS ps0 st0_22 (by kernel_rfl) rfl (fun w hS hB => ?_)
  refine wpS_quick 1 rfl ?_
  refine wpS_nil ?_
  refine QH_seq_k hK63 ?_
  refine wpC_seq_k (fun K hK124 => ?_)
  refine wpC_seq_k (fun K hK125 => ?_)
  refine wpC_region ?_
  refine wpS_quick 1 rfl ?_
  refine wpS_put rfl rfl rfl (yv_len el_32 rfl) ?_
  refine wpS_put rfl rfl rfl (yv_neq rfl rfl) ?_
  refine wpS_quick 1 rfl ?_
  refine wpS_case 26 rfl (fun hb => ?_) (fun hb => ?_)
  · replace H := cond_t H hb
    refine wpS_quick 5 rfl ?_
    refine wpS_nil ?_
    refine QH_seq_k hK125 ?_
    refine wpC_cond_t rfl rfl ?_
    refine wpC_seq_k (fun K hK127 => ?_)
    refine wpC_region ?_
    refine wpS_quick 1 rfl ?_
    refine wpS_nil ?_
    refine QH_seq_k hK127 ?_
    refine wpC_ret ?_
    refine QH_then_ret ?_
    refine QH_ret rfl (RV.tmp rfl RV.nil) rfl ?_
    obtain rfl := Option.some.inj H
    replace hS := hS.cut 0
    exact ⟨rfl, hS⟩
  replace H := cond_f H hb
  refine wpS_put rfl rfl rfl (yv_fieldAddr fo_30_7 rfl) ?_
  refine wpS_put rfl rfl rfl (yv_load_box sc_27 rfl (RW.here _) hS hs0 trivial sg18_1) ?_
  refine wpS_put rfl rfl rfl (yv_len el_27 rfl) ?_
  refine wpS_put rfl rfl rfl (yv_neq rfl rfl) ?_
  refine wpS_quick 1 rfl ?_
  refine wpS_nil ?_
  refine QH_seq_k hK125 ?_
  refine wpC_cond rfl (fun hb => ?_) (fun hb => ?_)
  · replace H := cond_t H hb
    refine wpC_seq_k (fun K hK130 => ?_)
    refine wpC_region ?_
    refine wpS_quick 1 rfl ?_
    refine wpS_nil ?_
    refine QH_seq_k hK130 ?_
    refine wpC_ret ?_
    refine QH_then_ret ?_
    refine QH_ret rfl (RV.tmp rfl RV.nil) rfl ?_
    obtain rfl := Option.some.inj H
    replace hS := hS.cut 0
    exact ⟨rfl, hS⟩
  replace H := cond_f H hb
  refine wpC_skip ?_
  refine QH_seq_k hK124 ?_
  refine wpC_seq_k (fun K hK132 => ?_)
  refine wpC_draw 12 [10] (fun i b => (i = 10 → b = b122 ∨ b = b61)) ⟨by kernel_rfl, by kernel_rfl⟩ hS (fun w hS hB => ?_)
  refine wpRF_start [⟨9, 5, 30, [.int .i64 0, .int .i64 0, .int .u8 0, .int .i64 0, .int .i64 0, .int .i64 0, .int .i64 0, .int .i64 0, .bool false, .slice none 0 0, .int .i64 0, .int .i64 0, .int .i64 0, .int .i64 0, .int .i64 0, .int .i64 0, .int .i64 0, .bool false, .slice none 0 0, .slice none 0 0, .slice none 0 0, .slice none 0 0]⟩] (.cons rfl zc_30 rfl rfl rfl .nil) hS (fun hok => ?_)
  dsimp only [List.cons_append, List.nil_append]
  refine wpRF_batch [false, false, true, true, true] [] (fun _ => True) (by decide +kernel) (fun _ h => by cases h) (by repeat (first | exact PF.body | exact PF.round | apply PF.then | apply PF.inBlock | apply PF.jump)) (fun X Y tk ht w hS => ?_)
  refine LtK.put rfl rfl rfl (yv_move rfl) ?_
  obtain ⟨e133, hi135, H⟩ := bind_some H
  obtain ⟨j134, A136, c137, hi135a, hi135b, hi135c⟩ := idxQ (q := q118) hq119 hi135
  refine LtK.put rfl rfl rfl (yx_idx el_32 rfl rfl hi135a hi135c (Rd.el (hS.rd hs6) he_enQ hi135b)) ?_
  refine LtK.put rfl rfl rfl (yx_ldA0 ag_36 rfl (RW.keepB _ _) (Rd.el (hS.rd hs6) he_enQ hi135b) sg0_15) ?_
  refine LtK_F' ht hS (by repeat (first | exact App.nil | apply App.cons)) (by repeat (first | exact App.nil | apply App.cons)) ?_
  dsimp only [List.cons_append, List.nil_append]
  refine wpRF_call [true] 0 hok ⟨by decide, by decide +kernel, by decide, by decide⟩ rfl rfl (fun _ => rfl) (fun _ => rfl) rfl (hend_of (by decide +kernel)) (fun X Y tk ht w hS => ?_)
  try dsimp only [pickL]
  obtain ⟨r138, hm139, H⟩ := bind_some H
  refine wpS_call rfl rfl rfl rfl (by kernel_rfl) rfl (c_ref12_First _ hm139) ?_
  rintro e w ⟨A140, c141, rfl, k142, hN⟩; refine ⟨_, rfl, ?_⟩; have hB := hN.pure; have hS := hS.join hN; clear hN
  refine wpS_nil ?_
  refine QH_stepF' ht hS hB (by repeat (first | exact App.nil | apply App.cons)) (by repeat (first | exact App.nil | apply App.cons)) ?_
  dsimp only [List.cons_append, List.nil_append]
  refine wpRF_call [false, true] 1 hok ⟨by decide, by decide +kernel, by decide, by decide⟩ rfl rfl (fun _ => rfl) (fun _ => rfl) rfl (hend_of (by decide +kernel)) (fun X Y tk ht w hS => ?_)
  try dsimp only [pickL]
  obtain ⟨r144, hm145, H⟩ := bind_some H
  refine wpS_call rfl rfl rfl rfl (by kernel_rfl) rfl (c_ref20_New 2 3 2 r138 A140 c141 _ (SlI.of_rd k142 (hS.rd hs0) (hS.rd_blk hs0)) hm145) ?_
  rintro e w ⟨A146, c147, A150, c151, A154, c155, A158, c159, A162, c163, rfl, k148, k152, k156, k160, k164, hN⟩; refine ⟨_, rfl, ?_⟩; have hB := hN.pure; have hS := hS.join hN; clear hN
  refine wpS_nil ?_
  refine QH_stepF' ht hS hB (by repeat (first | exact App.nil | apply App.cons)) (by repeat (first | exact App.nil | apply App.cons)) ?_
  dsimp only [List.cons_append, List.nil_append]
  refine wpRF_call [false, false, false, false, false, true] 5 hok ⟨by decide, by decide +kernel, by decide, by decide⟩ rfl rfl (fun _ => rfl) (fun _ => rfl) rfl (hend_of (by decide +kernel)) (fun X Y tk ht w hS => ?_)
  try dsimp only [pickL]
  obtain ⟨r166, hm167, H⟩ := bind_some H
  refine wpS_call rfl rfl rfl rfl (by kernel_rfl) rfl (c_elect_Vote r144 e133 A146 c147 A150 c151 A154 c155 A158 c159 A162 c163 A136 c137 _ (SlI.of_rd k148 (hS.row_rd hs0) (hS.row_blk hs0)) (SlI.of_rd k152 (hS.row_rd hs1) (hS.row_blk hs1)) (SlI.of_rd k156 (hS.row_rd hs2) (hS.row_blk hs2)) (SlI.of_rd k160 (hS.row_rd hs3) (hS.row_blk hs3)) (SlI.of_rd k164 (hS.row_rd hs4) (hS.row_blk hs4)) (SlW.of_rd (okq120 _ (List.mem_of_getElem? hi135b)) (hS.rds_rd hs13 hi135b)) hm167) ?_
  rintro e w ⟨A168, c169, A172, c173, A176, c177, A180, c181, A184, c185, A188, c189, q192, rfl, k170, k174, k178, k182, k186, k190, hq193, okq194, hN⟩; refine ⟨_, rfl, ?_⟩; have hB := hN.pure; have hS := hS.join hN; clear hN
  refine wpS_nil ?_
  refine QH_stepF' ht hS hB (by repeat (first | exact App.nil | apply App.cons)) (by repeat (first | exact App.nil | apply App.cons)) ?_
  dsimp only [List.cons_append, List.nil_append]
  refine wpRF_batch [false, false, false, false, false, false, true, true] [] (fun _ => True) (by decide +kernel) (fun _ h => by cases h) (by repeat (first | exact PF.body | exact PF.round | apply PF.then | apply PF.inBlock | apply PF.jump)) (fun X Y tk ht w hS => ?_)
  refine LtK.put rfl rfl rfl (yv_move rfl) ?_
  refine LtK.put rfl rfl rfl (yv_extract rfl rfl) ?_
  refine LtK_F' ht hS (by repeat (first | exact App.nil | apply App.cons)) (by repeat (first | exact App.nil | apply App.cons)) ?_
  dsimp only [List.cons_append, List.nil_append]
  refine wpRF_batch [false, false, false, false, false, false, false, false, true] [10] (fun b => (b = b122 ∨ b = b61)) (by decide +kernel) (by intro j hj b hb; simp only [List.mem_cons, List.not_mem_nil, or_false] at hj; (try rcases hj with rfl | rfl | rfl | rfl | rfl) <;> first | (simp [hb]; done) | simp_all) (by repeat (first | exact PF.body | exact PF.round | apply PF.then | apply PF.inBlock | apply PF.jump)) (fun X Y tk ht w hS => ?_)
  refine LtK.put rfl rfl rfl (yv_extract rfl rfl) ?_
  refine LtK_F' ht hS (by repeat (first | exact App.nil | apply App.cons)) (by repeat (first | exact App.nil | apply App.cons)) ?_
  dsimp only [List.cons_append, List.nil_append]
  refine wpRF_done hok (by decide) (by decide +kernel) (fun _ => rfl) (fun _ => rfl) rfl (fun tk htk w hS => ?_)
  obtain ⟨b196, tkb196, rfl, htk198⟩ := tk_cons htk
  obtain rfl := tk_nil htk198
  dsimp only [tkH, tkL, List.map] at hS ⊢
  refine wpR_seal [false, false, false, false, false, false, false, false, false, false, true] 10 ⟨by decide, by kernel_rfl, by kernel_rfl⟩ rfl rfl ?_
  try dsimp only [pickL]
  refine wpS_store rfl rfl rfl CellsOf.agg hS ps41 st0_22 (by kernel_rfl) rfl (fun w hS hB => ?_)
  refine wpS_nil ?_
  refine QH_stepG (hB.sub (fun b _ h => by have h0 : b = b122 ∨ b = b61 := (by simpa using h); rcases h0 with h0 | h0; (rw [h0]; exact hS.ne 13 41 rfl rfl rfl); (rw [h0]; exact hS.ne 27 41 rfl rfl rfl))) ?_
  refine wpR_batch [false, false, false, false, false, false, false, false, false, false, false, true] (by decide +kernel) (by repeat (first | exact PF.body | exact PF.round | apply PF.then | apply PF.inBlock | apply PF.jump)) ?_
  refine LtK.put rfl rfl rfl (yv_assign rfl) ?_
  refine LtK.nil ?_
  refine wpR_end (by kernel_rfl) ?_
  refine QH_seq_k hK132 ?_
  refine wpC_seq_k (fun K hK199 => ?_)
  refine wpC_seq_k (fun K hK200 => ?_)
  refine wpC_region ?_
  refine wpS_quick 1 rfl ?_
  refine wpS_put rfl rfl rfl (yv_len el_32 rfl) ?_
  refine wpS_put rfl rfl rfl (yv_neq rfl rfl) ?_
  refine wpS_nil ?_
  refine QH_seq_k hK200 ?_
  refine wpC_cond rfl (fun hb => ?_) (fun hb => ?_)
  · replace H := cond_t H hb
    refine wpC_seq_k (fun K hK202 => ?_)
    refine wpC_region ?_
    refine wpS_quick 1 rfl ?_
    refine wpS_nil ?_
    refine QH_seq_k hK202 ?_
    refine wpC_ret ?_
    refine QH_then_ret ?_
    refine QH_ret rfl (RV.tmp rfl RV.nil) rfl ?_
    obtain rfl := Option.some.inj H
    replace hS := hS.cut 0
    exact ⟨rfl, hS⟩
  replace H := cond_f H hb
  refine wpC_skip ?_
  refine QH_seq_k hK199 ?_
  refine wpC_seq_k (fun K hK204 => ?_)
  refine wpC_draw 11 [9] (fun i b => (i = 9 → b = b122 ∨ b = b61 ∨ b = b196)) ⟨by kernel_rfl, by kernel_rfl⟩ hS (fun w hS hB => ?_)
  refine wpRF_start [⟨8, 7, 30, [.int .i64 0, .int .i64 0, .int .u8 0, .int .i64 0, .int .i64 0, .int .i64 0, .int .i64 0, .int .i64 0, .bool false, .slice none 0 0, .int .i64 0, .int .i64 0, .int .i64 0, .int .i64 0, .int .i64 0, .int .i64 0, .int .i64 0, .bool false, .slice none 0 0, .slice none 0 0, .slice none 0 0, .slice none 0 0]⟩] (.cons rfl zc_30 rfl rfl rfl .nil) hS (fun hok => ?_)
  dsimp only [List.cons_append, List.nil_append]
  refine wpRF_batch [true, true, true, true] [] (fun _ => True) (by decide +kernel) (fun _ h => by cases h) (by repeat (first | exact PF.body | exact PF.round | apply PF.then | apply PF.inBlock | apply PF.jump)) (fun X Y tk ht w hS => ?_)
  refine LtK.put rfl rfl rfl (yv_load_boxA ag_30 rfl (RW.keepB _ _) hS hs13 trivial sg0_22) ?_
  refine LtK.put rfl rfl rfl (yv_move rfl) ?_
  obtain ⟨e205, hi207, H⟩ := bind_some H
  obtain ⟨j206, A208, c209, hi207a, hi207b, hi207c⟩ := idxQ (q := q192) hq193 hi207
  refine LtK.put rfl rfl rfl (yx_idx el_32 rfl rfl hi207a hi207c (Rd.el (hS.rd hs5) he_enQ hi207b)) ?_
  refine LtK.put rfl rfl rfl (yx_ldA0 ag_36 rfl (RW.keepB _ _) (Rd.el (hS.rd hs5) he_enQ hi207b) sg0_15) ?_
  refine LtK_F' ht hS (by repeat (first | exact App.nil | apply App.cons)) (by repeat (first | exact App.nil | apply App.cons)) ?_
  dsimp only [List.cons_append, List.nil_append]
  refine wpRF_call [false, false, false, false, true] 4 hok ⟨by decide, by decide +kernel, by decide, by decide⟩ rfl rfl (fun _ => rfl) (fun _ => rfl) rfl (hend_of (by decide +kernel)) (fun X Y tk ht w hS => ?_)
  try dsimp only [pickL]
  obtain ⟨r210, hm211, H⟩ := bind_some H
  refine wpS_call rfl rfl rfl rfl (by kernel_rfl) rfl (c_elect_Voted r92.1 e205 A94 c95 A98 c99 A102 c103 A106 c107 A110 c111 A208 c209 _ (SlI.of_rd k96 (hS.rd hs14) (hS.rd_blk hs14)) (SlI.of_rd k100 (hS.row_rd hs15) (hS.row_blk hs15)) (SlI.of_rd k104 (hS.row_rd hs16) (hS.row_blk hs16)) (SlI.of_rd k108 (hS.row_rd hs17) (hS.row_blk hs17)) (SlI.of_rd k112 (hS.row_rd hs18) (hS.row_blk hs18)) (SlW.of_rd (okq194 _ (List.mem_of_getElem? hi207b)) (hS.rds_rd hs6 hi207b)) hm211) ?_
  rintro e w ⟨A212, c213, A216, c217, A220, c221, A224, c225, A228, c229, A232, c233, q236, rfl, k214, k218, k222, k226, k230, k234, hq237, okq238, hN⟩; refine ⟨_, rfl, ?_⟩; have hB := hN.pure; have hS := hS.join hN; clear hN
  refine wpS_nil ?_
  refine QH_stepF' ht hS hB (by repeat (first | exact App.nil | apply App.cons)) (by repeat (first | exact App.nil | apply App.cons)) ?_
  dsimp only [List.cons_append, List.nil_append]
  refine wpRF_batch [false, false, false, false, false, true, true] [] (fun _ => True) (by decide +kernel) (fun _ h => by cases h) (by repeat (first | exact PF.body | exact PF.round | apply PF.then | apply PF.inBlock | apply PF.jump)) (fun X Y tk ht w hS => ?_)
  refine LtK.put rfl rfl rfl (yv_move rfl) ?_
  refine LtK.put rfl rfl rfl (yv_extract rfl rfl) ?_
  refine LtK_F' ht hS (by repeat (first | exact App.nil | apply App.cons)) (by repeat (first | exact App.nil | apply App.cons)) ?_
  dsimp only [List.cons_append, List.nil_append]
  refine wpRF_batch [false, false, false, false, false, false, false, true] [9] (fun b => (b = b122 ∨ b = b61 ∨ b = b196)) (by decide +kernel) (by intro j hj b hb; simp only [List.mem_cons, List.not_mem_nil, or_false] at hj; (try rcases hj with rfl | rfl | rfl | rfl | rfl) <;> first | (simp [hb]; done) | simp_all) (by repeat (first | exact PF.body | exact PF.round | apply PF.then | apply PF.inBlock | apply PF.jump)) (fun X Y tk ht w hS => ?_)
  refine LtK.put rfl rfl rfl (yv_extract rfl rfl) ?_
  refine LtK_F' ht hS (by repeat (first | exact App.nil | apply App.cons)) (by repeat (first | exact App.nil | apply App.cons)) ?_
  dsimp only [List.cons_append, List.nil_append]
  refine wpRF_done hok (by decide) (by decide +kernel) (fun _ => rfl) (fun _ => rfl) rfl (fun tk htk w hS => ?_)
  obtain ⟨b240, tkb240, rfl, htk242⟩ := tk_cons htk
  obtain rfl := tk_nil htk242
  dsimp only [tkH, tkL, List.map] at hS ⊢
  refine wpR_seal [false, false, false, false, false, false, false, false, false, true] 9 ⟨by decide, by kernel_rfl, by kernel_rfl⟩ rfl rfl ?_
  try dsimp only [pickL]
  refine wpS_store rfl rfl rfl CellsOf.agg hS ps49 st0_22 (by kernel_rfl) rfl (fun w hS hB => ?_)
  refine wpS_nil ?_
  refine QH_stepG (hB.sub (fun b _ h => by have h0 : b = b122 ∨ b = b61 ∨ b = b196 := (by simpa using h); rcases h0 with h0 | h0 | h0; (rw [h0]; exact hS.ne 20 49 rfl rfl rfl); (rw [h0]; exact hS.ne 34 49 rfl rfl rfl); (rw [h0]; exact hS.ne 48 49 rfl rfl rfl))) ?_
  refine wpR_batch [false, false, false, false, false, false, false, false, false, false, true] (by decide +kernel) (by repeat (first | exact PF.body | exact PF.round | apply PF.then | apply PF.inBlock | apply PF.jump)) ?_
  refine LtK.put rfl rfl rfl (yv_assign rfl) ?_
  refine LtK.nil ?_
  refine wpR_end (by kernel_rfl) ?_
  refine QH_seq_k hK204 ?_
  refine wpC_seq_k (fun K hK243 => ?_)
  refine wpC_region ?_
  refine wpS_put rfl rfl rfl (yv_load_boxA ag_30 rfl (RW.here _) hS hs48 trivial sg0_22) ?_
  refine wpS_put rfl rfl rfl (yv_build (cells := [.int .u8 1, .int .i64 3, .int .i64 2, .int .i64 1, .int .i64 1, .int .i64 0, .int .i64 0, .int .i64 0, .bool false, .slice none 0 0, .int .i64 0, .int .i64 0, .int .i64 0, .int .i64 0, .bool false]) rfl (by kernel_rfl)) ?_
  obtain ⟨r244, hm245, H⟩ := bind_some H
  refine wpS_call rfl rfl rfl rfl (by kernel_rfl) rfl (c_elect_Vote r166.1 (⟨1, 3, 2, 1, 1, 0, 0, 0, false, [], (⟨0, 0, 0, 0, false⟩ : St)⟩ : Ms) A168 c169 A172 c173 A176 c177 A180 c181 A184 c185 none 0 _ (SlI.of_rd k170 (hS.rd hs7) (hS.rd_blk hs7)) (SlI.of_rd k174 (hS.row_rd hs8) (hS.row_blk hs8)) (SlI.of_rd k178 (hS.row_rd hs9) (hS.row_blk hs9)) (SlI.of_rd k182 (hS.row_rd hs10) (hS.row_blk hs10)) (SlI.of_rd k186 (hS.row_rd hs11) (hS.row_blk hs11)) (SlW.nil _ _) hm245) ?_
  rintro e w ⟨A246, c247, A250, c251, A254, c255, A258, c259, A262, c263, A266, c267, q270, rfl, k248, k252, k256, k260, k264, k268, hq271, okq272, hN⟩; refine ⟨_, rfl, ?_⟩; have hB := hN.pure; have hS := hS.join hN; clear hN
  refine wpS_quick 1 rfl ?_
  refine wpS_put rfl rfl rfl (yv_extract rfl rfl) ?_
  refine wpS_put rfl rfl rfl (yv_extract rfl rfl) ?_
  refine wpS_alloc rfl rfl zc_30 hS (fun b274 w hS hB => ?_)
  refine wpS_store rfl rfl rfl CellsOf.agg hS ps0 st0_22 (by kernel_rfl) rfl (fun w hS hB => ?_)
  refine wpS_quick 1 rfl ?_
  refine wpS_nil ?_
  refine QH_seq_k hK243 ?_
  refine wpC_seq_k (fun K hK276 => ?_)
  refine wpC_seq_k (fun K hK277 => ?_)
  refine wpC_region ?_
  refine wpS_quick 1 rfl ?_
  refine wpS_put rfl rfl rfl (yv_len el_32 rfl) ?_
  refine wpS_put rfl rfl rfl (yv_neq rfl rfl) ?_
  refine wpS_nil ?_
  refine QH_seq_k hK277 ?_
  refine wpC_cond rfl (fun hb => ?_) (fun hb => ?_)
  · replace H := cond_t H hb
    refine wpC_seq_k (fun K hK279 => ?_)
    refine wpC_region ?_
    refine wpS_quick 1 rfl ?_
    refine wpS_nil ?_
    refine QH_seq_k hK279 ?_
    refine wpC_ret ?_
    refine QH_then_ret ?_
    refine QH_ret rfl (RV.tmp rfl RV.nil) rfl ?_
    obtain rfl := Option.some.inj H
    replace hS := hS.cut 0
    exact ⟨rfl, hS⟩
  replace H := cond_f H hb
  refine wpC_skip ?_
  refine QH_seq_k hK276 ?_
  refine wpC_seq_k (fun K hK281 => ?_)
  refine wpC_region ?_
  refine wpS_put rfl rfl rfl (yv_fieldAddr fo_30_2 rfl) ?_
  refine wpS_put rfl rfl rfl (yv_load_box sc_5 rfl (RW.here _) hS hs42 trivial sg2_1) ?_
  refine wpS_put rfl rfl rfl (yv_eql rfl rfl) ?_
  refine wpS_quick 1 rfl ?_
  refine wpS_case 64 rfl (fun hb => ?_) (fun hb => ?_)
  rotate_left
  · replace H := cond_f H hb
    refine wpS_quick 83 rfl ?_
    refine wpS_nil ?_
    refine QH_seq_k hK281 ?_
    refine wpC_ret ?_
    refine QH_ret rfl (RV.tmp rfl RV.nil) rfl ?_
    obtain rfl := Option.some.inj H
    replace hS := hS.cut 0
    exact ⟨rfl, hS⟩
  replace H := cond_t H hb
  refine wpS_quick 1 rfl ?_
  refine wpS_put rfl rfl rfl (yv_len el_32 rfl) ?_
  refine wpS_put rfl rfl rfl (yv_eql rfl rfl) ?_
  refine wpS_quick 2 rfl ?_
  refine wpS_case 69 rfl (fun hb => ?_) (fun hb => ?_)
  rotate_left
  · replace H := cond_f H hb
    refine wpS_quick 78 rfl ?_
    refine wpS_nil ?_
    refine QH_seq_k hK281 ?_
    refine wpC_ret ?_
    refine QH_ret rfl (RV.tmp rfl RV.nil) rfl ?_
    obtain rfl := Option.some.inj H
    replace hS := hS.cut 0
    exact ⟨rfl, hS⟩
  replace H := cond_t H hb
  refine wpS_put rfl rfl rfl (yv_fieldAddr fo_30_4 rfl) ?_
  refine wpS_put rfl rfl rfl (yv_fieldAddr fo_26_2 rfl) ?_
  refine wpS_put rfl rfl rfl (yv_load_box sc_3 rfl (RW.here _) hS hs42 trivial sg10_1) ?_
  refine wpS_put rfl rfl rfl (yv_eql rfl rfl) ?_
  refine wpS_quick 2 rfl ?_
  refine wpS_case 75 rfl (fun hb => ?_) (fun hb => ?_)
  rotate_left
  · replace H := cond_f H hb
    refine wpS_quick 72 rfl ?_
    refine wpS_nil ?_
    refine QH_seq_k hK281 ?_
    refine wpC_ret ?_
    refine QH_ret rfl (RV.tmp rfl RV.nil) rfl ?_
    obtain rfl := Option.some.inj H
    replace hS := hS.cut 0
    exact ⟨rfl, hS⟩
  replace H := cond_t H hb
  refine wpS_put rfl rfl rfl (yv_fieldAddr fo_30_4 rfl) ?_
  refine wpS_put rfl rfl rfl (yv_fieldAddr fo_26_1 rfl) ?_
  refine wpS_put rfl rfl rfl (yv_load_box sc_24 rfl (RW.here _) hS hs42 trivial sg9_1) ?_
  refine wpS_put rfl rfl rfl (yv_len el_24 rfl) ?_
  refine wpS_put rfl rfl rfl (yv_eql rfl rfl) ?_
  refine wpS_quick 2 rfl ?_
  refine wpS_case 82 rfl (fun hb => ?_) (fun hb => ?_)
  rotate_left
  · replace H := cond_f H hb
    refine wpS_quick 65 rfl ?_
    refine wpS_nil ?_
    refine QH_seq_k hK281 ?_
    refine wpC_ret ?_
    refine QH_ret rfl (RV.tmp rfl RV.nil) rfl ?_
    obtain rfl := Option.some.inj H
    replace hS := hS.cut 0
    exact ⟨rfl, hS⟩
  replace H := cond_t H hb
  refine wpS_put rfl rfl rfl (yv_fieldAddr fo_30_2 rfl) ?_
  refine wpS_put rfl rfl rfl (yv_load_box sc_5 rfl (RW.here _) hS hs28 trivial sg2_1) ?_
  refine wpS_put rfl rfl rfl (yv_eql rfl rfl) ?_
  refine wpS_quick 2 rfl ?_
  refine wpS_case 87 rfl (fun hb => ?_) (fun hb => ?_)
  rotate_left
  · replace H := cond_f H hb
    refine wpS_quick 60 rfl ?_
    refine wpS_nil ?_
    refine QH_seq_k hK281 ?_
    refine wpC_ret ?_
    refine QH_ret rfl (RV.tmp rfl RV.nil) rfl ?_
    obtain rfl := Option.some.inj H
    replace hS := hS.cut 0
    exact ⟨rfl, hS⟩
  replace H := cond_t H hb
  refine wpS_quick 1 rfl ?_
  obtain ⟨e287, hi289, H⟩ := bind_some H
  obtain ⟨j288, A290, c291, hi289a, hi289b, hi289c⟩ := idxQ (q := q192) hq193 hi289
  refine wpS_put rfl rfl rfl (yx_idx el_32 rfl rfl hi289a hi289c (Rd.el (hS.rd hs20) he_enQ hi289b)) ?_
  refine wpS_put rfl rfl rfl (yx_fieldAddr fo_36_8 rfl (Rd.el (hS.rd hs20) he_enQ hi289b)) ?_
  refine wpS_put rfl rfl rfl (yx_ld sc_4 rfl (RW.here _) (Rd.el (hS.rd hs20) he_enQ hi289b) rfl) ?_
  refine wpS_quick 2 rfl ?_
  refine wpS_case 93 rfl (fun hb => ?_) (fun hb => ?_)
  rotate_left
  · replace H := cond_f H hb
    refine wpS_quick 54 rfl ?_
    refine wpS_nil ?_
    refine QH_seq_k hK281 ?_
    refine wpC_ret ?_
    refine QH_ret rfl (RV.tmp rfl RV.nil) rfl ?_
    obtain rfl := Option.some.inj H
    replace hS := hS.cut 0
    exact ⟨rfl, hS⟩
  replace H := cond_t H hb
  refine wpS_put rfl rfl rfl (yv_fieldAddr fo_30_4 rfl) ?_
  refine wpS_put rfl rfl rfl (yv_fieldAddr fo_26_3 rfl) ?_
  refine wpS_put rfl rfl rfl (yv_load_box sc_3 rfl (RW.here _) hS hs56 trivial sg11_1) ?_
  refine wpS_put rfl rfl rfl (yv_eql rfl rfl) ?_
  refine wpS_quick 2 rfl ?_
  refine wpS_case 99 rfl (fun hb => ?_) (fun hb => ?_)
  rotate_left
  · replace H := cond_f H hb
    refine wpS_quick 48 rfl ?_
    refine wpS_nil ?_
    refine QH_seq_k hK281 ?_
    refine wpC_ret ?_
    refine QH_ret rfl (RV.tmp rfl RV.nil) rfl ?_
    obtain rfl := Option.some.inj H
    replace hS := hS.cut 0
    exact ⟨rfl, hS⟩
  replace H := cond_t H hb
  refine wpS_put rfl rfl rfl (yv_fieldAddr fo_30_2 rfl) ?_
  refine wpS_put rfl rfl rfl (yv_load_box sc_5 rfl (RW.here _) hS hs57 trivial sg2_1) ?_
  refine wpS_put rfl rfl rfl (yv_eql rfl rfl) ?_
  refine wpS_quick 2 rfl ?_
  refine wpS_case 104 rfl (fun hb => ?_) (fun hb => ?_)
  rotate_left
  · replace H := cond_f H hb
    refine wpS_quick 43 rfl ?_
    refine wpS_nil ?_
    refine QH_seq_k hK281 ?_
    refine wpC_ret ?_
    refine QH_ret rfl (RV.tmp rfl RV.nil) rfl ?_
    obtain rfl := Option.some.inj H
    replace hS := hS.cut 0
    exact ⟨rfl, hS⟩
  replace H := cond_t H hb
  refine wpS_quick 1 rfl ?_
  refine wpS_put rfl rfl rfl (yv_len el_32 rfl) ?_
  refine wpS_put rfl rfl rfl (yv_eql rfl rfl) ?_
  refine wpS_quick 2 rfl ?_
  refine wpS_case 109 rfl (fun hb => ?_) (fun hb => ?_)
  rotate_left
  · replace H := cond_f H hb
    refine wpS_quick 38 rfl ?_
    refine wpS_nil ?_
    refine QH_seq_k hK281 ?_
    refine wpC_ret ?_
    refine QH_ret rfl (RV.tmp rfl RV.nil) rfl ?_
    obtain rfl := Option.some.inj H
    replace hS := hS.cut 0
    exact ⟨rfl, hS⟩
  replace H := cond_t H hb
  refine wpS_put rfl rfl rfl (yv_fieldAddr fo_30_10 rfl) ?_
  refine wpS_put rfl rfl rfl (yv_load_box sc_28 rfl (RW.here _) hS hs57 trivial sg21_1) ?_
  obtain ⟨e296, hi298, H⟩ := bind_some H
  obtain ⟨j297, hi298a, hi298b, hi298c⟩ := idx_some hi298
  refine wpS_put rfl rfl rfl (yx_idx el_28 rfl rfl hi298a hi298c (Rd.el (hS.row_rd hs12) he_enI hi298b)) ?_
  refine wpS_put rfl rfl rfl (yx_ld0 sc_3 rfl (RW.here _) (Rd.el (hS.row_rd hs12) he_enI hi298b) rfl) ?_
  refine wpS_put rfl rfl rfl (yv_eql rfl rfl) ?_
  refine wpS_quick 2 rfl ?_
  refine wpS_case 116 rfl (fun hb => ?_) (fun hb => ?_)
  rotate_left
  · replace H := cond_f H hb
    refine wpS_quick 31 rfl ?_
    refine wpS_nil ?_
    refine QH_seq_k hK281 ?_
    refine wpC_ret ?_
    refine QH_ret rfl (RV.tmp rfl RV.nil) rfl ?_
    obtain rfl := Option.some.inj H
    replace hS := hS.cut 0
    exact ⟨rfl, hS⟩
  replace H := cond_t H hb
  refine wpS_quick 1 rfl ?_
  obtain ⟨e300, hi302, H⟩ := bind_some H
  obtain ⟨j301, A303, c304, hi302a, hi302b, hi302c⟩ := idxQ (q := q270) hq271 hi302
  refine wpS_put rfl rfl rfl (yx_idx el_32 rfl rfl hi302a hi302c (Rd.el (hS.rd hs6) he_enQ hi302b)) ?_
  refine wpS_put rfl rfl rfl (yx_fieldAddr fo_36_8 rfl (Rd.el (hS.rd hs6) he_enQ hi302b)) ?_
  refine wpS_put rfl rfl rfl (yx_ld sc_4 rfl (RW.here _) (Rd.el (hS.rd hs6) he_enQ hi302b) rfl) ?_
  refine wpS_put rfl rfl rfl (yv_not rfl) ?_
  refine wpS_quick 2 rfl ?_
  refine wpS_case 123 rfl (fun hb => ?_) (fun hb => ?_)
  rotate_left
  · replace H := cond_f H hb
    refine wpS_quick 24 rfl ?_
    refine wpS_nil ?_
    refine QH_seq_k hK281 ?_
    refine wpC_ret ?_
    refine QH_ret rfl (RV.tmp rfl RV.nil) rfl ?_
    obtain rfl := Option.some.inj H
    replace hS := hS.cut 0
    exact ⟨rfl, hS⟩
  replace H := cond_t H hb
  refine wpS_put rfl rfl rfl (yv_fieldAddr fo_30_4 rfl) ?_
  refine wpS_put rfl rfl rfl (yv_fieldAddr fo_26_3 rfl) ?_
  refine wpS_put rfl rfl rfl (yv_load_box sc_3 rfl (RW.here _) hS hs0 trivial sg11_1) ?_
  refine wpS_put rfl rfl rfl (yv_eql rfl rfl) ?_
  refine wpS_quick 2 rfl ?_
  refine wpS_case 129 rfl (fun hb => ?_) (fun hb => ?_)
  rotate_left
  · replace H := cond_f H hb
    refine wpS_quick 18 rfl ?_
    refine wpS_nil ?_
    refine QH_seq_k hK281 ?_
    refine wpC_ret ?_
    refine QH_ret rfl (RV.tmp rfl RV.nil) rfl ?_
    obtain rfl := Option.some.inj H
    replace hS := hS.cut 0
    exact ⟨rfl, hS⟩
  replace H := cond_t H hb
  refine wpS_sliceM (ps := [(0, .const (.bool true)), (1, .const (.bool true)), (2, .const (.bool false))]) [.bool true, .bool true, .bool false] el_27 zc_4 rfl rfl rfl rfl rfl (by kernel_rfl) hS (fun b307 w hS hB => ?_)
  obtain ⟨r309, hm310, H⟩ := bind_some H
  refine wpS_call rfl rfl rfl rfl (by kernel_rfl) rfl (c_elect_Half ([true, true, false] : List Bool) (some ⟨b307, 0, none⟩) 3 _ (SlI.of_rd ⟨Nat.le_refl 3, by decide⟩ (hS.box_rd hs0) (hS.box_blk hs0)) hm310) ?_
  rintro e w ⟨rfl, hN⟩; refine ⟨_, rfl, ?_⟩; have hB := hN.pure; have hS := hS.join hN; clear hN
  refine wpS_quick 2 rfl ?_
  refine wpS_case 133 rfl (fun hb => ?_) (fun hb => ?_)
  rotate_left
  · replace H := cond_f H hb
    refine wpS_quick 14 rfl ?_
    refine wpS_nil ?_
    refine QH_seq_k hK281 ?_
    refine wpC_ret ?_
    refine QH_ret rfl (RV.tmp rfl RV.nil) rfl ?_
    obtain rfl := Option.some.inj H
    replace hS := hS.cut 0
    exact ⟨rfl, hS⟩
  replace H := cond_t H hb
  refine wpS_sliceM (ps := [(0, .const (.bool true)), (1, .const (.bool false))]) [.bool true, .bool false] el_27 zc_4 rfl rfl rfl rfl rfl (by kernel_rfl) hS (fun b312 w hS hB => ?_)
  obtain ⟨r314, hm315, H⟩ := bind_some H
  refine wpS_call rfl rfl rfl rfl (by kernel_rfl) rfl (c_elect_Half ([true, false] : List Bool) (some ⟨b312, 0, none⟩) 2 _ (SlI.of_rd ⟨Nat.le_refl 2, by decide⟩ (hS.box_rd hs0) (hS.box_blk hs0)) hm315) ?_
  rintro e w ⟨rfl, hN⟩; refine ⟨_, rfl, ?_⟩; have hB := hN.pure; have hS := hS.join hN; clear hN
  refine wpS_put rfl rfl rfl (yv_not rfl) ?_
  refine wpS_quick 2 rfl ?_
  refine wpS_case 138 rfl (fun hb => ?_) (fun hb => ?_)
  rotate_left
  · replace H := cond_f H hb
    refine wpS_quick 9 rfl ?_
    refine wpS_nil ?_
    refine QH_seq_k hK281 ?_
    refine wpC_ret ?_
    refine QH_ret rfl (RV.tmp rfl RV.nil) rfl ?_
    obtain rfl := Option.some.inj H
    replace hS := hS.cut 0
    exact ⟨rfl, hS⟩
  replace H := cond_t H hb
  refine wpS_put rfl rfl rfl (yv_load_boxA ag_30 rfl (RW.here _) hS hs30 trivial sg0_22) ?_
  obtain ⟨r317, hm318, H⟩ := bind_some H
  refine wpS_call rfl rfl rfl rfl (by kernel_rfl) rfl (c_elect_Newer r92.1 0 0 A94 c95 A98 c99 A102 c103 A106 c107 A110 c111 _ (SlI.of_rd k96 (hS.rd hs31) (hS.rd_blk hs31)) (SlI.of_rd k100 (hS.row_rd hs32) (hS.row_blk hs32)) (SlI.of_rd k104 (hS.row_rd hs33) (hS.row_blk hs33)) (SlI.of_rd k108 (hS.row_rd hs34) (hS.row_blk hs34)) (SlI.of_rd k112 (hS.row_rd hs35) (hS.row_blk hs35)) hm318) ?_
  rintro e w ⟨rfl, hN⟩; refine ⟨_, rfl, ?_⟩; have hB := hN.pure; have hS := hS.join hN; clear hN
  refine wpS_quick 2 rfl ?_
  refine wpS_case 142 rfl (fun hb => ?_) (fun hb => ?_)
  rotate_left
  · replace H := cond_f H hb
    refine wpS_quick 5 rfl ?_
    refine wpS_nil ?_
    refine QH_seq_k hK281 ?_
    refine wpC_ret ?_
    refine QH_ret rfl (RV.tmp rfl RV.nil) rfl ?_
    obtain rfl := Option.some.inj H
    replace hS := hS.cut 0
    exact ⟨rfl, hS⟩
  replace H := cond_t H hb
  refine wpS_put rfl rfl rfl (yv_load_boxA ag_30 rfl (RW.here _) hS hs59 trivial sg0_22) ?_
  obtain ⟨r320, hm321, H⟩ := bind_some H
  refine wpS_call rfl rfl rfl rfl (by kernel_rfl) rfl (c_elect_Newer r210.1 0 9 A212 c213 A216 c217 A220 c221 A224 c225 A228 c229 _ (SlI.of_rd k214 (hS.rd hs10) (hS.rd_blk hs10)) (SlI.of_rd k218 (hS.row_rd hs11) (hS.row_blk hs11)) (SlI.of_rd k222 (hS.row_rd hs12) (hS.row_blk hs12)) (SlI.of_rd k226 (hS.row_rd hs13) (hS.row_blk hs13)) (SlI.of_rd k230 (hS.row_rd hs14) (hS.row_blk hs14)) hm321) ?_
  rintro e w ⟨rfl, hN⟩; refine ⟨_, rfl, ?_⟩; have hB := hN.pure; have hS := hS.join hN; clear hN
  refine wpS_put rfl rfl rfl (yv_not rfl) ?_
  refine wpS_quick 2 rfl ?_
  refine wpS_nil ?_
  refine QH_seq_k hK281 ?_
  refine wpC_ret ?_
  refine QH_ret rfl (RV.tmp rfl RV.nil) rfl ?_
  obtain rfl := Option.some.inj H
  replace hS := hS.cut 0
  exact ⟨rfl, hS⟩
end Go.Proofs.Ytamjlcaoieliaaa
