/- What functions compute, in plain terms, and that they do; printed. -/
import Derived.Test.YthngkojbokknfaaGxTFMg
import Derived.Test.YthngkojbokknfaaGxTDMg
import Derived.Test.YthngkojbokknfaaGxT0Mg
namespace Go.Proofs.Ythngkojbokknfaa
open Go Go.RowKit
set_option maxRecDepth 10000
set_option maxHeartbeats 4000000
theorem c_law12_TupleInstalls (x0 : Tu) (x1 : St) (A0_ : Option Addr) (c0_ : Nat) (w0 : World) (s0_ : SlI w0 enE A0_ c0_ x0.log) {r : Bool} (H : m_law12_TupleInstalls x0 x1 = some r) : Calls Try.prog 6 #[.agg #[.int .i64 x0.snap.index, .int .i64 x0.snap.term, .int .i64 x0.snap.sum, .int .i64 x0.snap.level, .bool x0.snap.final, .slice A0_ x0.log.length c0_, .int .i64 x0.term, .int .i64 x0.vote], .agg #[.int .i64 x1.index, .int .i64 x1.term, .int .i64 x1.sum, .int .i64 x1.level, .bool x1.final]] w0 fun e w' => e = .returned (.bool r) ∧ St0 All w0 w' [] := by
  unfold m_law12_TupleInstalls at H
  refine gw_enter2 Try.func6 rfl Try.ntmps6 rfl ?_
  have hS := St0.start All w0
  refine wpC_seq_k (fun K hK1 => ?_)
  refine wpC_region ?_
  refine wpS_box rfl rfl rfl CellsOf.agg hS (fun b2 w hS hB => ?_)
  refine wpS_box rfl rfl rfl CellsOf.agg hS (fun b4 w hS hB => ?_)
  refine wpS_quick 1 rfl ?_
  refine wpS_nil ?_
  refine QH_seq_k hK1 ?_
  refine wpC_seq_k (fun K hK6 => ?_)
  refine wpC_seq_k (fun K hK7 => ?_)
  refine wpC_region ?_
  refine wpS_put rfl rfl rfl (yv_load_boxA ag_26 rfl (RW.here _) hS hs1 trivial sg0_8) ?_
  obtain ⟨r8, hm9, H⟩ := bind_some H
  refine wpS_call rfl rfl rfl rfl (by kernel_rfl) rfl (c_ref12_Right x0 A0_ c0_ _ (SlI.of_rd s0_.k (hS.rd0 s0_.rd) (hS.blk0 s0_.blk)) hm9) ?_
  rintro e w ⟨rfl, hN⟩; refine ⟨_, rfl, ?_⟩; have hB := hN.pure; have hS := hS.join hN; clear hN
  refine wpS_put rfl rfl rfl (yv_not rfl) ?_
  refine wpS_quick 1 rfl ?_
  refine wpS_case 11 rfl (fun hb => ?_) (fun hb => ?_)
  · replace H := cond_t H hb
    refine wpS_quick 4 rfl ?_
    refine wpS_nil ?_
    refine QH_seq_k hK7 ?_
    refine wpC_cond_t rfl rfl ?_
    refine wpC_seq_k (fun K hK10 => ?_)
    refine wpC_region ?_
    obtain ⟨r11, hm12, H⟩ := bind_some H
    refine wpS_call rfl rfl rfl rfl (by kernel_rfl) rfl (c_law12_wakes _ hm12) ?_
    rintro e w ⟨rfl, hN⟩; refine ⟨_, rfl, ?_⟩; have hB := hN.pure; have hS := hS.join hN; clear hN
    refine wpS_quick 1 rfl ?_
    refine wpS_nil ?_
    refine QH_seq_k hK10 ?_
    refine wpC_ret ?_
    refine QH_then_ret ?_
    refine QH_ret rfl (RV.tmp rfl RV.nil) rfl ?_
    obtain rfl := Option.some.inj H
    replace hS := hS.cut 0
    exact ⟨rfl, hS⟩
  · replace H := cond_f H hb
    refine wpS_put rfl rfl rfl (yv_load_boxA ag_23 rfl (RW.here _) hS hs0 trivial sg0_5) ?_
    obtain ⟨r13, hm14, H⟩ := bind_some H
    refine wpS_call rfl rfl rfl rfl (by kernel_rfl) rfl (c_ref06_Fine x1 _ hm14) ?_
    rintro e w ⟨rfl, hN⟩; refine ⟨_, rfl, ?_⟩; have hB := hN.pure; have hS := hS.join hN; clear hN
    refine wpS_put rfl rfl rfl (yv_not rfl) ?_
    refine wpS_quick 1 rfl ?_
    refine wpS_nil ?_
    refine QH_seq_k hK7 ?_
    refine wpC_cond rfl (fun hb => ?_) (fun hb => ?_)
    · replace H := cond_t H hb
      refine wpC_seq_k (fun K hK15 => ?_)
      refine wpC_region ?_
      obtain ⟨r16, hm17, H⟩ := bind_some H
      refine wpS_call rfl rfl rfl rfl (by kernel_rfl) rfl (c_law12_wakes _ hm17) ?_
      rintro e w ⟨rfl, hN⟩; refine ⟨_, rfl, ?_⟩; have hB := hN.pure; have hS := hS.join hN; clear hN
      refine wpS_quick 1 rfl ?_
      refine wpS_nil ?_
      refine QH_seq_k hK15 ?_
      refine wpC_ret ?_
      refine QH_then_ret ?_
      refine QH_ret rfl (RV.tmp rfl RV.nil) rfl ?_
      obtain rfl := Option.some.inj H
      replace hS := hS.cut 0
      exact ⟨rfl, hS⟩
    · replace H := cond_f H hb
      refine wpC_skip ?_
      refine QH_seq_k hK6 ?_
      refine wpC_seq_k (fun K hK18 => ?_)
      refine wpC_region ?_
      refine wpS_put rfl rfl rfl (yv_load_boxA ag_26 rfl (RW.here _) hS hs1 trivial sg0_8) ?_
      refine wpS_put rfl rfl rfl (yv_load_boxA ag_23 rfl (RW.here _) hS hs0 trivial sg0_5) ?_
      obtain ⟨r19, hm20, H⟩ := bind_some H
      refine wpS_call rfl rfl rfl rfl (by kernel_rfl) rfl (c_tuple_Install x0 x1 A0_ c0_ _ (SlI.of_rd s0_.k (hS.rd0 s0_.rd) (hS.blk0 s0_.blk)) hm20) ?_
      rintro e w ⟨A21, c22, rfl, k23, hN⟩; refine ⟨_, rfl, ?_⟩; have hB := hN.pure; have hS := hS.join hN; clear hN
      refine wpS_quick 1 rfl ?_
      refine wpS_put rfl rfl rfl (yv_extract rfl rfl) ?_
      refine wpS_put rfl rfl rfl (yv_extract rfl rfl) ?_
      refine wpS_alloc rfl rfl zc_26 hS (fun b25 w hS hB => ?_)
      refine wpS_store rfl rfl rfl CellsOf.agg hS ps0 st0_8 (by kernel_rfl) rfl (fun w hS hB => ?_)
      refine wpS_quick 1 rfl ?_
      refine wpS_nil ?_
      refine QH_seq_k hK18 ?_
      refine wpC_seq_k (fun K hK27 => ?_)
      refine wpC_seq_k (fun K hK28 => ?_)
      refine wpC_region ?_
      refine wpS_put rfl rfl rfl (yv_fieldAddr fo_23_0 rfl) ?_
      refine wpS_put rfl rfl rfl (yv_load_box sc_3 rfl (RW.here _) hS hs2 trivial sg0_1) ?_
      refine wpS_put rfl rfl rfl (yv_fieldAddr fo_26_0 rfl) ?_
      refine wpS_put rfl rfl rfl (yv_fieldAddr fo_23_0 rfl) ?_
      refine wpS_put rfl rfl rfl (yv_load_box sc_3 rfl (RW.here _) hS hs3 trivial sg0_1) ?_
      refine wpS_put rfl rfl rfl (yv_leq rfl rfl) ?_
      refine wpS_quick 1 rfl ?_
      refine wpS_case 29 rfl (fun hb => ?_) (fun hb => ?_)
      · replace H := cond_t H hb
        refine wpS_quick 11 rfl ?_
        refine wpS_nil ?_
        refine QH_seq_k hK28 ?_
        refine wpC_cond_t rfl rfl ?_
        refine wpC_seq_k (fun K hK29 => ?_)
        refine wpC_region ?_
        refine wpS_quick 1 rfl ?_
        refine wpS_put rfl rfl rfl (yv_eql rfl rfl) ?_
        refine wpS_quick 1 rfl ?_
        refine wpS_case 43 rfl (fun hb => ?_) (fun hb => ?_)
        · replace H := cond_t H hb
          refine wpS_put rfl rfl rfl (yv_load_boxA ag_26 rfl (RW.here _) hS hs0 trivial sg0_8) ?_
          refine wpS_put rfl rfl rfl (yv_load_boxA ag_26 rfl (RW.here _) hS hs3 trivial sg0_8) ?_
          obtain ⟨r30, hm31, H⟩ := bind_some H
          refine wpS_call rfl rfl rfl rfl (by kernel_rfl) rfl (c_ref12_Same r19.1 x0 A21 c22 A0_ c0_ _ (SlI.of_rd k23 (hS.rd hs1) (hS.rd_blk hs1)) (SlI.of_rd s0_.k (hS.rd0 s0_.rd) (hS.blk0 s0_.blk)) hm31) ?_
          rintro e w ⟨rfl, hN⟩; refine ⟨_, rfl, ?_⟩; have hB := hN.pure; have hS := hS.join hN; clear hN
          refine wpS_quick 2 rfl ?_
          refine wpS_case 48 rfl (fun hb => ?_) (fun hb => ?_)
          · replace H := cond_t H hb
            obtain ⟨r32, hm33, H⟩ := bind_some H
            refine wpS_call rfl rfl rfl rfl (by kernel_rfl) rfl (c_law12_wakes _ hm33) ?_
            rintro e w ⟨rfl, hN⟩; refine ⟨_, rfl, ?_⟩; have hB := hN.pure; have hS := hS.join hN; clear hN
            refine wpS_quick 2 rfl ?_
            refine wpS_nil ?_
            refine QH_seq_k hK29 ?_
            refine wpC_ret ?_
            refine QH_then_ret ?_
            refine QH_ret rfl (RV.tmp rfl RV.nil) rfl ?_
            obtain rfl := Option.some.inj H
            replace hS := hS.cut 0
            exact ⟨rfl, hS⟩
          · replace H := cond_f H hb
            refine wpS_quick 3 rfl ?_
            refine wpS_nil ?_
            refine QH_seq_k hK29 ?_
            refine wpC_ret ?_
            refine QH_then_ret ?_
            refine QH_ret rfl (RV.tmp rfl RV.nil) rfl ?_
            obtain rfl := Option.some.inj H
            replace hS := hS.cut 0
            exact ⟨rfl, hS⟩
        · replace H := cond_f H hb
          refine wpS_quick 8 rfl ?_
          refine wpS_nil ?_
          refine QH_seq_k hK29 ?_
          refine wpC_ret ?_
          refine QH_then_ret ?_
          refine QH_ret rfl (RV.tmp rfl RV.nil) rfl ?_
          obtain rfl := Option.some.inj H
          replace hS := hS.cut 0
          exact ⟨rfl, hS⟩
      · replace H := cond_f H hb
        refine wpS_put rfl rfl rfl (yv_fieldAddr fo_23_0 rfl) ?_
        refine wpS_put rfl rfl rfl (yv_load_box sc_3 rfl (RW.here _) hS hs2 trivial sg0_1) ?_
        refine wpS_put rfl rfl rfl (yv_gtr rfl rfl) ?_
        refine wpS_quick 2 rfl ?_
        refine wpS_case 34 rfl (fun hb => ?_) (fun hb => ?_)
        · replace H := cond_t H hb
          refine wpS_quick 6 rfl ?_
          refine wpS_nil ?_
          refine QH_seq_k hK28 ?_
          refine wpC_cond_t rfl rfl ?_
          refine wpC_seq_k (fun K hK34 => ?_)
          refine wpC_region ?_
          refine wpS_quick 1 rfl ?_
          refine wpS_put rfl rfl rfl (yv_eql rfl rfl) ?_
          refine wpS_quick 1 rfl ?_
          refine wpS_case 43 rfl (fun hb => ?_) (fun hb => ?_)
          · replace H := cond_t H hb
            refine wpS_put rfl rfl rfl (yv_load_boxA ag_26 rfl (RW.here _) hS hs0 trivial sg0_8) ?_
            refine wpS_put rfl rfl rfl (yv_load_boxA ag_26 rfl (RW.here _) hS hs3 trivial sg0_8) ?_
            obtain ⟨r35, hm36, H⟩ := bind_some H
            refine wpS_call rfl rfl rfl rfl (by kernel_rfl) rfl (c_ref12_Same r19.1 x0 A21 c22 A0_ c0_ _ (SlI.of_rd k23 (hS.rd hs1) (hS.rd_blk hs1)) (SlI.of_rd s0_.k (hS.rd0 s0_.rd) (hS.blk0 s0_.blk)) hm36) ?_
            rintro e w ⟨rfl, hN⟩; refine ⟨_, rfl, ?_⟩; have hB := hN.pure; have hS := hS.join hN; clear hN
            refine wpS_quick 2 rfl ?_
            refine wpS_case 48 rfl (fun hb => ?_) (fun hb => ?_)
            · replace H := cond_t H hb
              obtain ⟨r37, hm38, H⟩ := bind_some H
              refine wpS_call rfl rfl rfl rfl (by kernel_rfl) rfl (c_law12_wakes _ hm38) ?_
              rintro e w ⟨rfl, hN⟩; refine ⟨_, rfl, ?_⟩; have hB := hN.pure; have hS := hS.join hN; clear hN
              refine wpS_quick 2 rfl ?_
              refine wpS_nil ?_
              refine QH_seq_k hK34 ?_
              refine wpC_ret ?_
              refine QH_then_ret ?_
              refine QH_ret rfl (RV.tmp rfl RV.nil) rfl ?_
              obtain rfl := Option.some.inj H
              replace hS := hS.cut 0
              exact ⟨rfl, hS⟩
            · replace H := cond_f H hb
              refine wpS_quick 3 rfl ?_
              refine wpS_nil ?_
              refine QH_seq_k hK34 ?_
              refine wpC_ret ?_
              refine QH_then_ret ?_
              refine QH_ret rfl (RV.tmp rfl RV.nil) rfl ?_
              obtain rfl := Option.some.inj H
              replace hS := hS.cut 0
              exact ⟨rfl, hS⟩
          · replace H := cond_f H hb
            refine wpS_quick 8 rfl ?_
            refine wpS_nil ?_
            refine QH_seq_k hK34 ?_
            refine wpC_ret ?_
            refine QH_then_ret ?_
            refine QH_ret rfl (RV.tmp rfl RV.nil) rfl ?_
            obtain rfl := Option.some.inj H
            replace hS := hS.cut 0
            exact ⟨rfl, hS⟩
        · replace H := cond_f H hb
          refine wpS_put rfl rfl rfl (yv_fieldAddr fo_23_1 rfl) ?_
          refine wpS_put rfl rfl rfl (yv_load_box sc_3 rfl (RW.here _) hS hs2 trivial sg1_1) ?_
          refine wpS_put rfl rfl rfl (yv_fieldAddr fo_26_2 rfl) ?_
          refine wpS_put rfl rfl rfl (yv_load_box sc_3 rfl (RW.here _) hS hs3 trivial sg6_1) ?_
          refine wpS_put rfl rfl rfl (yv_gtr rfl rfl) ?_
          refine wpS_quick 1 rfl ?_
          refine wpS_nil ?_
          refine QH_seq_k hK28 ?_
          refine wpC_cond rfl (fun hb => ?_) (fun hb => ?_)
          · replace H := cond_t H hb
            refine wpC_seq_k (fun K hK39 => ?_)
            refine wpC_region ?_
            refine wpS_quick 1 rfl ?_
            refine wpS_put rfl rfl rfl (yv_eql rfl rfl) ?_
            refine wpS_quick 1 rfl ?_
            refine wpS_case 43 rfl (fun hb => ?_) (fun hb => ?_)
            · replace H := cond_t H hb
              refine wpS_put rfl rfl rfl (yv_load_boxA ag_26 rfl (RW.here _) hS hs0 trivial sg0_8) ?_
              refine wpS_put rfl rfl rfl (yv_load_boxA ag_26 rfl (RW.here _) hS hs3 trivial sg0_8) ?_
              obtain ⟨r40, hm41, H⟩ := bind_some H
              refine wpS_call rfl rfl rfl rfl (by kernel_rfl) rfl (c_ref12_Same r19.1 x0 A21 c22 A0_ c0_ _ (SlI.of_rd k23 (hS.rd hs1) (hS.rd_blk hs1)) (SlI.of_rd s0_.k (hS.rd0 s0_.rd) (hS.blk0 s0_.blk)) hm41) ?_
              rintro e w ⟨rfl, hN⟩; refine ⟨_, rfl, ?_⟩; have hB := hN.pure; have hS := hS.join hN; clear hN
              refine wpS_quick 2 rfl ?_
              refine wpS_case 48 rfl (fun hb => ?_) (fun hb => ?_)
              · replace H := cond_t H hb
                obtain ⟨r42, hm43, H⟩ := bind_some H
                refine wpS_call rfl rfl rfl rfl (by kernel_rfl) rfl (c_law12_wakes _ hm43) ?_
                rintro e w ⟨rfl, hN⟩; refine ⟨_, rfl, ?_⟩; have hB := hN.pure; have hS := hS.join hN; clear hN
                refine wpS_quick 2 rfl ?_
                refine wpS_nil ?_
                refine QH_seq_k hK39 ?_
                refine wpC_ret ?_
                refine QH_then_ret ?_
                refine QH_ret rfl (RV.tmp rfl RV.nil) rfl ?_
                obtain rfl := Option.some.inj H
                replace hS := hS.cut 0
                exact ⟨rfl, hS⟩
              · replace H := cond_f H hb
                refine wpS_quick 3 rfl ?_
                refine wpS_nil ?_
                refine QH_seq_k hK39 ?_
                refine wpC_ret ?_
                refine QH_then_ret ?_
                refine QH_ret rfl (RV.tmp rfl RV.nil) rfl ?_
                obtain rfl := Option.some.inj H
                replace hS := hS.cut 0
                exact ⟨rfl, hS⟩
            · replace H := cond_f H hb
              refine wpS_quick 8 rfl ?_
              refine wpS_nil ?_
              refine QH_seq_k hK39 ?_
              refine wpC_ret ?_
              refine QH_then_ret ?_
              refine QH_ret rfl (RV.tmp rfl RV.nil) rfl ?_
              obtain rfl := Option.some.inj H
              replace hS := hS.cut 0
              exact ⟨rfl, hS⟩
          · replace H := cond_f H hb
            refine wpC_skip ?_
            refine QH_seq_k hK27 ?_
            refine wpC_seq_k (fun K hK44 => ?_)
            refine wpC_region ?_
            refine wpS_put rfl rfl rfl (yv_fieldAddr fo_23_0 rfl) ?_
            refine wpS_put rfl rfl rfl (yv_load_box sc_3 rfl (RW.here _) hS hs2 trivial sg0_1) ?_
            refine wpS_put rfl rfl rfl (yv_fieldAddr fo_26_0 rfl) ?_
            refine wpS_put rfl rfl rfl (yv_fieldAddr fo_23_0 rfl) ?_
            refine wpS_put rfl rfl rfl (yv_load_box sc_3 rfl (RW.here _) hS hs3 trivial sg0_1) ?_
            refine wpS_put rfl rfl rfl (yx_sub rfl rfl) ?_
            refine wpS_quick 1 rfl ?_
            refine wpS_nil ?_
            refine QH_seq_k hK44 ?_
            refine wpC_seq_k (fun K hK45 => ?_)
            refine wpC_seq_k (fun K hK46 => ?_)
            refine wpC_draw 17 [] (fun _ _ => True) ⟨by kernel_rfl, by kernel_rfl⟩ hS (fun w hS hB => ?_)
            refine wpR_batch [true, true, true, true, true, true] (by decide +kernel) (by repeat (first | exact PF.body | exact PF.round | apply PF.then | apply PF.inBlock | apply PF.jump)) ?_
            refine LtK.put rfl rfl rfl (yv_move rfl) ?_
            refine LtK.put rfl rfl rfl (yv_fieldAddr fo_26_1 rfl) ?_
            refine LtK.put rfl rfl rfl (yv_load_box sc_24 rfl (RW.below _) hS hs3 trivial sg5_1) ?_
            refine LtK.put rfl rfl rfl (yv_len el_24 rfl) ?_
            refine LtK.put rfl rfl rfl (yv_leq rfl rfl) ?_
            refine LtK.put rfl rfl rfl (yv_move rfl) ?_
            refine LtK.nil ?_
            refine wpR_case 62 rfl (fun hb => ?_) (fun hb => ?_)
            · replace H := cond_t H hb
              refine wpR_batch [false, false, false, false, false, false, true, true, true, true, true, true, true, true, true, true, true] (by decide +kernel) (by repeat (first | exact PF.body | exact PF.round | apply PF.then | apply PF.inBlock | apply PF.jump)) ?_
              refine LtK.put rfl rfl rfl (yv_fieldAddr fo_26_1 rfl) ?_
              refine LtK.put rfl rfl rfl (yv_load_box sc_24 rfl (RW.below _) hS hs3 trivial sg5_1) ?_
              refine LtK.put rfl rfl rfl (yv_move rfl) ?_
              refine LtK.put rfl rfl rfl (yx_sub rfl rfl) ?_
              obtain ⟨e47, hi49, H⟩ := bind_some H
              obtain ⟨j48, hi49a, hi49b, hi49c⟩ := idx_some hi49
              refine LtK.put rfl rfl rfl (yx_idx el_24 rfl rfl hi49a hi49c (Rd.el (hS.rd0 s0_.rd) he_enE hi49b)) ?_
              refine LtK.put rfl rfl rfl (yx_fieldAddr fo_50_0 rfl (Rd.el (hS.rd0 s0_.rd) he_enE hi49b)) ?_
              refine LtK.put rfl rfl rfl (yx_ld0 sc_3 rfl (RW.below _) (Rd.el (hS.rd0 s0_.rd) he_enE hi49b) rfl) ?_
              refine LtK.put rfl rfl rfl (yv_fieldAddr fo_23_1 rfl) ?_
              refine LtK.put rfl rfl rfl (yv_load_box sc_3 rfl (RW.below _) hS hs2 trivial sg1_1) ?_
              refine LtK.put rfl rfl rfl (yv_eql rfl rfl) ?_
              refine LtK.put rfl rfl rfl (yv_pick_t rfl rfl rfl) ?_
              refine LtK.nil ?_
              refine wpR_end (by kernel_rfl) ?_
              refine QH_seq_k hK46 ?_
              refine wpC_cond rfl (fun hb => ?_) (fun hb => ?_)
              · replace H := cond_t H hb
                refine wpC_seq_k (fun K hK50 => ?_)
                refine wpC_draw 35 [] (fun _ _ => True) ⟨by kernel_rfl, by kernel_rfl⟩ hS (fun w hS hB => ?_)
                refine wpR_batch [true, true, true] (by decide +kernel) (by repeat (first | exact PF.body | exact PF.round | apply PF.then | apply PF.inBlock | apply PF.jump)) ?_
                refine LtK.put rfl rfl rfl (yv_move rfl) ?_
                refine LtK.put rfl rfl rfl (yv_eql rfl rfl) ?_
                refine LtK.put rfl rfl rfl (yv_move rfl) ?_
                refine LtK.nil ?_
                refine wpR_case 76 rfl (fun hb => ?_) (fun hb => ?_)
                · replace H := cond_t H hb
                  refine wpR_batch [false, false, false, true, true, true, true, true, true] (by decide +kernel) (by repeat (first | exact PF.body | exact PF.round | apply PF.then | apply PF.inBlock | apply PF.jump)) ?_
                  refine LtK.put rfl rfl rfl (yv_fieldAddr fo_26_0 rfl) ?_
                  refine LtK.put rfl rfl rfl (yv_load_boxA ag_23 rfl (RW.below _) hS hs0 trivial sg0_5) ?_
                  refine LtK.put rfl rfl rfl (yv_load_boxA ag_23 rfl (RW.below _) hS hs2 trivial sg0_5) ?_
                  refine LtK.put rfl rfl rfl (yv_eqlS (by kernel_rfl) rfl rfl (eqT_23 _ _ _ _ _ _ _ _ _ _)) ?_
                  refine LtK.put rfl rfl rfl (yv_pick_t rfl rfl rfl) ?_
                  refine LtK.put rfl rfl rfl (yv_move rfl) ?_
                  refine LtK.nil ?_
                  refine wpR_case 82 rfl (fun hb => ?_) (fun hb => ?_)
                  · replace H := cond_t H hb
                    refine wpR_batch [false, false, false, false, false, false, false, false, false, true, true, true, true, true, true] (by decide +kernel) (by repeat (first | exact PF.body | exact PF.round | apply PF.then | apply PF.inBlock | apply PF.jump)) ?_
                    refine LtK.put rfl rfl rfl (yv_fieldAddr fo_26_1 rfl) ?_
                    refine LtK.put rfl rfl rfl (yv_load_box sc_24 rfl (RW.below _) hS hs0 trivial sg5_1) ?_
                    refine LtK.put rfl rfl rfl (yv_fieldAddr fo_26_1 rfl) ?_
                    refine LtK.put rfl rfl rfl (yv_load_box sc_24 rfl (RW.below _) hS hs3 trivial sg5_1) ?_
                    refine LtK.put rfl rfl rfl (yv_move rfl) ?_
                    obtain ⟨l51, hd52, H⟩ := bind_some H
                    refine LtK.put rfl rfl rfl (yx_slice_l el_24 rfl rfl hd52) ?_
                    refine LtK.nil ?_
                    refine wpR_call [false, false, false, false, false, false, false, false, false, false, false, false, false, false, false, true] 15 ⟨by decide, by kernel_rfl, by kernel_rfl⟩ rfl rfl ?_
                    dsimp only [pickL]
                    obtain ⟨r53, hm54, H⟩ := bind_some H
                    refine wpS_call rfl rfl rfl rfl (by kernel_rfl) rfl (c_ref06_Same r19.1.log l51 A21 c22 (cutA A0_ c0_ (Int.toNat (IntKind.wrap .i64 (x1.index - x0.snap.index))) 3) (c0_ - Int.toNat (IntKind.wrap .i64 (x1.index - x0.snap.index))) _ (SlI.of_rd k23 (hS.rd hs1) (hS.rd_blk hs1)) (SlI.of_rd (k_drop s0_.k hd52) (Rd.dropI he_enE (hS.rd0 s0_.rd) s0_.k.1 hd52) (cutA_blk (hS.blk0 s0_.blk))) hm54) ?_
                    rintro e w ⟨rfl, hN⟩; refine ⟨_, rfl, ?_⟩; have hB := hN.pure; have hS := hS.join hN; clear hN
                    refine wpS_nil ?_
                    refine QH_step hB ?_
                    refine wpR_batch [false, false, false, false, false, false, false, false, false, false, false, false, false, false, false, false, true, true] (by decide +kernel) (by repeat (first | exact PF.body | exact PF.round | apply PF.then | apply PF.inBlock | apply PF.jump)) ?_
                    refine LtK.put rfl rfl rfl (yv_pick_t rfl rfl rfl) ?_
                    refine LtK.put rfl rfl rfl (yv_move rfl) ?_
                    refine LtK.nil ?_
                    refine wpR_case 91 rfl (fun hb => ?_) (fun hb => ?_)
                    · replace H := cond_t H hb
                      refine wpR_batch [false, false, false, false, false, false, false, false, false, false, false, false, false, false, false, false, false, false, true, true, true, true, true, true, true] (by decide +kernel) (by repeat (first | exact PF.body | exact PF.round | apply PF.then | apply PF.inBlock | apply PF.jump)) ?_
                      refine LtK.put rfl rfl rfl (yv_fieldAddr fo_26_2 rfl) ?_
                      refine LtK.put rfl rfl rfl (yv_load_box sc_3 rfl (RW.below _) hS hs0 trivial sg6_1) ?_
                      refine LtK.put rfl rfl rfl (yv_fieldAddr fo_26_2 rfl) ?_
                      refine LtK.put rfl rfl rfl (yv_load_box sc_3 rfl (RW.below _) hS hs3 trivial sg6_1) ?_
                      refine LtK.put rfl rfl rfl (yv_eql rfl rfl) ?_
                      refine LtK.put rfl rfl rfl (yv_pick_t rfl rfl rfl) ?_
                      refine LtK.put rfl rfl rfl (yv_move rfl) ?_
                      refine LtK.nil ?_
                      refine wpR_case 98 rfl (fun hb => ?_) (fun hb => ?_)
                      · replace H := cond_t H hb
                        refine wpR_batch [false, false, false, false, false, false, false, false, false, false, false, false, false, false, false, false, false, false, false, false, false, false, false, false, false, true, true, true, true, true, true, true] (by decide +kernel) (by repeat (first | exact PF.body | exact PF.round | apply PF.then | apply PF.inBlock | apply PF.jump)) ?_
                        refine LtK.put rfl rfl rfl (yv_fieldAddr fo_26_3 rfl) ?_
                        refine LtK.put rfl rfl rfl (yv_load_box sc_3 rfl (RW.below _) hS hs0 trivial sg7_1) ?_
                        refine LtK.put rfl rfl rfl (yv_fieldAddr fo_26_3 rfl) ?_
                        refine LtK.put rfl rfl rfl (yv_load_box sc_3 rfl (RW.below _) hS hs3 trivial sg7_1) ?_
                        refine LtK.put rfl rfl rfl (yv_eql rfl rfl) ?_
                        refine LtK.put rfl rfl rfl (yv_pick_t rfl rfl rfl) ?_
                        refine LtK.put rfl rfl rfl (yv_move rfl) ?_
                        refine LtK.nil ?_
                        refine wpR_case 105 rfl (fun hb => ?_) (fun hb => ?_)
                        · replace H := cond_t H hb
                          refine wpR_call [false, false, false, false, false, false, false, false, false, false, false, false, false, false, false, false, false, false, false, false, false, false, false, false, false, false, false, false, false, false, false, false, true] 32 ⟨by decide, by kernel_rfl, by kernel_rfl⟩ rfl rfl ?_
                          dsimp only [pickL]
                          obtain ⟨r55, hm56, H⟩ := bind_some H
                          refine wpS_call rfl rfl rfl rfl (by kernel_rfl) rfl (c_law12_wakes _ hm56) ?_
                          rintro e w ⟨rfl, hN⟩; refine ⟨_, rfl, ?_⟩; have hB := hN.pure; have hS := hS.join hN; clear hN
                          refine wpS_nil ?_
                          refine QH_step hB ?_
                          refine wpR_batch [false, false, false, false, false, false, false, false, false, false, false, false, false, false, false, false, false, false, false, false, false, false, false, false, false, false, false, false, false, false, false, false, false, true, true] (by decide +kernel) (by repeat (first | exact PF.body | exact PF.round | apply PF.then | apply PF.inBlock | apply PF.jump)) ?_
                          refine LtK.put rfl rfl rfl (yv_pick_t rfl rfl rfl) ?_
                          refine LtK.put rfl rfl rfl (yv_assign rfl) ?_
                          refine LtK.nil ?_
                          refine wpR_end (by kernel_rfl) ?_
                          refine QH_seq_k hK50 ?_
                          refine wpC_ret ?_
                          refine QH_then_ret ?_
                          refine QH_ret rfl (RV.tmp rfl RV.nil) rfl ?_
                          obtain rfl := Option.some.inj H
                          replace hS := hS.cut 0
                          exact ⟨rfl, hS⟩
                        · replace H := cond_f H hb
                          refine wpR_call [false, false, false, false, false, false, false, false, false, false, false, false, false, false, false, false, false, false, false, false, false, false, false, false, false, false, false, false, false, false, false, false, true] 32 ⟨by decide, by kernel_rfl, by kernel_rfl⟩ rfl rfl ?_
                          dsimp only [pickL]
                          refine wpS_skip rfl rfl rfl ?_
                          refine wpS_nil ?_
                          refine QH_step (Below.refl _ _) ?_
                          refine wpR_batch [false, false, false, false, false, false, false, false, false, false, false, false, false, false, false, false, false, false, false, false, false, false, false, false, false, false, false, false, false, false, false, false, false, true, true] (by decide +kernel) (by repeat (first | exact PF.body | exact PF.round | apply PF.then | apply PF.inBlock | apply PF.jump)) ?_
                          refine LtK.put rfl rfl rfl (yv_pick_f rfl rfl rfl) ?_
                          refine LtK.put rfl rfl rfl (yv_assign rfl) ?_
                          refine LtK.nil ?_
                          refine wpR_end (by kernel_rfl) ?_
                          refine QH_seq_k hK50 ?_
                          refine wpC_ret ?_
                          refine QH_then_ret ?_
                          refine QH_ret rfl (RV.tmp rfl RV.nil) rfl ?_
                          obtain rfl := Option.some.inj H
                          replace hS := hS.cut 0
                          exact ⟨rfl, hS⟩
                      · replace H := cond_f H hb
                        refine wpR_batch [false, false, false, false, false, false, false, false, false, false, false, false, false, false, false, false, false, false, false, false, false, false, false, false, false, true, true, true, true, true, true, true] (by decide +kernel) (by repeat (first | exact PF.body | exact PF.round | apply PF.then | apply PF.inBlock | apply PF.jump)) ?_
                        refine LtK.skip rfl rfl rfl ?_
                        refine LtK.skip rfl rfl rfl ?_
                        refine LtK.skip rfl rfl rfl ?_
                        refine LtK.skip rfl rfl rfl ?_
                        refine LtK.skip rfl rfl rfl ?_
                        refine LtK.put rfl rfl rfl (yv_pick_f rfl rfl rfl) ?_
                        refine LtK.put rfl rfl rfl (yv_move rfl) ?_
                        refine LtK.nil ?_
                        refine wpR_call [false, false, false, false, false, false, false, false, false, false, false, false, false, false, false, false, false, false, false, false, false, false, false, false, false, false, false, false, false, false, false, false, true] 32 ⟨by decide, by kernel_rfl, by kernel_rfl⟩ rfl rfl ?_
                        dsimp only [pickL]
                        refine wpS_skip rfl rfl rfl ?_
                        refine wpS_nil ?_
                        refine QH_step (Below.refl _ _) ?_
                        refine wpR_batch [false, false, false, false, false, false, false, false, false, false, false, false, false, false, false, false, false, false, false, false, false, false, false, false, false, false, false, false, false, false, false, false, false, true, true] (by decide +kernel) (by repeat (first | exact PF.body | exact PF.round | apply PF.then | apply PF.inBlock | apply PF.jump)) ?_
                        refine LtK.put rfl rfl rfl (yv_pick_f rfl rfl rfl) ?_
                        refine LtK.put rfl rfl rfl (yv_assign rfl) ?_
                        refine LtK.nil ?_
                        refine wpR_end (by kernel_rfl) ?_
                        refine QH_seq_k hK50 ?_
                        refine wpC_ret ?_
                        refine QH_then_ret ?_
                        refine QH_ret rfl (RV.tmp rfl RV.nil) rfl ?_
                        obtain rfl := Option.some.inj H
                        replace hS := hS.cut 0
                        exact ⟨rfl, hS⟩
                    · replace H := cond_f H hb
                      refine wpR_batch [false, false, false, false, false, false, false, false, false, false, false, false, false, false, false, false, false, false, true, true, true, true, true, true, true, true, true, true, true, true, true, true] (by decide +kernel) (by repeat (first | exact PF.body | exact PF.round | apply PF.then | apply PF.inBlock | apply PF.jump)) ?_
                      refine LtK.skip rfl rfl rfl ?_
                      refine LtK.skip rfl rfl rfl ?_
                      refine LtK.skip rfl rfl rfl ?_
                      refine LtK.skip rfl rfl rfl ?_
                      refine LtK.skip rfl rfl rfl ?_
                      refine LtK.put rfl rfl rfl (yv_pick_f rfl rfl rfl) ?_
                      refine LtK.put rfl rfl rfl (yv_move rfl) ?_
                      refine LtK.skip rfl rfl rfl ?_
                      refine LtK.skip rfl rfl rfl ?_
                      refine LtK.skip rfl rfl rfl ?_
                      refine LtK.skip rfl rfl rfl ?_
                      refine LtK.skip rfl rfl rfl ?_
                      refine LtK.put rfl rfl rfl (yv_pick_f rfl rfl rfl) ?_
                      refine LtK.put rfl rfl rfl (yv_move rfl) ?_
                      refine LtK.nil ?_
                      refine wpR_call [false, false, false, false, false, false, false, false, false, false, false, false, false, false, false, false, false, false, false, false, false, false, false, false, false, false, false, false, false, false, false, false, true] 32 ⟨by decide, by kernel_rfl, by kernel_rfl⟩ rfl rfl ?_
                      dsimp only [pickL]
                      refine wpS_skip rfl rfl rfl ?_
                      refine wpS_nil ?_
                      refine QH_step (Below.refl _ _) ?_
                      refine wpR_batch [false, false, false, false, false, false, false, false, false, false, false, false, false, false, false, false, false, false, false, false, false, false, false, false, false, false, false, false, false, false, false, false, false, true, true] (by decide +kernel) (by repeat (first | exact PF.body | exact PF.round | apply PF.then | apply PF.inBlock | apply PF.jump)) ?_
                      refine LtK.put rfl rfl rfl (yv_pick_f rfl rfl rfl) ?_
                      refine LtK.put rfl rfl rfl (yv_assign rfl) ?_
                      refine LtK.nil ?_
                      refine wpR_end (by kernel_rfl) ?_
                      refine QH_seq_k hK50 ?_
                      refine wpC_ret ?_
                      refine QH_then_ret ?_
                      refine QH_ret rfl (RV.tmp rfl RV.nil) rfl ?_
                      obtain rfl := Option.some.inj H
                      replace hS := hS.cut 0
                      exact ⟨rfl, hS⟩
                  · replace H := cond_f H hb
                    refine wpR_batch [false, false, false, false, false, false, false, false, false, true, true, true, true, true, true] (by decide +kernel) (by repeat (first | exact PF.body | exact PF.round | apply PF.then | apply PF.inBlock | apply PF.jump)) ?_
                    refine LtK.skip rfl rfl rfl ?_
                    refine LtK.skip rfl rfl rfl ?_
                    refine LtK.skip rfl rfl rfl ?_
                    refine LtK.skip rfl rfl rfl ?_
                    refine LtK.skip rfl rfl rfl ?_
                    refine LtK.skip rfl rfl rfl ?_
                    refine LtK.nil ?_
                    refine wpR_call [false, false, false, false, false, false, false, false, false, false, false, false, false, false, false, true] 15 ⟨by decide, by kernel_rfl, by kernel_rfl⟩ rfl rfl ?_
                    dsimp only [pickL]
                    refine wpS_skip rfl rfl rfl ?_
                    refine wpS_nil ?_
                    refine QH_step (Below.refl _ _) ?_
                    refine wpR_batch [false, false, false, false, false, false, false, false, false, false, false, false, false, false, false, false, true, true, true, true, true, true, true, true, true, true, true, true, true, true, true, true] (by decide +kernel) (by repeat (first | exact PF.body | exact PF.round | apply PF.then | apply PF.inBlock | apply PF.jump)) ?_
                    refine LtK.put rfl rfl rfl (yv_pick_f rfl rfl rfl) ?_
                    refine LtK.put rfl rfl rfl (yv_move rfl) ?_
                    refine LtK.skip rfl rfl rfl ?_
                    refine LtK.skip rfl rfl rfl ?_
                    refine LtK.skip rfl rfl rfl ?_
                    refine LtK.skip rfl rfl rfl ?_
                    refine LtK.skip rfl rfl rfl ?_
                    refine LtK.put rfl rfl rfl (yv_pick_f rfl rfl rfl) ?_
                    refine LtK.put rfl rfl rfl (yv_move rfl) ?_
                    refine LtK.skip rfl rfl rfl ?_
                    refine LtK.skip rfl rfl rfl ?_
                    refine LtK.skip rfl rfl rfl ?_
                    refine LtK.skip rfl rfl rfl ?_
                    refine LtK.skip rfl rfl rfl ?_
                    refine LtK.put rfl rfl rfl (yv_pick_f rfl rfl rfl) ?_
                    refine LtK.put rfl rfl rfl (yv_move rfl) ?_
                    refine LtK.nil ?_
                    refine wpR_call [false, false, false, false, false, false, false, false, false, false, false, false, false, false, false, false, false, false, false, false, false, false, false, false, false, false, false, false, false, false, false, false, true] 32 ⟨by decide, by kernel_rfl, by kernel_rfl⟩ rfl rfl ?_
                    dsimp only [pickL]
                    refine wpS_skip rfl rfl rfl ?_
                    refine wpS_nil ?_
                    refine QH_step (Below.refl _ _) ?_
                    refine wpR_batch [false, false, false, false, false, false, false, false, false, false, false, false, false, false, false, false, false, false, false, false, false, false, false, false, false, false, false, false, false, false, false, false, false, true, true] (by decide +kernel) (by repeat (first | exact PF.body | exact PF.round | apply PF.then | apply PF.inBlock | apply PF.jump)) ?_
                    refine LtK.put rfl rfl rfl (yv_pick_f rfl rfl rfl) ?_
                    refine LtK.put rfl rfl rfl (yv_assign rfl) ?_
                    refine LtK.nil ?_
                    refine wpR_end (by kernel_rfl) ?_
                    refine QH_seq_k hK50 ?_
                    refine wpC_ret ?_
                    refine QH_then_ret ?_
                    refine QH_ret rfl (RV.tmp rfl RV.nil) rfl ?_
                    obtain rfl := Option.some.inj H
                    replace hS := hS.cut 0
                    exact ⟨rfl, hS⟩
                · replace H := cond_f H hb
                  refine wpR_batch [false, false, false, true, true, true, true, true, true, true, true, true, true, true, true] (by decide +kernel) (by repeat (first | exact PF.body | exact PF.round | apply PF.then | apply PF.inBlock | apply PF.jump)) ?_
                  refine LtK.skip rfl rfl rfl ?_
                  refine LtK.skip rfl rfl rfl ?_
                  refine LtK.skip rfl rfl rfl ?_
                  refine LtK.skip rfl rfl rfl ?_
                  refine LtK.put rfl rfl rfl (yv_pick_f rfl rfl rfl) ?_
                  refine LtK.put rfl rfl rfl (yv_move rfl) ?_
                  refine LtK.skip rfl rfl rfl ?_
                  refine LtK.skip rfl rfl rfl ?_
                  refine LtK.skip rfl rfl rfl ?_
                  refine LtK.skip rfl rfl rfl ?_
                  refine LtK.skip rfl rfl rfl ?_
                  refine LtK.skip rfl rfl rfl ?_
                  refine LtK.nil ?_
                  refine wpR_call [false, false, false, false, false, false, false, false, false, false, false, false, false, false, false, true] 15 ⟨by decide, by kernel_rfl, by kernel_rfl⟩ rfl rfl ?_
                  dsimp only [pickL]
                  refine wpS_skip rfl rfl rfl ?_
                  refine wpS_nil ?_
                  refine QH_step (Below.refl _ _) ?_
                  refine wpR_batch [false, false, false, false, false, false, false, false, false, false, false, false, false, false, false, false, true, true, true, true, true, true, true, true, true, true, true, true, true, true, true, true] (by decide +kernel) (by repeat (first | exact PF.body | exact PF.round | apply PF.then | apply PF.inBlock | apply PF.jump)) ?_
                  refine LtK.put rfl rfl rfl (yv_pick_f rfl rfl rfl) ?_
                  refine LtK.put rfl rfl rfl (yv_move rfl) ?_
                  refine LtK.skip rfl rfl rfl ?_
                  refine LtK.skip rfl rfl rfl ?_
                  refine LtK.skip rfl rfl rfl ?_
                  refine LtK.skip rfl rfl rfl ?_
                  refine LtK.skip rfl rfl rfl ?_
                  refine LtK.put rfl rfl rfl (yv_pick_f rfl rfl rfl) ?_
                  refine LtK.put rfl rfl rfl (yv_move rfl) ?_
                  refine LtK.skip rfl rfl rfl ?_
                  refine LtK.skip rfl rfl rfl ?_
                  refine LtK.skip rfl rfl rfl ?_
                  refine LtK.skip rfl rfl rfl ?_
                  refine LtK.skip rfl rfl rfl ?_
                  refine LtK.put rfl rfl rfl (yv_pick_f rfl rfl rfl) ?_
                  refine LtK.put rfl rfl rfl (yv_move rfl) ?_
                  refine LtK.nil ?_
                  refine wpR_call [false, false, false, false, false, false, false, false, false, false, false, false, false, false, false, false, false, false, false, false, false, false, false, false, false, false, false, false, false, false, false, false, true] 32 ⟨by decide, by kernel_rfl, by kernel_rfl⟩ rfl rfl ?_
                  dsimp only [pickL]
                  refine wpS_skip rfl rfl rfl ?_
                  refine wpS_nil ?_
                  refine QH_step (Below.refl _ _) ?_
                  refine wpR_batch [false, false, false, false, false, false, false, false, false, false, false, false, false, false, false, false, false, false, false, false, false, false, false, false, false, false, false, false, false, false, false, false, false, true, true] (by decide +kernel) (by repeat (first | exact PF.body | exact PF.round | apply PF.then | apply PF.inBlock | apply PF.jump)) ?_
                  refine LtK.put rfl rfl rfl (yv_pick_f rfl rfl rfl) ?_
                  refine LtK.put rfl rfl rfl (yv_assign rfl) ?_
                  refine LtK.nil ?_
                  refine wpR_end (by kernel_rfl) ?_
                  refine QH_seq_k hK50 ?_
                  refine wpC_ret ?_
                  refine QH_then_ret ?_
                  refine QH_ret rfl (RV.tmp rfl RV.nil) rfl ?_
                  obtain rfl := Option.some.inj H
                  replace hS := hS.cut 0
                  exact ⟨rfl, hS⟩
              · replace H := cond_f H hb
                refine wpC_skip ?_
                refine QH_seq_k hK45 ?_
                refine wpC_seq_k (fun K hK57 => ?_)
                refine wpC_draw 39 [] (fun _ _ => True) ⟨by kernel_rfl, by kernel_rfl⟩ hS (fun w hS hB => ?_)
                refine wpR_batch [true, true, true] (by decide +kernel) (by repeat (first | exact PF.body | exact PF.round | apply PF.then | apply PF.inBlock | apply PF.jump)) ?_
                refine LtK.put rfl rfl rfl (yv_move rfl) ?_
                refine LtK.put rfl rfl rfl (yv_eql rfl rfl) ?_
                refine LtK.put rfl rfl rfl (yv_move rfl) ?_
                refine LtK.nil ?_
                refine wpR_case 110 rfl (fun hb => ?_) (fun hb => ?_)
                · replace H := cond_t H hb
                  refine wpR_batch [false, false, false, true, true, true, true, true, true] (by decide +kernel) (by repeat (first | exact PF.body | exact PF.round | apply PF.then | apply PF.inBlock | apply PF.jump)) ?_
                  refine LtK.put rfl rfl rfl (yv_fieldAddr fo_26_0 rfl) ?_
                  refine LtK.put rfl rfl rfl (yv_load_boxA ag_23 rfl (RW.below _) hS hs0 trivial sg0_5) ?_
                  refine LtK.put rfl rfl rfl (yv_load_boxA ag_23 rfl (RW.below _) hS hs2 trivial sg0_5) ?_
                  refine LtK.put rfl rfl rfl (yv_eqlS (by kernel_rfl) rfl rfl (eqT_23 _ _ _ _ _ _ _ _ _ _)) ?_
                  refine LtK.put rfl rfl rfl (yv_pick_t rfl rfl rfl) ?_
                  refine LtK.put rfl rfl rfl (yv_move rfl) ?_
                  refine LtK.nil ?_
                  refine wpR_case 116 rfl (fun hb => ?_) (fun hb => ?_)
                  · replace H := cond_t H hb
                    refine wpR_batch [false, false, false, false, false, false, false, false, false, true, true, true, true, true, true] (by decide +kernel) (by repeat (first | exact PF.body | exact PF.round | apply PF.then | apply PF.inBlock | apply PF.jump)) ?_
                    refine LtK.put rfl rfl rfl (yv_fieldAddr fo_26_1 rfl) ?_
                    refine LtK.put rfl rfl rfl (yv_load_box sc_24 rfl (RW.below _) hS hs0 trivial sg5_1) ?_
                    refine LtK.put rfl rfl rfl (yv_len el_24 rfl) ?_
                    refine LtK.put rfl rfl rfl (yv_eql rfl rfl) ?_
                    refine LtK.put rfl rfl rfl (yv_pick_t rfl rfl rfl) ?_
                    refine LtK.put rfl rfl rfl (yv_move rfl) ?_
                    refine LtK.nil ?_
                    refine wpR_case 122 rfl (fun hb => ?_) (fun hb => ?_)
                    · replace H := cond_t H hb
                      refine wpR_batch [false, false, false, false, false, false, false, false, false, false, false, false, false, false, false, true, true, true, true, true, true, true] (by decide +kernel) (by repeat (first | exact PF.body | exact PF.round | apply PF.then | apply PF.inBlock | apply PF.jump)) ?_
                      refine LtK.put rfl rfl rfl (yv_fieldAddr fo_26_2 rfl) ?_
                      refine LtK.put rfl rfl rfl (yv_load_box sc_3 rfl (RW.below _) hS hs0 trivial sg6_1) ?_
                      refine LtK.put rfl rfl rfl (yv_fieldAddr fo_26_2 rfl) ?_
                      refine LtK.put rfl rfl rfl (yv_load_box sc_3 rfl (RW.below _) hS hs3 trivial sg6_1) ?_
                      refine LtK.put rfl rfl rfl (yv_eql rfl rfl) ?_
                      refine LtK.put rfl rfl rfl (yv_pick_t rfl rfl rfl) ?_
                      refine LtK.put rfl rfl rfl (yv_move rfl) ?_
                      refine LtK.nil ?_
                      refine wpR_case 129 rfl (fun hb => ?_) (fun hb => ?_)
                      · replace H := cond_t H hb
                        refine wpR_batch [false, false, false, false, false, false, false, false, false, false, false, false, false, false, false, false, false, false, false, false, false, false, true, true, true, true, true, true, true] (by decide +kernel) (by repeat (first | exact PF.body | exact PF.round | apply PF.then | apply PF.inBlock | apply PF.jump)) ?_
                        refine LtK.put rfl rfl rfl (yv_fieldAddr fo_26_3 rfl) ?_
                        refine LtK.put rfl rfl rfl (yv_load_box sc_3 rfl (RW.below _) hS hs0 trivial sg7_1) ?_
                        refine LtK.put rfl rfl rfl (yv_fieldAddr fo_26_3 rfl) ?_
                        refine LtK.put rfl rfl rfl (yv_load_box sc_3 rfl (RW.below _) hS hs3 trivial sg7_1) ?_
                        refine LtK.put rfl rfl rfl (yv_eql rfl rfl) ?_
                        refine LtK.put rfl rfl rfl (yv_pick_t rfl rfl rfl) ?_
                        refine LtK.put rfl rfl rfl (yv_move rfl) ?_
                        refine LtK.nil ?_
                        refine wpR_case 136 rfl (fun hb => ?_) (fun hb => ?_)
                        · replace H := cond_t H hb
                          refine wpR_batch [false, false, false, false, false, false, false, false, false, false, false, false, false, false, false, false, false, false, false, false, false, false, false, false, false, false, false, false, false, true, false, true, true] (by decide +kernel) (by repeat (first | exact PF.body | exact PF.round | apply PF.then | apply PF.inBlock | apply PF.jump)) ?_
                          refine LtK.put rfl rfl rfl (yv_load_boxA ag_26 rfl (RW.below _) hS hs0 trivial sg0_8) ?_
                          refine LtK.put rfl rfl rfl (yv_fieldAddr fo_23_0 rfl) ?_
                          refine LtK.put rfl rfl rfl (yv_load_box sc_3 rfl (RW.below _) hS hs2 trivial sg0_1) ?_
                          refine LtK.nil ?_
                          refine wpR_call [false, false, false, false, false, false, false, false, false, false, false, false, false, false, false, false, false, false, false, false, false, false, false, false, false, false, false, false, false, false, true] 30 ⟨by decide, by kernel_rfl, by kernel_rfl⟩ rfl rfl ?_
                          dsimp only [pickL]
                          obtain ⟨r58, hm59, H⟩ := bind_some H
                          refine wpS_call rfl rfl rfl rfl (by kernel_rfl) rfl (c_tuple_Last r19.1 A21 c22 _ (SlI.of_rd k23 (hS.rd hs1) (hS.rd_blk hs1)) hm59) ?_
                          rintro e w ⟨rfl, hN⟩; refine ⟨_, rfl, ?_⟩; have hB := hN.pure; have hS := hS.join hN; clear hN
                          refine wpS_nil ?_
                          refine QH_step hB ?_
                          refine wpR_batch [false, false, false, false, false, false, false, false, false, false, false, false, false, false, false, false, false, false, false, false, false, false, false, false, false, false, false, false, false, false, false, false, false, true, true, true] (by decide +kernel) (by repeat (first | exact PF.body | exact PF.round | apply PF.then | apply PF.inBlock | apply PF.jump)) ?_
                          refine LtK.put rfl rfl rfl (yv_eql rfl rfl) ?_
                          refine LtK.put rfl rfl rfl (yv_pick_t rfl rfl rfl) ?_
                          refine LtK.put rfl rfl rfl (yv_move rfl) ?_
                          refine LtK.nil ?_
                          refine wpR_case 143 rfl (fun hb => ?_) (fun hb => ?_)
                          · replace H := cond_t H hb
                            refine wpR_call [false, false, false, false, false, false, false, false, false, false, false, false, false, false, false, false, false, false, false, false, false, false, false, false, false, false, false, false, false, false, false, false, false, false, false, false, true] 36 ⟨by decide, by kernel_rfl, by kernel_rfl⟩ rfl rfl ?_
                            dsimp only [pickL]
                            obtain ⟨r60, hm61, H⟩ := bind_some H
                            refine wpS_call rfl rfl rfl rfl (by kernel_rfl) rfl (c_law12_wakes _ hm61) ?_
                            rintro e w ⟨rfl, hN⟩; refine ⟨_, rfl, ?_⟩; have hB := hN.pure; have hS := hS.join hN; clear hN
                            refine wpS_nil ?_
                            refine QH_step hB ?_
                            refine wpR_batch [false, false, false, false, false, false, false, false, false, false, false, false, false, false, false, false, false, false, false, false, false, false, false, false, false, false, false, false, false, false, false, false, false, false, false, false, false, true, true] (by decide +kernel) (by repeat (first | exact PF.body | exact PF.round | apply PF.then | apply PF.inBlock | apply PF.jump)) ?_
                            refine LtK.put rfl rfl rfl (yv_pick_t rfl rfl rfl) ?_
                            refine LtK.put rfl rfl rfl (yv_assign rfl) ?_
                            refine LtK.nil ?_
                            refine wpR_end (by kernel_rfl) ?_
                            refine QH_seq_k hK57 ?_
                            refine wpC_ret ?_
                            refine QH_ret rfl (RV.tmp rfl RV.nil) rfl ?_
                            obtain rfl := Option.some.inj H
                            replace hS := hS.cut 0
                            exact ⟨rfl, hS⟩
                          · replace H := cond_f H hb
                            refine wpR_call [false, false, false, false, false, false, false, false, false, false, false, false, false, false, false, false, false, false, false, false, false, false, false, false, false, false, false, false, false, false, false, false, false, false, false, false, true] 36 ⟨by decide, by kernel_rfl, by kernel_rfl⟩ rfl rfl ?_
                            dsimp only [pickL]
                            refine wpS_skip rfl rfl rfl ?_
                            refine wpS_nil ?_
                            refine QH_step (Below.refl _ _) ?_
                            refine wpR_batch [false, false, false, false, false, false, false, false, false, false, false, false, false, false, false, false, false, false, false, false, false, false, false, false, false, false, false, false, false, false, false, false, false, false, false, false, false, true, true] (by decide +kernel) (by repeat (first | exact PF.body | exact PF.round | apply PF.then | apply PF.inBlock | apply PF.jump)) ?_
                            refine LtK.put rfl rfl rfl (yv_pick_f rfl rfl rfl) ?_
                            refine LtK.put rfl rfl rfl (yv_assign rfl) ?_
                            refine LtK.nil ?_
                            refine wpR_end (by kernel_rfl) ?_
                            refine QH_seq_k hK57 ?_
                            refine wpC_ret ?_
                            refine QH_ret rfl (RV.tmp rfl RV.nil) rfl ?_
                            obtain rfl := Option.some.inj H
                            replace hS := hS.cut 0
                            exact ⟨rfl, hS⟩
                        · replace H := cond_f H hb
                          refine wpR_batch [false, false, false, false, false, false, false, false, false, false, false, false, false, false, false, false, false, false, false, false, false, false, false, false, false, false, false, false, false, true, false, true, true] (by decide +kernel) (by repeat (first | exact PF.body | exact PF.round | apply PF.then | apply PF.inBlock | apply PF.jump)) ?_
                          refine LtK.skip rfl rfl rfl ?_
                          refine LtK.skip rfl rfl rfl ?_
                          refine LtK.skip rfl rfl rfl ?_
                          refine LtK.nil ?_
                          refine wpR_call [false, false, false, false, false, false, false, false, false, false, false, false, false, false, false, false, false, false, false, false, false, false, false, false, false, false, false, false, false, false, true] 30 ⟨by decide, by kernel_rfl, by kernel_rfl⟩ rfl rfl ?_
                          dsimp only [pickL]
                          refine wpS_skip rfl rfl rfl ?_
                          refine wpS_nil ?_
                          refine QH_step (Below.refl _ _) ?_
                          refine wpR_batch [false, false, false, false, false, false, false, false, false, false, false, false, false, false, false, false, false, false, false, false, false, false, false, false, false, false, false, false, false, false, false, false, false, true, true, true] (by decide +kernel) (by repeat (first | exact PF.body | exact PF.round | apply PF.then | apply PF.inBlock | apply PF.jump)) ?_
                          refine LtK.skip rfl rfl rfl ?_
                          refine LtK.put rfl rfl rfl (yv_pick_f rfl rfl rfl) ?_
                          refine LtK.put rfl rfl rfl (yv_move rfl) ?_
                          refine LtK.nil ?_
                          refine wpR_call [false, false, false, false, false, false, false, false, false, false, false, false, false, false, false, false, false, false, false, false, false, false, false, false, false, false, false, false, false, false, false, false, false, false, false, false, true] 36 ⟨by decide, by kernel_rfl, by kernel_rfl⟩ rfl rfl ?_
                          dsimp only [pickL]
                          refine wpS_skip rfl rfl rfl ?_
                          refine wpS_nil ?_
                          refine QH_step (Below.refl _ _) ?_
                          refine wpR_batch [false, false, false, false, false, false, false, false, false, false, false, false, false, false, false, false, false, false, false, false, false, false, false, false, false, false, false, false, false, false, false, false, false, false, false, false, false, true, true] (by decide +kernel) (by repeat (first | exact PF.body | exact PF.round | apply PF.then | apply PF.inBlock | apply PF.jump)) ?_
                          refine LtK.put rfl rfl rfl (yv_pick_f rfl rfl rfl) ?_
                          refine LtK.put rfl rfl rfl (yv_assign rfl) ?_
                          refine LtK.nil ?_
                          refine wpR_end (by kernel_rfl) ?_
                          refine QH_seq_k hK57 ?_
                          refine wpC_ret ?_
                          refine QH_ret rfl (RV.tmp rfl RV.nil) rfl ?_
                          obtain rfl := Option.some.inj H
                          replace hS := hS.cut 0
                          exact ⟨rfl, hS⟩
                      · replace H := cond_f H hb
                        refine wpR_batch [false, false, false, false, false, false, false, false, false, false, false, false, false, false, false, false, false, false, false, false, false, false, true, true, true, true, true, true, true, true, false, true, true] (by decide +kernel) (by repeat (first | exact PF.body | exact PF.round | apply PF.then | apply PF.inBlock | apply PF.jump)) ?_
                        refine LtK.skip rfl rfl rfl ?_
                        refine LtK.skip rfl rfl rfl ?_
                        refine LtK.skip rfl rfl rfl ?_
                        refine LtK.skip rfl rfl rfl ?_
                        refine LtK.skip rfl rfl rfl ?_
                        refine LtK.put rfl rfl rfl (yv_pick_f rfl rfl rfl) ?_
                        refine LtK.put rfl rfl rfl (yv_move rfl) ?_
                        refine LtK.skip rfl rfl rfl ?_
                        refine LtK.skip rfl rfl rfl ?_
                        refine LtK.skip rfl rfl rfl ?_
                        refine LtK.nil ?_
                        refine wpR_call [false, false, false, false, false, false, false, false, false, false, false, false, false, false, false, false, false, false, false, false, false, false, false, false, false, false, false, false, false, false, true] 30 ⟨by decide, by kernel_rfl, by kernel_rfl⟩ rfl rfl ?_
                        dsimp only [pickL]
                        refine wpS_skip rfl rfl rfl ?_
                        refine wpS_nil ?_
                        refine QH_step (Below.refl _ _) ?_
                        refine wpR_batch [false, false, false, false, false, false, false, false, false, false, false, false, false, false, false, false, false, false, false, false, false, false, false, false, false, false, false, false, false, false, false, false, false, true, true, true] (by decide +kernel) (by repeat (first | exact PF.body | exact PF.round | apply PF.then | apply PF.inBlock | apply PF.jump)) ?_
                        refine LtK.skip rfl rfl rfl ?_
                        refine LtK.put rfl rfl rfl (yv_pick_f rfl rfl rfl) ?_
                        refine LtK.put rfl rfl rfl (yv_move rfl) ?_
                        refine LtK.nil ?_
                        refine wpR_call [false, false, false, false, false, false, false, false, false, false, false, false, false, false, false, false, false, false, false, false, false, false, false, false, false, false, false, false, false, false, false, false, false, false, false, false, true] 36 ⟨by decide, by kernel_rfl, by kernel_rfl⟩ rfl rfl ?_
                        dsimp only [pickL]
                        refine wpS_skip rfl rfl rfl ?_
                        refine wpS_nil ?_
                        refine QH_step (Below.refl _ _) ?_
                        refine wpR_batch [false, false, false, false, false, false, false, false, false, false, false, false, false, false, false, false, false, false, false, false, false, false, false, false, false, false, false, false, false, false, false, false, false, false, false, false, false, true, true] (by decide +kernel) (by repeat (first | exact PF.body | exact PF.round | apply PF.then | apply PF.inBlock | apply PF.jump)) ?_
                        refine LtK.put rfl rfl rfl (yv_pick_f rfl rfl rfl) ?_
                        refine LtK.put rfl rfl rfl (yv_assign rfl) ?_
                        refine LtK.nil ?_
                        refine wpR_end (by kernel_rfl) ?_
                        refine QH_seq_k hK57 ?_
                        refine wpC_ret ?_
                        refine QH_ret rfl (RV.tmp rfl RV.nil) rfl ?_
                        obtain rfl := Option.some.inj H
                        replace hS := hS.cut 0
                        exact ⟨rfl, hS⟩
                    · replace H := cond_f H hb
                      refine wpR_batch [false, false, false, false, false, false, false, false, false, false, false, false, false, false, false, true, true, true, true, true, true, true, true, true, true, true, true, true, true, true, false, true, true] (by decide +kernel) (by repeat (first | exact PF.body | exact PF.round | apply PF.then | apply PF.inBlock | apply PF.jump)) ?_
                      refine LtK.skip rfl rfl rfl ?_
                      refine LtK.skip rfl rfl rfl ?_
                      refine LtK.skip rfl rfl rfl ?_
                      refine LtK.skip rfl rfl rfl ?_
                      refine LtK.skip rfl rfl rfl ?_
                      refine LtK.put rfl rfl rfl (yv_pick_f rfl rfl rfl) ?_
                      refine LtK.put rfl rfl rfl (yv_move rfl) ?_
                      refine LtK.skip rfl rfl rfl ?_
                      refine LtK.skip rfl rfl rfl ?_
                      refine LtK.skip rfl rfl rfl ?_
                      refine LtK.skip rfl rfl rfl ?_
                      refine LtK.skip rfl rfl rfl ?_
                      refine LtK.put rfl rfl rfl (yv_pick_f rfl rfl rfl) ?_
                      refine LtK.put rfl rfl rfl (yv_move rfl) ?_
                      refine LtK.skip rfl rfl rfl ?_
                      refine LtK.skip rfl rfl rfl ?_
                      refine LtK.skip rfl rfl rfl ?_
                      refine LtK.nil ?_
                      refine wpR_call [false, false, false, false, false, false, false, false, false, false, false, false, false, false, false, false, false, false, false, false, false, false, false, false, false, false, false, false, false, false, true] 30 ⟨by decide, by kernel_rfl, by kernel_rfl⟩ rfl rfl ?_
                      dsimp only [pickL]
                      refine wpS_skip rfl rfl rfl ?_
                      refine wpS_nil ?_
                      refine QH_step (Below.refl _ _) ?_
                      refine wpR_batch [false, false, false, false, false, false, false, false, false, false, false, false, false, false, false, false, false, false, false, false, false, false, false, false, false, false, false, false, false, false, false, false, false, true, true, true] (by decide +kernel) (by repeat (first | exact PF.body | exact PF.round | apply PF.then | apply PF.inBlock | apply PF.jump)) ?_
                      refine LtK.skip rfl rfl rfl ?_
                      refine LtK.put rfl rfl rfl (yv_pick_f rfl rfl rfl) ?_
                      refine LtK.put rfl rfl rfl (yv_move rfl) ?_
                      refine LtK.nil ?_
                      refine wpR_call [false, false, false, false, false, false, false, false, false, false, false, false, false, false, false, false, false, false, false, false, false, false, false, false, false, false, false, false, false, false, false, false, false, false, false, false, true] 36 ⟨by decide, by kernel_rfl, by kernel_rfl⟩ rfl rfl ?_
                      dsimp only [pickL]
                      refine wpS_skip rfl rfl rfl ?_
                      refine wpS_nil ?_
                      refine QH_step (Below.refl _ _) ?_
                      refine wpR_batch [false, false, false, false, false, false, false, false, false, false, false, false, false, false, false, false, false, false, false, false, false, false, false, false, false, false, false, false, false, false, false, false, false, false, false, false, false, true, true] (by decide +kernel) (by repeat (first | exact PF.body | exact PF.round | apply PF.then | apply PF.inBlock | apply PF.jump)) ?_
                      refine LtK.put rfl rfl rfl (yv_pick_f rfl rfl rfl) ?_
                      refine LtK.put rfl rfl rfl (yv_assign rfl) ?_
                      refine LtK.nil ?_
                      refine wpR_end (by kernel_rfl) ?_
                      refine QH_seq_k hK57 ?_
                      refine wpC_ret ?_
                      refine QH_ret rfl (RV.tmp rfl RV.nil) rfl ?_
                      obtain rfl := Option.some.inj H
                      replace hS := hS.cut 0
                      exact ⟨rfl, hS⟩
                  · replace H := cond_f H hb
                    refine wpR_batch [false, false, false, false, false, false, false, false, false, true, true, true, true, true, true, true, true, true, true, true, true, true, true, true, true, true, true, true, true, true, false, true, true] (by decide +kernel) (by repeat (first | exact PF.body | exact PF.round | apply PF.then | apply PF.inBlock | apply PF.jump)) ?_
                    refine LtK.skip rfl rfl rfl ?_
                    refine LtK.skip rfl rfl rfl ?_
                    refine LtK.skip rfl rfl rfl ?_
                    refine LtK.skip rfl rfl rfl ?_
                    refine LtK.put rfl rfl rfl (yv_pick_f rfl rfl rfl) ?_
                    refine LtK.put rfl rfl rfl (yv_move rfl) ?_
                    refine LtK.skip rfl rfl rfl ?_
                    refine LtK.skip rfl rfl rfl ?_
                    refine LtK.skip rfl rfl rfl ?_
                    refine LtK.skip rfl rfl rfl ?_
                    refine LtK.skip rfl rfl rfl ?_
                    refine LtK.put rfl rfl rfl (yv_pick_f rfl rfl rfl) ?_
                    refine LtK.put rfl rfl rfl (yv_move rfl) ?_
                    refine LtK.skip rfl rfl rfl ?_
                    refine LtK.skip rfl rfl rfl ?_
                    refine LtK.skip rfl rfl rfl ?_
                    refine LtK.skip rfl rfl rfl ?_
                    refine LtK.skip rfl rfl rfl ?_
                    refine LtK.put rfl rfl rfl (yv_pick_f rfl rfl rfl) ?_
                    refine LtK.put rfl rfl rfl (yv_move rfl) ?_
                    refine LtK.skip rfl rfl rfl ?_
                    refine LtK.skip rfl rfl rfl ?_
                    refine LtK.skip rfl rfl rfl ?_
                    refine LtK.nil ?_
                    refine wpR_call [false, false, false, false, false, false, false, false, false, false, false, false, false, false, false, false, false, false, false, false, false, false, false, false, false, false, false, false, false, false, true] 30 ⟨by decide, by kernel_rfl, by kernel_rfl⟩ rfl rfl ?_
                    dsimp only [pickL]
                    refine wpS_skip rfl rfl rfl ?_
                    refine wpS_nil ?_
                    refine QH_step (Below.refl _ _) ?_
                    refine wpR_batch [false, false, false, false, false, false, false, false, false, false, false, false, false, false, false, false, false, false, false, false, false, false, false, false, false, false, false, false, false, false, false, false, false, true, true, true] (by decide +kernel) (by repeat (first | exact PF.body | exact PF.round | apply PF.then | apply PF.inBlock | apply PF.jump)) ?_
                    refine LtK.skip rfl rfl rfl ?_
                    refine LtK.put rfl rfl rfl (yv_pick_f rfl rfl rfl) ?_
                    refine LtK.put rfl rfl rfl (yv_move rfl) ?_
                    refine LtK.nil ?_
                    refine wpR_call [false, false, false, false, false, false, false, false, false, false, false, false, false, false, false, false, false, false, false, false, false, false, false, false, false, false, false, false, false, false, false, false, false, false, false, false, true] 36 ⟨by decide, by kernel_rfl, by kernel_rfl⟩ rfl rfl ?_
                    dsimp only [pickL]
                    refine wpS_skip rfl rfl rfl ?_
                    refine wpS_nil ?_
                    refine QH_step (Below.refl _ _) ?_
                    refine wpR_batch [false, false, false, false, false, false, false, false, false, false, false, false, false, false, false, false, false, false, false, false, false, false, false, false, false, false, false, false, false, false, false, false, false, false, false, false, false, true, true] (by decide +kernel) (by repeat (first | exact PF.body | exact PF.round | apply PF.then | apply PF.inBlock | apply PF.jump)) ?_
                    refine LtK.put rfl rfl rfl (yv_pick_f rfl rfl rfl) ?_
                    refine LtK.put rfl rfl rfl (yv_assign rfl) ?_
                    refine LtK.nil ?_
                    refine wpR_end (by kernel_rfl) ?_
                    refine QH_seq_k hK57 ?_
                    refine wpC_ret ?_
                    refine QH_ret rfl (RV.tmp rfl RV.nil) rfl ?_
                    obtain rfl := Option.some.inj H
                    replace hS := hS.cut 0
                    exact ⟨rfl, hS⟩
                · replace H := cond_f H hb
                  refine wpR_batch [false, false, false, true, true, true, true, true, true, true, true, true, true, true, true, true, true, true, true, true, true, true, true, true, true, true, true, true, true, true, false, true, true] (by decide +kernel) (by repeat (first | exact PF.body | exact PF.round | apply PF.then | apply PF.inBlock | apply PF.jump)) ?_
                  refine LtK.skip rfl rfl rfl ?_
                  refine LtK.skip rfl rfl rfl ?_
                  refine LtK.skip rfl rfl rfl ?_
                  refine LtK.skip rfl rfl rfl ?_
                  refine LtK.put rfl rfl rfl (yv_pick_f rfl rfl rfl) ?_
                  refine LtK.put rfl rfl rfl (yv_move rfl) ?_
                  refine LtK.skip rfl rfl rfl ?_
                  refine LtK.skip rfl rfl rfl ?_
                  refine LtK.skip rfl rfl rfl ?_
                  refine LtK.skip rfl rfl rfl ?_
                  refine LtK.put rfl rfl rfl (yv_pick_f rfl rfl rfl) ?_
                  refine LtK.put rfl rfl rfl (yv_move rfl) ?_
                  refine LtK.skip rfl rfl rfl ?_
                  refine LtK.skip rfl rfl rfl ?_
                  refine LtK.skip rfl rfl rfl ?_
                  refine LtK.skip rfl rfl rfl ?_
                  refine LtK.skip rfl rfl rfl ?_
                  refine LtK.put rfl rfl rfl (yv_pick_f rfl rfl rfl) ?_
                  refine LtK.put rfl rfl rfl (yv_move rfl) ?_
                  refine LtK.skip rfl rfl rfl ?_
                  refine LtK.skip rfl rfl rfl ?_
                  refine LtK.skip rfl rfl rfl ?_
                  refine LtK.skip rfl rfl rfl ?_
                  refine LtK.skip rfl rfl rfl ?_
                  refine LtK.put rfl rfl rfl (yv_pick_f rfl rfl rfl) ?_
                  refine LtK.put rfl rfl rfl (yv_move rfl) ?_
                  refine LtK.skip rfl rfl rfl ?_
                  refine LtK.skip rfl rfl rfl ?_
                  refine LtK.skip rfl rfl rfl ?_
                  refine LtK.nil ?_
                  refine wpR_call [false, false, false, false, false, false, false, false, false, false, false, false, false, false, false, false, false, false, false, false, false, false, false, false, false, false, false, false, false, false, true] 30 ⟨by decide, by kernel_rfl, by kernel_rfl⟩ rfl rfl ?_
                  dsimp only [pickL]
                  refine wpS_skip rfl rfl rfl ?_
                  refine wpS_nil ?_
                  refine QH_step (Below.refl _ _) ?_
                  refine wpR_batch [false, false, false, false, false, false, false, false, false, false, false, false, false, false, false, false, false, false, false, false, false, false, false, false, false, false, false, false, false, false, false, false, false, true, true, true] (by decide +kernel) (by repeat (first | exact PF.body | exact PF.round | apply PF.then | apply PF.inBlock | apply PF.jump)) ?_
                  refine LtK.skip rfl rfl rfl ?_
                  refine LtK.put rfl rfl rfl (yv_pick_f rfl rfl rfl) ?_
                  refine LtK.put rfl rfl rfl (yv_move rfl) ?_
                  refine LtK.nil ?_
                  refine wpR_call [false, false, false, false, false, false, false, false, false, false, false, false, false, false, false, false, false, false, false, false, false, false, false, false, false, false, false, false, false, false, false, false, false, false, false, false, true] 36 ⟨by decide, by kernel_rfl, by kernel_rfl⟩ rfl rfl ?_
                  dsimp only [pickL]
                  refine wpS_skip rfl rfl rfl ?_
                  refine wpS_nil ?_
                  refine QH_step (Below.refl _ _) ?_
                  refine wpR_batch [false, false, false, false, false, false, false, false, false, false, false, false, false, false, false, false, false, false, false, false, false, false, false, false, false, false, false, false, false, false, false, false, false, false, false, false, false, true, true] (by decide +kernel) (by repeat (first | exact PF.body | exact PF.round | apply PF.then | apply PF.inBlock | apply PF.jump)) ?_
                  refine LtK.put rfl rfl rfl (yv_pick_f rfl rfl rfl) ?_
                  refine LtK.put rfl rfl rfl (yv_assign rfl) ?_
                  refine LtK.nil ?_
                  refine wpR_end (by kernel_rfl) ?_
                  refine QH_seq_k hK57 ?_
                  refine wpC_ret ?_
                  refine QH_ret rfl (RV.tmp rfl RV.nil) rfl ?_
                  obtain rfl := Option.some.inj H
                  replace hS := hS.cut 0
                  exact ⟨rfl, hS⟩
            · replace H := cond_f H hb
              refine wpR_batch [false, false, false, false, false, false, true, true, true, true, true, true, true, true, true, true, true] (by decide +kernel) (by repeat (first | exact PF.body | exact PF.round | apply PF.then | apply PF.inBlock | apply PF.jump)) ?_
              refine LtK.skip rfl rfl rfl ?_
              refine LtK.skip rfl rfl rfl ?_
              refine LtK.skip rfl rfl rfl ?_
              refine LtK.skip rfl rfl rfl ?_
              refine LtK.skip rfl rfl rfl ?_
              refine LtK.skip rfl rfl rfl ?_
              refine LtK.skip rfl rfl rfl ?_
              refine LtK.skip rfl rfl rfl ?_
              refine LtK.skip rfl rfl rfl ?_
              refine LtK.skip rfl rfl rfl ?_
              refine LtK.put rfl rfl rfl (yv_pick_f rfl rfl rfl) ?_
              refine LtK.nil ?_
              refine wpR_end (by kernel_rfl) ?_
              refine QH_seq_k hK46 ?_
              refine wpC_cond_f rfl rfl ?_
              refine wpC_skip ?_
              refine QH_seq_k hK45 ?_
              refine wpC_seq_k (fun K hK62 => ?_)
              refine wpC_draw 39 [] (fun _ _ => True) ⟨by kernel_rfl, by kernel_rfl⟩ hS (fun w hS hB => ?_)
              refine wpR_batch [true, true, true] (by decide +kernel) (by repeat (first | exact PF.body | exact PF.round | apply PF.then | apply PF.inBlock | apply PF.jump)) ?_
              refine LtK.put rfl rfl rfl (yv_move rfl) ?_
              refine LtK.put rfl rfl rfl (yv_eql rfl rfl) ?_
              refine LtK.put rfl rfl rfl (yv_move rfl) ?_
              refine LtK.nil ?_
              refine wpR_case 110 rfl (fun hb => ?_) (fun hb => ?_)
              · replace H := cond_t H hb
                refine wpR_batch [false, false, false, true, true, true, true, true, true] (by decide +kernel) (by repeat (first | exact PF.body | exact PF.round | apply PF.then | apply PF.inBlock | apply PF.jump)) ?_
                refine LtK.put rfl rfl rfl (yv_fieldAddr fo_26_0 rfl) ?_
                refine LtK.put rfl rfl rfl (yv_load_boxA ag_23 rfl (RW.below _) hS hs0 trivial sg0_5) ?_
                refine LtK.put rfl rfl rfl (yv_load_boxA ag_23 rfl (RW.below _) hS hs2 trivial sg0_5) ?_
                refine LtK.put rfl rfl rfl (yv_eqlS (by kernel_rfl) rfl rfl (eqT_23 _ _ _ _ _ _ _ _ _ _)) ?_
                refine LtK.put rfl rfl rfl (yv_pick_t rfl rfl rfl) ?_
                refine LtK.put rfl rfl rfl (yv_move rfl) ?_
                refine LtK.nil ?_
                refine wpR_case 116 rfl (fun hb => ?_) (fun hb => ?_)
                · replace H := cond_t H hb
                  refine wpR_batch [false, false, false, false, false, false, false, false, false, true, true, true, true, true, true] (by decide +kernel) (by repeat (first | exact PF.body | exact PF.round | apply PF.then | apply PF.inBlock | apply PF.jump)) ?_
                  refine LtK.put rfl rfl rfl (yv_fieldAddr fo_26_1 rfl) ?_
                  refine LtK.put rfl rfl rfl (yv_load_box sc_24 rfl (RW.below _) hS hs0 trivial sg5_1) ?_
                  refine LtK.put rfl rfl rfl (yv_len el_24 rfl) ?_
                  refine LtK.put rfl rfl rfl (yv_eql rfl rfl) ?_
                  refine LtK.put rfl rfl rfl (yv_pick_t rfl rfl rfl) ?_
                  refine LtK.put rfl rfl rfl (yv_move rfl) ?_
                  refine LtK.nil ?_
                  refine wpR_case 122 rfl (fun hb => ?_) (fun hb => ?_)
                  · replace H := cond_t H hb
                    refine wpR_batch [false, false, false, false, false, false, false, false, false, false, false, false, false, false, false, true, true, true, true, true, true, true] (by decide +kernel) (by repeat (first | exact PF.body | exact PF.round | apply PF.then | apply PF.inBlock | apply PF.jump)) ?_
                    refine LtK.put rfl rfl rfl (yv_fieldAddr fo_26_2 rfl) ?_
                    refine LtK.put rfl rfl rfl (yv_load_box sc_3 rfl (RW.below _) hS hs0 trivial sg6_1) ?_
                    refine LtK.put rfl rfl rfl (yv_fieldAddr fo_26_2 rfl) ?_
                    refine LtK.put rfl rfl rfl (yv_load_box sc_3 rfl (RW.below _) hS hs3 trivial sg6_1) ?_
                    refine LtK.put rfl rfl rfl (yv_eql rfl rfl) ?_
                    refine LtK.put rfl rfl rfl (yv_pick_t rfl rfl rfl) ?_
                    refine LtK.put rfl rfl rfl (yv_move rfl) ?_
                    refine LtK.nil ?_
                    refine wpR_case 129 rfl (fun hb => ?_) (fun hb => ?_)
                    · replace H := cond_t H hb
                      refine wpR_batch [false, false, false, false, false, false, false, false, false, false, false, false, false, false, false, false, false, false, false, false, false, false, true, true, true, true, true, true, true] (by decide +kernel) (by repeat (first | exact PF.body | exact PF.round | apply PF.then | apply PF.inBlock | apply PF.jump)) ?_
                      refine LtK.put rfl rfl rfl (yv_fieldAddr fo_26_3 rfl) ?_
                      refine LtK.put rfl rfl rfl (yv_load_box sc_3 rfl (RW.below _) hS hs0 trivial sg7_1) ?_
                      refine LtK.put rfl rfl rfl (yv_fieldAddr fo_26_3 rfl) ?_
                      refine LtK.put rfl rfl rfl (yv_load_box sc_3 rfl (RW.below _) hS hs3 trivial sg7_1) ?_
                      refine LtK.put rfl rfl rfl (yv_eql rfl rfl) ?_
                      refine LtK.put rfl rfl rfl (yv_pick_t rfl rfl rfl) ?_
                      refine LtK.put rfl rfl rfl (yv_move rfl) ?_
                      refine LtK.nil ?_
                      refine wpR_case 136 rfl (fun hb => ?_) (fun hb => ?_)
                      · replace H := cond_t H hb
                        refine wpR_batch [false, false, false, false, false, false, false, false, false, false, false, false, false, false, false, false, false, false, false, false, false, false, false, false, false, false, false, false, false, true, false, true, true] (by decide +kernel) (by repeat (first | exact PF.body | exact PF.round | apply PF.then | apply PF.inBlock | apply PF.jump)) ?_
                        refine LtK.put rfl rfl rfl (yv_load_boxA ag_26 rfl (RW.below _) hS hs0 trivial sg0_8) ?_
                        refine LtK.put rfl rfl rfl (yv_fieldAddr fo_23_0 rfl) ?_
                        refine LtK.put rfl rfl rfl (yv_load_box sc_3 rfl (RW.below _) hS hs2 trivial sg0_1) ?_
                        refine LtK.nil ?_
                        refine wpR_call [false, false, false, false, false, false, false, false, false, false, false, false, false, false, false, false, false, false, false, false, false, false, false, false, false, false, false, false, false, false, true] 30 ⟨by decide, by kernel_rfl, by kernel_rfl⟩ rfl rfl ?_
                        dsimp only [pickL]
                        obtain ⟨r63, hm64, H⟩ := bind_some H
                        refine wpS_call rfl rfl rfl rfl (by kernel_rfl) rfl (c_tuple_Last r19.1 A21 c22 _ (SlI.of_rd k23 (hS.rd hs1) (hS.rd_blk hs1)) hm64) ?_
                        rintro e w ⟨rfl, hN⟩; refine ⟨_, rfl, ?_⟩; have hB := hN.pure; have hS := hS.join hN; clear hN
                        refine wpS_nil ?_
                        refine QH_step hB ?_
                        refine wpR_batch [false, false, false, false, false, false, false, false, false, false, false, false, false, false, false, false, false, false, false, false, false, false, false, false, false, false, false, false, false, false, false, false, false, true, true, true] (by decide +kernel) (by repeat (first | exact PF.body | exact PF.round | apply PF.then | apply PF.inBlock | apply PF.jump)) ?_
                        refine LtK.put rfl rfl rfl (yv_eql rfl rfl) ?_
                        refine LtK.put rfl rfl rfl (yv_pick_t rfl rfl rfl) ?_
                        refine LtK.put rfl rfl rfl (yv_move rfl) ?_
                        refine LtK.nil ?_
                        refine wpR_case 143 rfl (fun hb => ?_) (fun hb => ?_)
                        · replace H := cond_t H hb
                          refine wpR_call [false, false, false, false, false, false, false, false, false, false, false, false, false, false, false, false, false, false, false, false, false, false, false, false, false, false, false, false, false, false, false, false, false, false, false, false, true] 36 ⟨by decide, by kernel_rfl, by kernel_rfl⟩ rfl rfl ?_
                          dsimp only [pickL]
                          obtain ⟨r65, hm66, H⟩ := bind_some H
                          refine wpS_call rfl rfl rfl rfl (by kernel_rfl) rfl (c_law12_wakes _ hm66) ?_
                          rintro e w ⟨rfl, hN⟩; refine ⟨_, rfl, ?_⟩; have hB := hN.pure; have hS := hS.join hN; clear hN
                          refine wpS_nil ?_
                          refine QH_step hB ?_
                          refine wpR_batch [false, false, false, false, false, false, false, false, false, false, false, false, false, false, false, false, false, false, false, false, false, false, false, false, false, false, false, false, false, false, false, false, false, false, false, false, false, true, true] (by decide +kernel) (by repeat (first | exact PF.body | exact PF.round | apply PF.then | apply PF.inBlock | apply PF.jump)) ?_
                          refine LtK.put rfl rfl rfl (yv_pick_t rfl rfl rfl) ?_
                          refine LtK.put rfl rfl rfl (yv_assign rfl) ?_
                          refine LtK.nil ?_
                          refine wpR_end (by kernel_rfl) ?_
                          refine QH_seq_k hK62 ?_
                          refine wpC_ret ?_
                          refine QH_ret rfl (RV.tmp rfl RV.nil) rfl ?_
                          obtain rfl := Option.some.inj H
                          replace hS := hS.cut 0
                          exact ⟨rfl, hS⟩
                        · replace H := cond_f H hb
                          refine wpR_call [false, false, false, false, false, false, false, false, false, false, false, false, false, false, false, false, false, false, false, false, false, false, false, false, false, false, false, false, false, false, false, false, false, false, false, false, true] 36 ⟨by decide, by kernel_rfl, by kernel_rfl⟩ rfl rfl ?_
                          dsimp only [pickL]
                          refine wpS_skip rfl rfl rfl ?_
                          refine wpS_nil ?_
                          refine QH_step (Below.refl _ _) ?_
                          refine wpR_batch [false, false, false, false, false, false, false, false, false, false, false, false, false, false, false, false, false, false, false, false, false, false, false, false, false, false, false, false, false, false, false, false, false, false, false, false, false, true, true] (by decide +kernel) (by repeat (first | exact PF.body | exact PF.round | apply PF.then | apply PF.inBlock | apply PF.jump)) ?_
                          refine LtK.put rfl rfl rfl (yv_pick_f rfl rfl rfl) ?_
                          refine LtK.put rfl rfl rfl (yv_assign rfl) ?_
                          refine LtK.nil ?_
                          refine wpR_end (by kernel_rfl) ?_
                          refine QH_seq_k hK62 ?_
                          refine wpC_ret ?_
                          refine QH_ret rfl (RV.tmp rfl RV.nil) rfl ?_
                          obtain rfl := Option.some.inj H
                          replace hS := hS.cut 0
                          exact ⟨rfl, hS⟩
                      · replace H := cond_f H hb
                        refine wpR_batch [false, false, false, false, false, false, false, false, false, false, false, false, false, false, false, false, false, false, false, false, false, false, false, false, false, false, false, false, false, true, false, true, true] (by decide +kernel) (by repeat (first | exact PF.body | exact PF.round | apply PF.then | apply PF.inBlock | apply PF.jump)) ?_
                        refine LtK.skip rfl rfl rfl ?_
                        refine LtK.skip rfl rfl rfl ?_
                        refine LtK.skip rfl rfl rfl ?_
                        refine LtK.nil ?_
                        refine wpR_call [false, false, false, false, false, false, false, false, false, false, false, false, false, false, false, false, false, false, false, false, false, false, false, false, false, false, false, false, false, false, true] 30 ⟨by decide, by kernel_rfl, by kernel_rfl⟩ rfl rfl ?_
                        dsimp only [pickL]
                        refine wpS_skip rfl rfl rfl ?_
                        refine wpS_nil ?_
                        refine QH_step (Below.refl _ _) ?_
                        refine wpR_batch [false, false, false, false, false, false, false, false, false, false, false, false, false, false, false, false, false, false, false, false, false, false, false, false, false, false, false, false, false, false, false, false, false, true, true, true] (by decide +kernel) (by repeat (first | exact PF.body | exact PF.round | apply PF.then | apply PF.inBlock | apply PF.jump)) ?_
                        refine LtK.skip rfl rfl rfl ?_
                        refine LtK.put rfl rfl rfl (yv_pick_f rfl rfl rfl) ?_
                        refine LtK.put rfl rfl rfl (yv_move rfl) ?_
                        refine LtK.nil ?_
                        refine wpR_call [false, false, false, false, false, false, false, false, false, false, false, false, false, false, false, false, false, false, false, false, false, false, false, false, false, false, false, false, false, false, false, false, false, false, false, false, true] 36 ⟨by decide, by kernel_rfl, by kernel_rfl⟩ rfl rfl ?_
                        dsimp only [pickL]
                        refine wpS_skip rfl rfl rfl ?_
                        refine wpS_nil ?_
                        refine QH_step (Below.refl _ _) ?_
                        refine wpR_batch [false, false, false, false, false, false, false, false, false, false, false, false, false, false, false, false, false, false, false, false, false, false, false, false, false, false, false, false, false, false, false, false, false, false, false, false, false, true, true] (by decide +kernel) (by repeat (first | exact PF.body | exact PF.round | apply PF.then | apply PF.inBlock | apply PF.jump)) ?_
                        refine LtK.put rfl rfl rfl (yv_pick_f rfl rfl rfl) ?_
                        refine LtK.put rfl rfl rfl (yv_assign rfl) ?_
                        refine LtK.nil ?_
                        refine wpR_end (by kernel_rfl) ?_
                        refine QH_seq_k hK62 ?_
                        refine wpC_ret ?_
                        refine QH_ret rfl (RV.tmp rfl RV.nil) rfl ?_
                        obtain rfl := Option.some.inj H
                        replace hS := hS.cut 0
                        exact ⟨rfl, hS⟩
                    · replace H := cond_f H hb
                      refine wpR_batch [false, false, false, false, false, false, false, false, false, false, false, false, false, false, false, false, false, false, false, false, false, false, true, true, true, true, true, true, true, true, false, true, true] (by decide +kernel) (by repeat (first | exact PF.body | exact PF.round | apply PF.then | apply PF.inBlock | apply PF.jump)) ?_
                      refine LtK.skip rfl rfl rfl ?_
                      refine LtK.skip rfl rfl rfl ?_
                      refine LtK.skip rfl rfl rfl ?_
                      refine LtK.skip rfl rfl rfl ?_
                      refine LtK.skip rfl rfl rfl ?_
                      refine LtK.put rfl rfl rfl (yv_pick_f rfl rfl rfl) ?_
                      refine LtK.put rfl rfl rfl (yv_move rfl) ?_
                      refine LtK.skip rfl rfl rfl ?_
                      refine LtK.skip rfl rfl rfl ?_
                      refine LtK.skip rfl rfl rfl ?_
                      refine LtK.nil ?_
                      refine wpR_call [false, false, false, false, false, false, false, false, false, false, false, false, false, false, false, false, false, false, false, false, false, false, false, false, false, false, false, false, false, false, true] 30 ⟨by decide, by kernel_rfl, by kernel_rfl⟩ rfl rfl ?_
                      dsimp only [pickL]
                      refine wpS_skip rfl rfl rfl ?_
                      refine wpS_nil ?_
                      refine QH_step (Below.refl _ _) ?_
                      refine wpR_batch [false, false, false, false, false, false, false, false, false, false, false, false, false, false, false, false, false, false, false, false, false, false, false, false, false, false, false, false, false, false, false, false, false, true, true, true] (by decide +kernel) (by repeat (first | exact PF.body | exact PF.round | apply PF.then | apply PF.inBlock | apply PF.jump)) ?_
                      refine LtK.skip rfl rfl rfl ?_
                      refine LtK.put rfl rfl rfl (yv_pick_f rfl rfl rfl) ?_
                      refine LtK.put rfl rfl rfl (yv_move rfl) ?_
                      refine LtK.nil ?_
                      refine wpR_call [false, false, false, false, false, false, false, false, false, false, false, false, false, false, false, false, false, false, false, false, false, false, false, false, false, false, false, false, false, false, false, false, false, false, false, false, true] 36 ⟨by decide, by kernel_rfl, by kernel_rfl⟩ rfl rfl ?_
                      dsimp only [pickL]
                      refine wpS_skip rfl rfl rfl ?_
                      refine wpS_nil ?_
                      refine QH_step (Below.refl _ _) ?_
                      refine wpR_batch [false, false, false, false, false, false, false, false, false, false, false, false, false, false, false, false, false, false, false, false, false, false, false, false, false, false, false, false, false, false, false, false, false, false, false, false, false, true, true] (by decide +kernel) (by repeat (first | exact PF.body | exact PF.round | apply PF.then | apply PF.inBlock | apply PF.jump)) ?_
                      refine LtK.put rfl rfl rfl (yv_pick_f rfl rfl rfl) ?_
                      refine LtK.put rfl rfl rfl (yv_assign rfl) ?_
                      refine LtK.nil ?_
                      refine wpR_end (by kernel_rfl) ?_
                      refine QH_seq_k hK62 ?_
                      refine wpC_ret ?_
                      refine QH_ret rfl (RV.tmp rfl RV.nil) rfl ?_
                      obtain rfl := Option.some.inj H
                      replace hS := hS.cut 0
                      exact ⟨rfl, hS⟩
                  · replace H := cond_f H hb
                    refine wpR_batch [false, false, false, false, false, false, false, false, false, false, false, false, false, false, false, true, true, true, true, true, true, true, true, true, true, true, true, true, true, true, false, true, true] (by decide +kernel) (by repeat (first | exact PF.body | exact PF.round | apply PF.then | apply PF.inBlock | apply PF.jump)) ?_
                    refine LtK.skip rfl rfl rfl ?_
                    refine LtK.skip rfl rfl rfl ?_
                    refine LtK.skip rfl rfl rfl ?_
                    refine LtK.skip rfl rfl rfl ?_
                    refine LtK.skip rfl rfl rfl ?_
                    refine LtK.put rfl rfl rfl (yv_pick_f rfl rfl rfl) ?_
                    refine LtK.put rfl rfl rfl (yv_move rfl) ?_
                    refine LtK.skip rfl rfl rfl ?_
                    refine LtK.skip rfl rfl rfl ?_
                    refine LtK.skip rfl rfl rfl ?_
                    refine LtK.skip rfl rfl rfl ?_
                    refine LtK.skip rfl rfl rfl ?_
                    refine LtK.put rfl rfl rfl (yv_pick_f rfl rfl rfl) ?_
                    refine LtK.put rfl rfl rfl (yv_move rfl) ?_
                    refine LtK.skip rfl rfl rfl ?_
                    refine LtK.skip rfl rfl rfl ?_
                    refine LtK.skip rfl rfl rfl ?_
                    refine LtK.nil ?_
                    refine wpR_call [false, false, false, false, false, false, false, false, false, false, false, false, false, false, false, false, false, false, false, false, false, false, false, false, false, false, false, false, false, false, true] 30 ⟨by decide, by kernel_rfl, by kernel_rfl⟩ rfl rfl ?_
                    dsimp only [pickL]
                    refine wpS_skip rfl rfl rfl ?_
                    refine wpS_nil ?_
                    refine QH_step (Below.refl _ _) ?_
                    refine wpR_batch [false, false, false, false, false, false, false, false, false, false, false, false, false, false, false, false, false, false, false, false, false, false, false, false, false, false, false, false, false, false, false, false, false, true, true, true] (by decide +kernel) (by repeat (first | exact PF.body | exact PF.round | apply PF.then | apply PF.inBlock | apply PF.jump)) ?_
                    refine LtK.skip rfl rfl rfl ?_
                    refine LtK.put rfl rfl rfl (yv_pick_f rfl rfl rfl) ?_
                    refine LtK.put rfl rfl rfl (yv_move rfl) ?_
                    refine LtK.nil ?_
                    refine wpR_call [false, false, false, false, false, false, false, false, false, false, false, false, false, false, false, false, false, false, false, false, false, false, false, false, false, false, false, false, false, false, false, false, false, false, false, false, true] 36 ⟨by decide, by kernel_rfl, by kernel_rfl⟩ rfl rfl ?_
                    dsimp only [pickL]
                    refine wpS_skip rfl rfl rfl ?_
                    refine wpS_nil ?_
                    refine QH_step (Below.refl _ _) ?_
                    refine wpR_batch [false, false, false, false, false, false, false, false, false, false, false, false, false, false, false, false, false, false, false, false, false, false, false, false, false, false, false, false, false, false, false, false, false, false, false, false, false, true, true] (by decide +kernel) (by repeat (first | exact PF.body | exact PF.round | apply PF.then | apply PF.inBlock | apply PF.jump)) ?_
                    refine LtK.put rfl rfl rfl (yv_pick_f rfl rfl rfl) ?_
                    refine LtK.put rfl rfl rfl (yv_assign rfl) ?_
                    refine LtK.nil ?_
                    refine wpR_end (by kernel_rfl) ?_
                    refine QH_seq_k hK62 ?_
                    refine wpC_ret ?_
                    refine QH_ret rfl (RV.tmp rfl RV.nil) rfl ?_
                    obtain rfl := Option.some.inj H
                    replace hS := hS.cut 0
                    exact ⟨rfl, hS⟩
                · replace H := cond_f H hb
                  refine wpR_batch [false, false, false, false, false, false, false, false, false, true, true, true, true, true, true, true, true, true, true, true, true, true, true, true, true, true, true, true, true, true, false, true, true] (by decide +kernel) (by repeat (first | exact PF.body | exact PF.round | apply PF.then | apply PF.inBlock | apply PF.jump)) ?_
                  refine LtK.skip rfl rfl rfl ?_
                  refine LtK.skip rfl rfl rfl ?_
                  refine LtK.skip rfl rfl rfl ?_
                  refine LtK.skip rfl rfl rfl ?_
                  refine LtK.put rfl rfl rfl (yv_pick_f rfl rfl rfl) ?_
                  refine LtK.put rfl rfl rfl (yv_move rfl) ?_
                  refine LtK.skip rfl rfl rfl ?_
                  refine LtK.skip rfl rfl rfl ?_
                  refine LtK.skip rfl rfl rfl ?_
                  refine LtK.skip rfl rfl rfl ?_
                  refine LtK.skip rfl rfl rfl ?_
                  refine LtK.put rfl rfl rfl (yv_pick_f rfl rfl rfl) ?_
                  refine LtK.put rfl rfl rfl (yv_move rfl) ?_
                  refine LtK.skip rfl rfl rfl ?_
                  refine LtK.skip rfl rfl rfl ?_
                  refine LtK.skip rfl rfl rfl ?_
                  refine LtK.skip rfl rfl rfl ?_
                  refine LtK.skip rfl rfl rfl ?_
                  refine LtK.put rfl rfl rfl (yv_pick_f rfl rfl rfl) ?_
                  refine LtK.put rfl rfl rfl (yv_move rfl) ?_
                  refine LtK.skip rfl rfl rfl ?_
                  refine LtK.skip rfl rfl rfl ?_
                  refine LtK.skip rfl rfl rfl ?_
                  refine LtK.nil ?_
                  refine wpR_call [false, false, false, false, false, false, false, false, false, false, false, false, false, false, false, false, false, false, false, false, false, false, false, false, false, false, false, false, false, false, true] 30 ⟨by decide, by kernel_rfl, by kernel_rfl⟩ rfl rfl ?_
                  dsimp only [pickL]
                  refine wpS_skip rfl rfl rfl ?_
                  refine wpS_nil ?_
                  refine QH_step (Below.refl _ _) ?_
                  refine wpR_batch [false, false, false, false, false, false, false, false, false, false, false, false, false, false, false, false, false, false, false, false, false, false, false, false, false, false, false, false, false, false, false, false, false, true, true, true] (by decide +kernel) (by repeat (first | exact PF.body | exact PF.round | apply PF.then | apply PF.inBlock | apply PF.jump)) ?_
                  refine LtK.skip rfl rfl rfl ?_
                  refine LtK.put rfl rfl rfl (yv_pick_f rfl rfl rfl) ?_
                  refine LtK.put rfl rfl rfl (yv_move rfl) ?_
                  refine LtK.nil ?_
                  refine wpR_call [false, false, false, false, false, false, false, false, false, false, false, false, false, false, false, false, false, false, false, false, false, false, false, false, false, false, false, false, false, false, false, false, false, false, false, false, true] 36 ⟨by decide, by kernel_rfl, by kernel_rfl⟩ rfl rfl ?_
                  dsimp only [pickL]
                  refine wpS_skip rfl rfl rfl ?_
                  refine wpS_nil ?_
                  refine QH_step (Below.refl _ _) ?_
                  refine wpR_batch [false, false, false, false, false, false, false, false, false, false, false, false, false, false, false, false, false, false, false, false, false, false, false, false, false, false, false, false, false, false, false, false, false, false, false, false, false, true, true] (by decide +kernel) (by repeat (first | exact PF.body | exact PF.round | apply PF.then | apply PF.inBlock | apply PF.jump)) ?_
                  refine LtK.put rfl rfl rfl (yv_pick_f rfl rfl rfl) ?_
                  refine LtK.put rfl rfl rfl (yv_assign rfl) ?_
                  refine LtK.nil ?_
                  refine wpR_end (by kernel_rfl) ?_
                  refine QH_seq_k hK62 ?_
                  refine wpC_ret ?_
                  refine QH_ret rfl (RV.tmp rfl RV.nil) rfl ?_
                  obtain rfl := Option.some.inj H
                  replace hS := hS.cut 0
                  exact ⟨rfl, hS⟩
              · replace H := cond_f H hb
                refine wpR_batch [false, false, false, true, true, true, true, true, true, true, true, true, true, true, true, true, true, true, true, true, true, true, true, true, true, true, true, true, true, true, false, true, true] (by decide +kernel) (by repeat (first | exact PF.body | exact PF.round | apply PF.then | apply PF.inBlock | apply PF.jump)) ?_
                refine LtK.skip rfl rfl rfl ?_
                refine LtK.skip rfl rfl rfl ?_
                refine LtK.skip rfl rfl rfl ?_
                refine LtK.skip rfl rfl rfl ?_
                refine LtK.put rfl rfl rfl (yv_pick_f rfl rfl rfl) ?_
                refine LtK.put rfl rfl rfl (yv_move rfl) ?_
                refine LtK.skip rfl rfl rfl ?_
                refine LtK.skip rfl rfl rfl ?_
                refine LtK.skip rfl rfl rfl ?_
                refine LtK.skip rfl rfl rfl ?_
                refine LtK.put rfl rfl rfl (yv_pick_f rfl rfl rfl) ?_
                refine LtK.put rfl rfl rfl (yv_move rfl) ?_
                refine LtK.skip rfl rfl rfl ?_
                refine LtK.skip rfl rfl rfl ?_
                refine LtK.skip rfl rfl rfl ?_
                refine LtK.skip rfl rfl rfl ?_
                refine LtK.skip rfl rfl rfl ?_
                refine LtK.put rfl rfl rfl (yv_pick_f rfl rfl rfl) ?_
                refine LtK.put rfl rfl rfl (yv_move rfl) ?_
                refine LtK.skip rfl rfl rfl ?_
                refine LtK.skip rfl rfl rfl ?_
                refine LtK.skip rfl rfl rfl ?_
                refine LtK.skip rfl rfl rfl ?_
                refine LtK.skip rfl rfl rfl ?_
                refine LtK.put rfl rfl rfl (yv_pick_f rfl rfl rfl) ?_
                refine LtK.put rfl rfl rfl (yv_move rfl) ?_
                refine LtK.skip rfl rfl rfl ?_
                refine LtK.skip rfl rfl rfl ?_
                refine LtK.skip rfl rfl rfl ?_
                refine LtK.nil ?_
                refine wpR_call [false, false, false, false, false, false, false, false, false, false, false, false, false, false, false, false, false, false, false, false, false, false, false, false, false, false, false, false, false, false, true] 30 ⟨by decide, by kernel_rfl, by kernel_rfl⟩ rfl rfl ?_
                dsimp only [pickL]
                refine wpS_skip rfl rfl rfl ?_
                refine wpS_nil ?_
                refine QH_step (Below.refl _ _) ?_
                refine wpR_batch [false, false, false, false, false, false, false, false, false, false, false, false, false, false, false, false, false, false, false, false, false, false, false, false, false, false, false, false, false, false, false, false, false, true, true, true] (by decide +kernel) (by repeat (first | exact PF.body | exact PF.round | apply PF.then | apply PF.inBlock | apply PF.jump)) ?_
                refine LtK.skip rfl rfl rfl ?_
                refine LtK.put rfl rfl rfl (yv_pick_f rfl rfl rfl) ?_
                refine LtK.put rfl rfl rfl (yv_move rfl) ?_
                refine LtK.nil ?_
                refine wpR_call [false, false, false, false, false, false, false, false, false, false, false, false, false, false, false, false, false, false, false, false, false, false, false, false, false, false, false, false, false, false, false, false, false, false, false, false, true] 36 ⟨by decide, by kernel_rfl, by kernel_rfl⟩ rfl rfl ?_
                dsimp only [pickL]
                refine wpS_skip rfl rfl rfl ?_
                refine wpS_nil ?_
                refine QH_step (Below.refl _ _) ?_
                refine wpR_batch [false, false, false, false, false, false, false, false, false, false, false, false, false, false, false, false, false, false, false, false, false, false, false, false, false, false, false, false, false, false, false, false, false, false, false, false, false, true, true] (by decide +kernel) (by repeat (first | exact PF.body | exact PF.round | apply PF.then | apply PF.inBlock | apply PF.jump)) ?_
                refine LtK.put rfl rfl rfl (yv_pick_f rfl rfl rfl) ?_
                refine LtK.put rfl rfl rfl (yv_assign rfl) ?_
                refine LtK.nil ?_
                refine wpR_end (by kernel_rfl) ?_
                refine QH_seq_k hK62 ?_
                refine wpC_ret ?_
                refine QH_ret rfl (RV.tmp rfl RV.nil) rfl ?_
                obtain rfl := Option.some.inj H
                replace hS := hS.cut 0
                exact ⟨rfl, hS⟩
theorem c_ref12_Great (x0 : Tu) (A0_ : Option Addr) (c0_ : Nat) (w0 : World) (s0_ : SlI w0 enE A0_ c0_ x0.log) {r : Bool} (H : m_ref12_Great x0 = some r) : Calls Try.prog 21 #[.agg #[.int .i64 x0.snap.index, .int .i64 x0.snap.term, .int .i64 x0.snap.sum, .int .i64 x0.snap.level, .bool x0.snap.final, .slice A0_ x0.log.length c0_, .int .i64 x0.term, .int .i64 x0.vote]] w0 fun e w' => e = .returned (.bool r) ∧ St0 All w0 w' [] := by
  unfold m_ref12_Great at H
  refine gw_enter1 Try.func21 rfl Try.ntmps21 rfl ?_
  have hS := St0.start All w0
  refine wpC_seq_k (fun K hK1 => ?_)
  refine wpC_region ?_
  refine wpS_box rfl rfl rfl CellsOf.agg hS (fun b2 w hS hB => ?_)
  refine wpS_quick 1 rfl ?_
  refine wpS_nil ?_
  refine QH_seq_k hK1 ?_
  refine wpC_seq_k (fun K hK4 => ?_)
  refine wpC_region ?_
  refine wpS_put rfl rfl rfl (yv_fieldAddr fo_26_1 rfl) ?_
  refine wpS_put rfl rfl rfl (yv_load_box sc_24 rfl (RW.here _) hS hs0 trivial sg5_1) ?_
  refine wpS_put rfl rfl rfl (yv_len el_24 rfl) ?_
  refine wpS_put rfl rfl rfl (yv_gtr rfl rfl) ?_
  refine wpS_quick 1 rfl ?_
  refine wpS_nil ?_
  refine QH_seq_k hK4 ?_
  refine wpC_ret ?_
  refine QH_ret rfl (RV.tmp rfl RV.nil) rfl ?_
  obtain rfl := Option.some.inj H
  replace hS := hS.cut 0
  exact ⟨rfl, hS⟩
theorem c_ref12_Own (x0 : Tu) (A0_ : Option Addr) (c0_ : Nat) (w0 : World) (s0_ : SlI w0 enE A0_ c0_ x0.log) {r : Tu} (H : m_ref12_Own x0 = some r) : Calls Try.prog 51 #[.agg #[.int .i64 x0.snap.index, .int .i64 x0.snap.term, .int .i64 x0.snap.sum, .int .i64 x0.snap.level, .bool x0.snap.final, .slice A0_ x0.log.length c0_, .int .i64 x0.term, .int .i64 x0.vote]] w0 fun e w' => ∃ (A0 : Option Addr) (c0 : Nat), e = .returned (.agg #[.int .i64 r.snap.index, .int .i64 r.snap.term, .int .i64 r.snap.sum, .int .i64 r.snap.level, .bool r.snap.final, .slice A0 r.log.length c0, .int .i64 r.term, .int .i64 r.vote]) ∧ (r.log.length ≤ c0 ∧ c0 ≤ maxLen) ∧ St0 All w0 w' [.row (.slice A0 r.log.length c0) 50 3 r.log.length (encs enE r.log)] := by
  unfold m_ref12_Own at H
  refine gw_enter1 Try.func51 rfl Try.ntmps51 rfl ?_
  have hS := St0.start All w0
  refine wpC_seq_k (fun K hK1 => ?_)
  refine wpC_region ?_
  refine wpS_box rfl rfl rfl CellsOf.agg hS (fun b2 w hS hB => ?_)
  refine wpS_alloc rfl rfl zc_26 hS (fun b4 w hS hB => ?_)
  refine wpS_nil ?_
  refine QH_seq_k hK1 ?_
  refine wpC_seq_k (fun K hK6 => ?_)
  refine wpC_region ?_
  refine wpS_slice0 el_24 rfl rfl hS (fun b7 w hS hB => ?_)
  refine wpS_put rfl rfl rfl (yv_fieldAddr fo_26_1 rfl) ?_
  refine wpS_put rfl rfl rfl (yv_load_box sc_24 rfl (RW.here _) hS hs2 trivial sg5_1) ?_
  obtain ⟨l9, hf10, H⟩ := bind_some H
  refine wpX_append (ys := x0.log) he_enE oc_enE em_24 (by decide) rfl rfl rfl rfl hS (fun _ => ps0) (hS.rd0 s0_.rd) hf10 (fun A11 c12 w k13 hS => ?_)
  refine wpS_put rfl rfl rfl (yv_fieldAddr fo_26_1 rfl) ?_
  refine wpS_store rfl rfl rfl CellsOf.slice hS ps2 st5_1 (by kernel_rfl) rfl (fun w hS hB => ?_)
  refine wpS_nil ?_
  refine QH_seq_k hK6 ?_
  refine wpC_seq_k (fun K hK14 => ?_)
  refine wpC_region ?_
  refine wpS_put rfl rfl rfl (yv_load_boxA ag_26 rfl (RW.here _) hS hs2 trivial sg0_8) ?_
  refine wpS_store rfl rfl rfl CellsOf.agg hS ps1 st0_8 (by kernel_rfl) rfl (fun w hS hB => ?_)
  refine wpS_nil ?_
  refine QH_seq_k hK14 ?_
  refine wpC_ret ?_
  refine QH_ret rfl (RV.cell rfl (load_boxA ag_26 hS hs1 sg0_8) RV.nil) rfl ?_
  obtain rfl := Option.some.inj H
  have hS := hS.front 0 rfl
  replace hS := hS.cut 1
  exact ⟨A11, c12, rfl, k13, hS⟩
theorem c_ref12_Append (x0 : Tu) (x1 : List En) (A0_ : Option Addr) (c0_ : Nat) (A1_ : Option Addr) (c1_ : Nat) (w0 : World) (s0_ : SlI w0 enE A0_ c0_ x0.log) (s1_ : SlI w0 enE A1_ c1_ x1) {r : Tu × Int} (H : m_ref12_Append x0 x1 = some r) : Calls Try.prog 22 #[.agg #[.int .i64 x0.snap.index, .int .i64 x0.snap.term, .int .i64 x0.snap.sum, .int .i64 x0.snap.level, .bool x0.snap.final, .slice A0_ x0.log.length c0_, .int .i64 x0.term, .int .i64 x0.vote], .slice A1_ x1.length c1_] w0 fun e w' => ∃ (A0 : Option Addr) (c0 : Nat), e = .returned (.tuple #[.agg #[.int .i64 r.1.snap.index, .int .i64 r.1.snap.term, .int .i64 r.1.snap.sum, .int .i64 r.1.snap.level, .bool r.1.snap.final, .slice A0 r.1.log.length c0, .int .i64 r.1.term, .int .i64 r.1.vote], .int .i64 r.2]) ∧ (r.1.log.length ≤ c0 ∧ c0 ≤ maxLen) ∧ St0 All w0 w' [.row (.slice A0 r.1.log.length c0) 50 3 r.1.log.length (encs enE r.1.log)] := by
  unfold m_ref12_Append at H
  refine gw_enter2 Try.func22 rfl Try.ntmps22 rfl ?_
  have hS := St0.start All w0
  refine wpC_seq_k (fun K hK1 => ?_)
  refine wpC_region ?_
  refine wpS_box rfl rfl rfl CellsOf.agg hS (fun b2 w hS hB => ?_)
  refine wpS_alloc rfl rfl zc_26 hS (fun b4 w hS hB => ?_)
  refine wpS_quick 1 rfl ?_
  refine wpS_nil ?_
  refine QH_seq_k hK1 ?_
  refine wpC_seq_k (fun K hK6 => ?_)
  refine wpC_region ?_
  refine wpS_put rfl rfl rfl (yv_load_boxA ag_26 rfl (RW.here _) hS hs1 trivial sg0_8) ?_
  obtain ⟨r7, hm8, H⟩ := bind_some H
  refine wpS_call rfl rfl rfl rfl (by kernel_rfl) rfl (c_ref12_Own x0 A0_ c0_ _ (SlI.of_rd s0_.k (hS.rd0 s0_.rd) (hS.blk0 s0_.blk)) hm8) ?_
  rintro e w ⟨A9, c10, rfl, k11, hN⟩; refine ⟨_, rfl, ?_⟩; have hB := hN.pure; have hS := hS.join hN; clear hN
  refine wpS_alloc rfl rfl zc_26 hS (fun b13 w hS hB => ?_)
  refine wpS_store rfl rfl rfl CellsOf.agg hS ps0 st0_8 (by kernel_rfl) rfl (fun w hS hB => ?_)
  refine wpS_nil ?_
  refine QH_seq_k hK6 ?_
  refine wpC_seq_k (fun K hK15 => ?_)
  refine wpC_region ?_
  refine wpS_put rfl rfl rfl (yv_fieldAddr fo_26_1 rfl) ?_
  refine wpS_put rfl rfl rfl (yv_load_box sc_24 rfl (RW.here _) hS hs0 trivial sg5_1) ?_
  refine wpS_quick 1 rfl ?_
  obtain ⟨l16, hf17, H⟩ := bind_some H
  refine wpX_append (ys := x1) he_enE oc_enE em_24 (by decide) rfl rfl rfl rfl hS (fun _ => ps1) (hS.rd0 s1_.rd) hf17 (fun A18 c19 w k20 hS => ?_)
  refine wpS_put rfl rfl rfl (yv_fieldAddr fo_26_1 rfl) ?_
  refine wpS_store rfl rfl rfl CellsOf.slice hS ps0 st5_1 (by kernel_rfl) rfl (fun w hS hB => ?_)
  refine wpS_nil ?_
  refine QH_seq_k hK15 ?_
  refine wpC_seq_k (fun K hK21 => ?_)
  refine wpC_region ?_
  refine wpS_put rfl rfl rfl (yv_load_boxA ag_26 rfl (RW.here _) hS hs3 trivial sg0_8) ?_
  refine wpS_put rfl rfl rfl (yv_load_boxA ag_26 rfl (RW.here _) hS hs0 trivial sg0_8) ?_
  refine wpS_in rfl rfl rfl rfl (by kernel_rfl) rfl ?_
  show Calls _ _ #[_, _, _] _ _
  refine gw_enter3 Try.func52 rfl Try.ntmps52 rfl ?_
  refine wpC_seq_k (fun K hK22 => ?_)
  refine wpC_region ?_
  refine wpS_box rfl rfl rfl CellsOf.agg hS (fun b23 w hS hB => ?_)
  refine wpS_box rfl rfl rfl CellsOf.agg hS (fun b25 w hS hB => ?_)
  refine wpS_alloc rfl rfl zc_26 hS (fun b27 w hS hB => ?_)
  refine wpS_quick 1 rfl ?_
  refine wpS_nil ?_
  refine QH_seq_k hK22 ?_
  refine wpC_seq_k (fun K hK29 => ?_)
  refine wpC_seq_k (fun K hK30 => ?_)
  refine wpC_region ?_
  refine wpS_quick 1 rfl ?_
  refine wpS_put rfl rfl rfl (yv_not rfl) ?_
  refine wpS_quick 1 rfl ?_
  refine wpS_put rfl rfl rfl (yv_load_boxA ag_26 rfl (RW.here _) hS hs2 trivial sg0_8) ?_
  obtain ⟨r31, hm32, H⟩ := bind_some H
  refine wpS_call rfl rfl rfl rfl (by kernel_rfl) rfl (c_ref12_Right x0 A0_ c0_ _ (SlI.of_rd s0_.k (hS.rd0 s0_.rd) (hS.blk0 s0_.blk)) hm32) ?_
  rintro e w ⟨rfl, hN⟩; refine ⟨_, rfl, ?_⟩; have hB := hN.pure; have hS := hS.join hN; clear hN
  refine wpS_put rfl rfl rfl (yv_not rfl) ?_
  refine wpS_quick 2 rfl ?_
  refine wpS_case 15 rfl (fun hb => ?_) (fun hb => ?_)
  · replace H := cond_t H hb
    refine wpS_quick 4 rfl ?_
    refine wpS_nil ?_
    refine QH_seq_k hK30 ?_
    refine wpC_cond_t rfl rfl ?_
    refine wpC_seq_k (fun K hK33 => ?_)
    refine wpC_region ?_
    refine wpS_put rfl rfl rfl (yv_load_boxA ag_26 rfl (RW.here _) hS hs2 trivial sg0_8) ?_
    obtain ⟨r34, hm35, H⟩ := bind_some H
    refine wpS_call rfl rfl rfl rfl (by kernel_rfl) rfl (c_ref12_Own x0 A0_ c0_ _ (SlI.of_rd s0_.k (hS.rd0 s0_.rd) (hS.blk0 s0_.blk)) hm35) ?_
    rintro e w ⟨A36, c37, rfl, k38, hN⟩; refine ⟨_, rfl, ?_⟩; have hB := hN.pure; have hS := hS.join hN; clear hN
    refine wpS_store rfl rfl rfl CellsOf.agg hS ps1 st0_8 (by kernel_rfl) rfl (fun w hS hB => ?_)
    refine wpS_quick 1 rfl ?_
    refine wpS_nil ?_
    refine QH_seq_k hK33 ?_
    refine wpC_ret ?_
    refine QH_then_ret ?_
    refine QH_ret rfl (RV.cell rfl (load_boxA ag_26 hS hs1 sg0_8) (RV.tmp rfl RV.nil)) rfl ?_
    refine ⟨_, rfl, ?_⟩
    refine wpS_put rfl rfl rfl (yv_extract rfl rfl) ?_
    refine wpS_put rfl rfl rfl (yv_extract rfl rfl) ?_
    refine wpS_store rfl rfl rfl CellsOf.agg hS ps6 st0_8 (by kernel_rfl) rfl (fun w hS hB => ?_)
    refine wpS_quick 1 rfl ?_
    refine wpS_nil ?_
    refine QH_seq_k hK21 ?_
    refine wpC_ret ?_
    refine QH_ret rfl (RV.cell rfl (load_boxA ag_26 hS hs6 sg0_8) (RV.tmp rfl RV.nil)) rfl ?_
    obtain rfl := Option.some.inj H
    have hS := hS.front 0 rfl
    replace hS := hS.cut 1
    exact ⟨A36, c37, rfl, k38, hS⟩
  · replace H := cond_f H hb
    refine wpS_put rfl rfl rfl (yv_load_boxA ag_26 rfl (RW.here _) hS hs1 trivial sg0_8) ?_
    obtain ⟨r40, hm41, H⟩ := bind_some H
    refine wpS_call rfl rfl rfl rfl (by kernel_rfl) rfl (c_ref12_Right (⟨r7.snap, l16, r7.term, r7.vote⟩ : Tu) A18 c19 _ (SlI.of_rd k20 (hS.row_rd hs4) (hS.row_blk hs4)) hm41) ?_
    rintro e w ⟨rfl, hN⟩; refine ⟨_, rfl, ?_⟩; have hB := hN.pure; have hS := hS.join hN; clear hN
    refine wpS_put rfl rfl rfl (yv_not rfl) ?_
    refine wpS_quick 1 rfl ?_
    refine wpS_nil ?_
    refine QH_seq_k hK30 ?_
    refine wpC_cond rfl (fun hb => ?_) (fun hb => ?_)
    · replace H := cond_t H hb
      refine wpC_seq_k (fun K hK42 => ?_)
      refine wpC_region ?_
      refine wpS_put rfl rfl rfl (yv_load_boxA ag_26 rfl (RW.here _) hS hs2 trivial sg0_8) ?_
      obtain ⟨r43, hm44, H⟩ := bind_some H
      refine wpS_call rfl rfl rfl rfl (by kernel_rfl) rfl (c_ref12_Own x0 A0_ c0_ _ (SlI.of_rd s0_.k (hS.rd0 s0_.rd) (hS.blk0 s0_.blk)) hm44) ?_
      rintro e w ⟨A45, c46, rfl, k47, hN⟩; refine ⟨_, rfl, ?_⟩; have hB := hN.pure; have hS := hS.join hN; clear hN
      refine wpS_store rfl rfl rfl CellsOf.agg hS ps1 st0_8 (by kernel_rfl) rfl (fun w hS hB => ?_)
      refine wpS_quick 1 rfl ?_
      refine wpS_nil ?_
      refine QH_seq_k hK42 ?_
      refine wpC_ret ?_
      refine QH_then_ret ?_
      refine QH_ret rfl (RV.cell rfl (load_boxA ag_26 hS hs1 sg0_8) (RV.tmp rfl RV.nil)) rfl ?_
      refine ⟨_, rfl, ?_⟩
      refine wpS_put rfl rfl rfl (yv_extract rfl rfl) ?_
      refine wpS_put rfl rfl rfl (yv_extract rfl rfl) ?_
      refine wpS_store rfl rfl rfl CellsOf.agg hS ps6 st0_8 (by kernel_rfl) rfl (fun w hS hB => ?_)
      refine wpS_quick 1 rfl ?_
      refine wpS_nil ?_
      refine QH_seq_k hK21 ?_
      refine wpC_ret ?_
      refine QH_ret rfl (RV.cell rfl (load_boxA ag_26 hS hs6 sg0_8) (RV.tmp rfl RV.nil)) rfl ?_
      obtain rfl := Option.some.inj H
      have hS := hS.front 0 rfl
      replace hS := hS.cut 1
      exact ⟨A45, c46, rfl, k47, hS⟩
    · replace H := cond_f H hb
      refine wpC_skip ?_
      refine QH_seq_k hK29 ?_
      refine wpC_seq_k (fun K hK49 => ?_)
      refine wpC_region ?_
      refine wpS_put rfl rfl rfl (yv_load_boxA ag_26 rfl (RW.here _) hS hs1 trivial sg0_8) ?_
      refine wpS_store rfl rfl rfl CellsOf.agg hS ps0 st0_8 (by kernel_rfl) rfl (fun w hS hB => ?_)
      refine wpS_quick 1 rfl ?_
      refine wpS_nil ?_
      refine QH_seq_k hK49 ?_
      refine wpC_ret ?_
      refine QH_ret rfl (RV.cell rfl (load_boxA ag_26 hS hs0 sg0_8) (RV.tmp rfl RV.nil)) rfl ?_
      refine ⟨_, rfl, ?_⟩
      refine wpS_put rfl rfl rfl (yv_extract rfl rfl) ?_
      refine wpS_put rfl rfl rfl (yv_extract rfl rfl) ?_
      refine wpS_store rfl rfl rfl CellsOf.agg hS ps5 st0_8 (by kernel_rfl) rfl (fun w hS hB => ?_)
      refine wpS_quick 1 rfl ?_
      refine wpS_nil ?_
      refine QH_seq_k hK21 ?_
      refine wpC_ret ?_
      refine QH_ret rfl (RV.cell rfl (load_boxA ag_26 hS hs5 sg0_8) (RV.tmp rfl RV.nil)) rfl ?_
      obtain rfl := Option.some.inj H
      have hS := hS.front 4 rfl
      replace hS := hS.cut 1
      exact ⟨A18, c19, rfl, k20, hS⟩
theorem c_ref12_Last (x0 : Tu) (A0_ : Option Addr) (c0_ : Nat) (w0 : World) (s0_ : SlI w0 enE A0_ c0_ x0.log) {r : Int} (H : m_ref12_Last x0 = some r) : Calls Try.prog 33 #[.agg #[.int .i64 x0.snap.index, .int .i64 x0.snap.term, .int .i64 x0.snap.sum, .int .i64 x0.snap.level, .bool x0.snap.final, .slice A0_ x0.log.length c0_, .int .i64 x0.term, .int .i64 x0.vote]] w0 fun e w' => e = .returned (.int .i64 r) ∧ St0 All w0 w' [] := by
  unfold m_ref12_Last at H
  refine gw_enter1 Try.func33 rfl Try.ntmps33 rfl ?_
  have hS := St0.start All w0
  refine wpC_seq_k (fun K hK1 => ?_)
  refine wpC_region ?_
  refine wpS_box rfl rfl rfl CellsOf.agg hS (fun b2 w hS hB => ?_)
  refine wpS_quick 1 rfl ?_
  refine wpS_nil ?_
  refine QH_seq_k hK1 ?_
  refine wpC_seq_k (fun K hK4 => ?_)
  refine wpC_region ?_
  refine wpS_put rfl rfl rfl (yv_fieldAddr fo_26_0 rfl) ?_
  refine wpS_put rfl rfl rfl (yv_fieldAddr fo_23_0 rfl) ?_
  refine wpS_put rfl rfl rfl (yv_load_box sc_3 rfl (RW.here _) hS hs0 trivial sg0_1) ?_
  refine wpS_put rfl rfl rfl (yv_fieldAddr fo_26_1 rfl) ?_
  refine wpS_put rfl rfl rfl (yv_load_box sc_24 rfl (RW.here _) hS hs0 trivial sg5_1) ?_
  refine wpS_put rfl rfl rfl (yv_len el_24 rfl) ?_
  refine wpS_put rfl rfl rfl (yx_add rfl rfl) ?_
  refine wpS_quick 1 rfl ?_
  refine wpS_nil ?_
  refine QH_seq_k hK4 ?_
  refine wpC_ret ?_
  refine QH_ret rfl (RV.tmp rfl RV.nil) rfl ?_
  obtain rfl := Option.some.inj H
  replace hS := hS.cut 0
  exact ⟨rfl, hS⟩
theorem c_ref12_Cut (x0 : Tu) (x1 : Int) (A0_ : Option Addr) (c0_ : Nat) (w0 : World) (s0_ : SlI w0 enE A0_ c0_ x0.log) {r : Tu × Int} (H : m_ref12_Cut x0 x1 = some r) : Calls Try.prog 23 #[.agg #[.int .i64 x0.snap.index, .int .i64 x0.snap.term, .int .i64 x0.snap.sum, .int .i64 x0.snap.level, .bool x0.snap.final, .slice A0_ x0.log.length c0_, .int .i64 x0.term, .int .i64 x0.vote], .int .i64 x1] w0 fun e w' => ∃ (A0 : Option Addr) (c0 : Nat), e = .returned (.tuple #[.agg #[.int .i64 r.1.snap.index, .int .i64 r.1.snap.term, .int .i64 r.1.snap.sum, .int .i64 r.1.snap.level, .bool r.1.snap.final, .slice A0 r.1.log.length c0, .int .i64 r.1.term, .int .i64 r.1.vote], .int .i64 r.2]) ∧ (r.1.log.length ≤ c0 ∧ c0 ≤ maxLen) ∧ St0 All w0 w' [.rd A0 (encs enE r.1.log)] := by
  unfold m_ref12_Cut at H
  refine gw_enter2 Try.func23 rfl Try.ntmps23 rfl ?_
  have hS := St0.start All w0
  refine wpC_seq_k (fun K hK1 => ?_)
  refine wpC_region ?_
  refine wpS_box rfl rfl rfl CellsOf.agg hS (fun b2 w hS hB => ?_)
  refine wpS_alloc rfl rfl zc_26 hS (fun b4 w hS hB => ?_)
  refine wpS_quick 1 rfl ?_
  refine wpS_nil ?_
  refine QH_seq_k hK1 ?_
  refine wpC_seq_k (fun K hK6 => ?_)
  refine wpC_seq_k (fun K hK7 => ?_)
  refine wpC_region ?_
  refine wpS_quick 1 rfl ?_
  refine wpS_put rfl rfl rfl (yv_fieldAddr fo_26_0 rfl) ?_
  refine wpS_put rfl rfl rfl (yv_fieldAddr fo_23_0 rfl) ?_
  refine wpS_put rfl rfl rfl (yv_load_box sc_3 rfl (RW.here _) hS hs1 trivial sg0_1) ?_
  refine wpS_put rfl rfl rfl (yv_leq rfl rfl) ?_
  refine wpS_quick 1 rfl ?_
  refine wpS_case 12 rfl (fun hb => ?_) (fun hb => ?_)
  · replace H := cond_t H hb
    refine wpS_quick 6 rfl ?_
    refine wpS_nil ?_
    refine QH_seq_k hK7 ?_
    refine wpC_cond_t rfl rfl ?_
    refine wpC_seq_k (fun K hK8 => ?_)
    refine wpC_region ?_
    refine wpS_put rfl rfl rfl (yv_load_boxA ag_26 rfl (RW.here _) hS hs1 trivial sg0_8) ?_
    refine wpS_put rfl rfl rfl (yv_load_boxA ag_26 rfl (RW.here _) hS hs1 trivial sg0_8) ?_
    refine wpS_in rfl rfl rfl rfl (by kernel_rfl) rfl ?_
    show Calls _ _ #[_, _, _] _ _
    refine gw_enter3 Try.func52 rfl Try.ntmps52 rfl ?_
    refine wpC_seq_k (fun K hK9 => ?_)
    refine wpC_region ?_
    refine wpS_box rfl rfl rfl CellsOf.agg hS (fun b10 w hS hB => ?_)
    refine wpS_box rfl rfl rfl CellsOf.agg hS (fun b12 w hS hB => ?_)
    refine wpS_alloc rfl rfl zc_26 hS (fun b14 w hS hB => ?_)
    refine wpS_quick 1 rfl ?_
    refine wpS_nil ?_
    refine QH_seq_k hK9 ?_
    refine wpC_seq_k (fun K hK16 => ?_)
    refine wpC_seq_k (fun K hK17 => ?_)
    refine wpC_region ?_
    refine wpS_quick 1 rfl ?_
    refine wpS_put rfl rfl rfl (yv_not rfl) ?_
    refine wpS_quick 10 rfl ?_
    refine wpS_nil ?_
    refine QH_seq_k hK17 ?_
    refine wpC_cond_t rfl rfl ?_
    refine wpC_seq_k (fun K hK18 => ?_)
    refine wpC_region ?_
    refine wpS_put rfl rfl rfl (yv_load_boxA ag_26 rfl (RW.here _) hS hs2 trivial sg0_8) ?_
    obtain ⟨r19, hm20, H⟩ := bind_some H
    refine wpS_call rfl rfl rfl rfl (by kernel_rfl) rfl (c_ref12_Own x0 A0_ c0_ _ (SlI.of_rd s0_.k (hS.rd0 s0_.rd) (hS.blk0 s0_.blk)) hm20) ?_
    rintro e w ⟨A21, c22, rfl, k23, hN⟩; refine ⟨_, rfl, ?_⟩; have hB := hN.pure; have hS := hS.join hN; clear hN
    refine wpS_store rfl rfl rfl CellsOf.agg hS ps1 st0_8 (by kernel_rfl) rfl (fun w hS hB => ?_)
    refine wpS_quick 1 rfl ?_
    refine wpS_nil ?_
    refine QH_seq_k hK18 ?_
    refine wpC_ret ?_
    refine QH_then_ret ?_
    refine QH_ret rfl (RV.cell rfl (load_boxA ag_26 hS hs1 sg0_8) (RV.tmp rfl RV.nil)) rfl ?_
    refine ⟨_, rfl, ?_⟩
    refine wpS_put rfl rfl rfl (yv_extract rfl rfl) ?_
    refine wpS_put rfl rfl rfl (yv_extract rfl rfl) ?_
    refine wpS_store rfl rfl rfl CellsOf.agg hS ps4 st0_8 (by kernel_rfl) rfl (fun w hS hB => ?_)
    refine wpS_quick 1 rfl ?_
    refine wpS_nil ?_
    refine QH_seq_k hK8 ?_
    refine wpC_ret ?_
    refine QH_then_ret ?_
    refine QH_ret rfl (RV.cell rfl (load_boxA ag_26 hS hs4 sg0_8) (RV.tmp rfl RV.nil)) rfl ?_
    obtain rfl := Option.some.inj H
    have hS := hS.front 0 rfl
    replace hS := hS.weak Weak.rowRd
    replace hS := hS.cut 1
    exact ⟨A21, c22, rfl, k23, hS⟩
  · replace H := cond_f H hb
    refine wpS_quick 1 rfl ?_
    refine wpS_put rfl rfl rfl (yv_load_boxA ag_26 rfl (RW.here _) hS hs1 trivial sg0_8) ?_
    obtain ⟨r25, hm26, H⟩ := bind_some H
    refine wpS_call rfl rfl rfl rfl (by kernel_rfl) rfl (c_ref12_Last x0 A0_ c0_ _ (SlI.of_rd s0_.k (hS.rd0 s0_.rd) (hS.blk0 s0_.blk)) hm26) ?_
    rintro e w ⟨rfl, hN⟩; refine ⟨_, rfl, ?_⟩; have hB := hN.pure; have hS := hS.join hN; clear hN
    refine wpS_put rfl rfl rfl (yx_add rfl rfl) ?_
    refine wpS_put rfl rfl rfl (yv_gtr rfl rfl) ?_
    refine wpS_quick 1 rfl ?_
    refine wpS_nil ?_
    refine QH_seq_k hK7 ?_
    refine wpC_cond rfl (fun hb => ?_) (fun hb => ?_)
    · replace H := cond_t H hb
      refine wpC_seq_k (fun K hK27 => ?_)
      refine wpC_region ?_
      refine wpS_put rfl rfl rfl (yv_load_boxA ag_26 rfl (RW.here _) hS hs1 trivial sg0_8) ?_
      refine wpS_put rfl rfl rfl (yv_load_boxA ag_26 rfl (RW.here _) hS hs1 trivial sg0_8) ?_
      refine wpS_in rfl rfl rfl rfl (by kernel_rfl) rfl ?_
      show Calls _ _ #[_, _, _] _ _
      refine gw_enter3 Try.func52 rfl Try.ntmps52 rfl ?_
      refine wpC_seq_k (fun K hK28 => ?_)
      refine wpC_region ?_
      refine wpS_box rfl rfl rfl CellsOf.agg hS (fun b29 w hS hB => ?_)
      refine wpS_box rfl rfl rfl CellsOf.agg hS (fun b31 w hS hB => ?_)
      refine wpS_alloc rfl rfl zc_26 hS (fun b33 w hS hB => ?_)
      refine wpS_quick 1 rfl ?_
      refine wpS_nil ?_
      refine QH_seq_k hK28 ?_
      refine wpC_seq_k (fun K hK35 => ?_)
      refine wpC_seq_k (fun K hK36 => ?_)
      refine wpC_region ?_
      refine wpS_quick 1 rfl ?_
      refine wpS_put rfl rfl rfl (yv_not rfl) ?_
      refine wpS_quick 10 rfl ?_
      refine wpS_nil ?_
      refine QH_seq_k hK36 ?_
      refine wpC_cond_t rfl rfl ?_
      refine wpC_seq_k (fun K hK37 => ?_)
      refine wpC_region ?_
      refine wpS_put rfl rfl rfl (yv_load_boxA ag_26 rfl (RW.here _) hS hs2 trivial sg0_8) ?_
      obtain ⟨r38, hm39, H⟩ := bind_some H
      refine wpS_call rfl rfl rfl rfl (by kernel_rfl) rfl (c_ref12_Own x0 A0_ c0_ _ (SlI.of_rd s0_.k (hS.rd0 s0_.rd) (hS.blk0 s0_.blk)) hm39) ?_
      rintro e w ⟨A40, c41, rfl, k42, hN⟩; refine ⟨_, rfl, ?_⟩; have hB := hN.pure; have hS := hS.join hN; clear hN
      refine wpS_store rfl rfl rfl CellsOf.agg hS ps1 st0_8 (by kernel_rfl) rfl (fun w hS hB => ?_)
      refine wpS_quick 1 rfl ?_
      refine wpS_nil ?_
      refine QH_seq_k hK37 ?_
      refine wpC_ret ?_
      refine QH_then_ret ?_
      refine QH_ret rfl (RV.cell rfl (load_boxA ag_26 hS hs1 sg0_8) (RV.tmp rfl RV.nil)) rfl ?_
      refine ⟨_, rfl, ?_⟩
      refine wpS_put rfl rfl rfl (yv_extract rfl rfl) ?_
      refine wpS_put rfl rfl rfl (yv_extract rfl rfl) ?_
      refine wpS_store rfl rfl rfl CellsOf.agg hS ps4 st0_8 (by kernel_rfl) rfl (fun w hS hB => ?_)
      refine wpS_quick 1 rfl ?_
      refine wpS_nil ?_
      refine QH_seq_k hK27 ?_
      refine wpC_ret ?_
      refine QH_then_ret ?_
      refine QH_ret rfl (RV.cell rfl (load_boxA ag_26 hS hs4 sg0_8) (RV.tmp rfl RV.nil)) rfl ?_
      obtain rfl := Option.some.inj H
      have hS := hS.front 0 rfl
      replace hS := hS.weak Weak.rowRd
      replace hS := hS.cut 1
      exact ⟨A40, c41, rfl, k42, hS⟩
    · replace H := cond_f H hb
      refine wpC_skip ?_
      refine QH_seq_k hK6 ?_
      refine wpC_seq_k (fun K hK44 => ?_)
      refine wpC_region ?_
      refine wpS_put rfl rfl rfl (yv_load_boxA ag_26 rfl (RW.here _) hS hs1 trivial sg0_8) ?_
      obtain ⟨r45, hm46, H⟩ := bind_some H
      refine wpS_call rfl rfl rfl rfl (by kernel_rfl) rfl (c_ref12_Own x0 A0_ c0_ _ (SlI.of_rd s0_.k (hS.rd0 s0_.rd) (hS.blk0 s0_.blk)) hm46) ?_
      rintro e w ⟨A47, c48, rfl, k49, hN⟩; refine ⟨_, rfl, ?_⟩; have hB := hN.pure; have hS := hS.join hN; clear hN
      refine wpS_alloc rfl rfl zc_26 hS (fun b51 w hS hB => ?_)
      refine wpS_store rfl rfl rfl CellsOf.agg hS ps0 st0_8 (by kernel_rfl) rfl (fun w hS hB => ?_)
      refine wpS_nil ?_
      refine QH_seq_k hK44 ?_
      refine wpC_seq_k (fun K hK53 => ?_)
      refine wpC_region ?_
      refine wpS_put rfl rfl rfl (yv_fieldAddr fo_26_1 rfl) ?_
      refine wpS_put rfl rfl rfl (yv_load_box sc_24 rfl (RW.here _) hS hs0 trivial sg5_1) ?_
      refine wpS_quick 1 rfl ?_
      refine wpS_put rfl rfl rfl (yv_fieldAddr fo_26_0 rfl) ?_
      refine wpS_put rfl rfl rfl (yv_fieldAddr fo_23_0 rfl) ?_
      refine wpS_put rfl rfl rfl (yv_load_box sc_3 rfl (RW.here _) hS hs3 trivial sg0_1) ?_
      refine wpS_put rfl rfl rfl (yx_sub rfl rfl) ?_
      refine wpS_put rfl rfl rfl (yx_sub rfl rfl) ?_
      obtain ⟨l54, ht55, H⟩ := bind_some H
      refine wpS_put rfl rfl rfl (yx_slice_h el_24 rfl rfl k49.1 ht55) ?_
      refine wpS_put rfl rfl rfl (yv_fieldAddr fo_26_1 rfl) ?_
      refine wpS_store rfl rfl rfl CellsOf.slice hS ps0 st5_1 (by kernel_rfl) rfl (fun w hS hB => ?_)
      refine wpS_nil ?_
      refine QH_seq_k hK53 ?_
      refine wpC_seq_k (fun K hK56 => ?_)
      refine wpC_region ?_
      refine wpS_put rfl rfl rfl (yv_load_boxA ag_26 rfl (RW.here _) hS hs3 trivial sg0_8) ?_
      refine wpS_put rfl rfl rfl (yv_load_boxA ag_26 rfl (RW.here _) hS hs0 trivial sg0_8) ?_
      refine wpS_in rfl rfl rfl rfl (by kernel_rfl) rfl ?_
      show Calls _ _ #[_, _, _] _ _
      refine gw_enter3 Try.func52 rfl Try.ntmps52 rfl ?_
      refine wpC_seq_k (fun K hK57 => ?_)
      refine wpC_region ?_
      refine wpS_box rfl rfl rfl CellsOf.agg hS (fun b58 w hS hB => ?_)
      refine wpS_box rfl rfl rfl CellsOf.agg hS (fun b60 w hS hB => ?_)
      refine wpS_alloc rfl rfl zc_26 hS (fun b62 w hS hB => ?_)
      refine wpS_quick 1 rfl ?_
      refine wpS_nil ?_
      refine QH_seq_k hK57 ?_
      refine wpC_seq_k (fun K hK64 => ?_)
      refine wpC_seq_k (fun K hK65 => ?_)
      refine wpC_region ?_
      refine wpS_quick 1 rfl ?_
      refine wpS_put rfl rfl rfl (yv_not rfl) ?_
      refine wpS_quick 1 rfl ?_
      refine wpS_put rfl rfl rfl (yv_load_boxA ag_26 rfl (RW.here _) hS hs2 trivial sg0_8) ?_
      obtain ⟨r66, hm67, H⟩ := bind_some H
      refine wpS_call rfl rfl rfl rfl (by kernel_rfl) rfl (c_ref12_Right x0 A0_ c0_ _ (SlI.of_rd s0_.k (hS.rd0 s0_.rd) (hS.blk0 s0_.blk)) hm67) ?_
      rintro e w ⟨rfl, hN⟩; refine ⟨_, rfl, ?_⟩; have hB := hN.pure; have hS := hS.join hN; clear hN
      refine wpS_put rfl rfl rfl (yv_not rfl) ?_
      refine wpS_quick 2 rfl ?_
      refine wpS_case 15 rfl (fun hb => ?_) (fun hb => ?_)
      · replace H := cond_t H hb
        refine wpS_quick 4 rfl ?_
        refine wpS_nil ?_
        refine QH_seq_k hK65 ?_
        refine wpC_cond_t rfl rfl ?_
        refine wpC_seq_k (fun K hK68 => ?_)
        refine wpC_region ?_
        refine wpS_put rfl rfl rfl (yv_load_boxA ag_26 rfl (RW.here _) hS hs2 trivial sg0_8) ?_
        obtain ⟨r69, hm70, H⟩ := bind_some H
        refine wpS_call rfl rfl rfl rfl (by kernel_rfl) rfl (c_ref12_Own x0 A0_ c0_ _ (SlI.of_rd s0_.k (hS.rd0 s0_.rd) (hS.blk0 s0_.blk)) hm70) ?_
        rintro e w ⟨A71, c72, rfl, k73, hN⟩; refine ⟨_, rfl, ?_⟩; have hB := hN.pure; have hS := hS.join hN; clear hN
        refine wpS_store rfl rfl rfl CellsOf.agg hS ps1 st0_8 (by kernel_rfl) rfl (fun w hS hB => ?_)
        refine wpS_quick 1 rfl ?_
        refine wpS_nil ?_
        refine QH_seq_k hK68 ?_
        refine wpC_ret ?_
        refine QH_then_ret ?_
        refine QH_ret rfl (RV.cell rfl (load_boxA ag_26 hS hs1 sg0_8) (RV.tmp rfl RV.nil)) rfl ?_
        refine ⟨_, rfl, ?_⟩
        refine wpS_put rfl rfl rfl (yv_extract rfl rfl) ?_
        refine wpS_put rfl rfl rfl (yv_extract rfl rfl) ?_
        refine wpS_store rfl rfl rfl CellsOf.agg hS ps6 st0_8 (by kernel_rfl) rfl (fun w hS hB => ?_)
        refine wpS_quick 1 rfl ?_
        refine wpS_nil ?_
        refine QH_seq_k hK56 ?_
        refine wpC_ret ?_
        refine QH_ret rfl (RV.cell rfl (load_boxA ag_26 hS hs6 sg0_8) (RV.tmp rfl RV.nil)) rfl ?_
        obtain rfl := Option.some.inj H
        have hS := hS.front 0 rfl
        replace hS := hS.weak Weak.rowRd
        replace hS := hS.cut 1
        exact ⟨A71, c72, rfl, k73, hS⟩
      · replace H := cond_f H hb
        refine wpS_put rfl rfl rfl (yv_load_boxA ag_26 rfl (RW.here _) hS hs1 trivial sg0_8) ?_
        obtain ⟨r75, hm76, H⟩ := bind_some H
        refine wpS_call rfl rfl rfl rfl (by kernel_rfl) rfl (c_ref12_Right (⟨r45.snap, l54, r45.term, r45.vote⟩ : Tu) A47 c48 _ (SlI.of_rd (k_take k49 ht55) (Rd.takeI he_enE (hS.row_rd hs4) ht55) (hS.row_blk hs4)) hm76) ?_
        rintro e w ⟨rfl, hN⟩; refine ⟨_, rfl, ?_⟩; have hB := hN.pure; have hS := hS.join hN; clear hN
        refine wpS_put rfl rfl rfl (yv_not rfl) ?_
        refine wpS_quick 1 rfl ?_
        refine wpS_nil ?_
        refine QH_seq_k hK65 ?_
        refine wpC_cond rfl (fun hb => ?_) (fun hb => ?_)
        · replace H := cond_t H hb
          refine wpC_seq_k (fun K hK77 => ?_)
          refine wpC_region ?_
          refine wpS_put rfl rfl rfl (yv_load_boxA ag_26 rfl (RW.here _) hS hs2 trivial sg0_8) ?_
          obtain ⟨r78, hm79, H⟩ := bind_some H
          refine wpS_call rfl rfl rfl rfl (by kernel_rfl) rfl (c_ref12_Own x0 A0_ c0_ _ (SlI.of_rd s0_.k (hS.rd0 s0_.rd) (hS.blk0 s0_.blk)) hm79) ?_
          rintro e w ⟨A80, c81, rfl, k82, hN⟩; refine ⟨_, rfl, ?_⟩; have hB := hN.pure; have hS := hS.join hN; clear hN
          refine wpS_store rfl rfl rfl CellsOf.agg hS ps1 st0_8 (by kernel_rfl) rfl (fun w hS hB => ?_)
          refine wpS_quick 1 rfl ?_
          refine wpS_nil ?_
          refine QH_seq_k hK77 ?_
          refine wpC_ret ?_
          refine QH_then_ret ?_
          refine QH_ret rfl (RV.cell rfl (load_boxA ag_26 hS hs1 sg0_8) (RV.tmp rfl RV.nil)) rfl ?_
          refine ⟨_, rfl, ?_⟩
          refine wpS_put rfl rfl rfl (yv_extract rfl rfl) ?_
          refine wpS_put rfl rfl rfl (yv_extract rfl rfl) ?_
          refine wpS_store rfl rfl rfl CellsOf.agg hS ps6 st0_8 (by kernel_rfl) rfl (fun w hS hB => ?_)
          refine wpS_quick 1 rfl ?_
          refine wpS_nil ?_
          refine QH_seq_k hK56 ?_
          refine wpC_ret ?_
          refine QH_ret rfl (RV.cell rfl (load_boxA ag_26 hS hs6 sg0_8) (RV.tmp rfl RV.nil)) rfl ?_
          obtain rfl := Option.some.inj H
          have hS := hS.front 0 rfl
          replace hS := hS.weak Weak.rowRd
          replace hS := hS.cut 1
          exact ⟨A80, c81, rfl, k82, hS⟩
        · replace H := cond_f H hb
          refine wpC_skip ?_
          refine QH_seq_k hK64 ?_
          refine wpC_seq_k (fun K hK84 => ?_)
          refine wpC_region ?_
          refine wpS_put rfl rfl rfl (yv_load_boxA ag_26 rfl (RW.here _) hS hs1 trivial sg0_8) ?_
          refine wpS_store rfl rfl rfl CellsOf.agg hS ps0 st0_8 (by kernel_rfl) rfl (fun w hS hB => ?_)
          refine wpS_quick 1 rfl ?_
          refine wpS_nil ?_
          refine QH_seq_k hK84 ?_
          refine wpC_ret ?_
          refine QH_ret rfl (RV.cell rfl (load_boxA ag_26 hS hs0 sg0_8) (RV.tmp rfl RV.nil)) rfl ?_
          refine ⟨_, rfl, ?_⟩
          refine wpS_put rfl rfl rfl (yv_extract rfl rfl) ?_
          refine wpS_put rfl rfl rfl (yv_extract rfl rfl) ?_
          refine wpS_store rfl rfl rfl CellsOf.agg hS ps5 st0_8 (by kernel_rfl) rfl (fun w hS hB => ?_)
          refine wpS_quick 1 rfl ?_
          refine wpS_nil ?_
          refine QH_seq_k hK56 ?_
          refine wpC_ret ?_
          refine QH_ret rfl (RV.cell rfl (load_boxA ag_26 hS hs5 sg0_8) (RV.tmp rfl RV.nil)) rfl ?_
          obtain rfl := Option.some.inj H
          have hS := hS.front 4 rfl
          replace hS := hS.weak Weak.rowRd
          replace hS := hS.weak (Weak.rdTake he_enE ht55)
          replace hS := hS.cut 1
          exact ⟨A47, c48, rfl, (k_take k49 ht55), hS⟩
theorem c_ref12_At (x0 : Tu) (x1 : Int) (A0_ : Option Addr) (c0_ : Nat) (w0 : World) (s0_ : SlI w0 enE A0_ c0_ x0.log) {r : En × Bool} (H : m_ref12_At x0 x1 = some r) : Calls Try.prog 30 #[.agg #[.int .i64 x0.snap.index, .int .i64 x0.snap.term, .int .i64 x0.snap.sum, .int .i64 x0.snap.level, .bool x0.snap.final, .slice A0_ x0.log.length c0_, .int .i64 x0.term, .int .i64 x0.vote], .int .i64 x1] w0 fun e w' => e = .returned (.tuple #[.agg #[.int .i64 r.1.term, .int .i64 r.1.kind, .int .i64 r.1.value], .bool r.2]) ∧ St0 All w0 w' [] := by
  unfold m_ref12_At at H
  refine gw_enter2 Try.func30 rfl Try.ntmps30 rfl ?_
  have hS := St0.start All w0
  refine wpC_seq_k (fun K hK1 => ?_)
  refine wpC_region ?_
  refine wpS_box rfl rfl rfl CellsOf.agg hS (fun b2 w hS hB => ?_)
  refine wpS_alloc rfl rfl zc_50 hS (fun b4 w hS hB => ?_)
  refine wpS_quick 1 rfl ?_
  refine wpS_nil ?_
  refine QH_seq_k hK1 ?_
  refine wpC_seq_k (fun K hK6 => ?_)
  refine wpC_seq_k (fun K hK7 => ?_)
  refine wpC_region ?_
  refine wpS_quick 1 rfl ?_
  refine wpS_put rfl rfl rfl (yv_fieldAddr fo_26_0 rfl) ?_
  refine wpS_put rfl rfl rfl (yv_fieldAddr fo_23_0 rfl) ?_
  refine wpS_put rfl rfl rfl (yv_load_box sc_3 rfl (RW.here _) hS hs1 trivial sg0_1) ?_
  refine wpS_put rfl rfl rfl (yv_leq rfl rfl) ?_
  refine wpS_quick 1 rfl ?_
  refine wpS_case 11 rfl (fun hb => ?_) (fun hb => ?_)
  · replace H := cond_t H hb
    refine wpS_quick 5 rfl ?_
    refine wpS_nil ?_
    refine QH_seq_k hK7 ?_
    refine wpC_cond_t rfl rfl ?_
    refine wpC_seq_k (fun K hK8 => ?_)
    refine wpC_region ?_
    refine wpS_put rfl rfl rfl (yv_build (cells := [.int .i64 0, .int .i64 0, .int .i64 0]) rfl (by kernel_rfl)) ?_
    refine wpS_store rfl rfl rfl CellsOf.agg hS ps0 st0_3 (by kernel_rfl) rfl (fun w hS hB => ?_)
    refine wpS_quick 1 rfl ?_
    refine wpS_nil ?_
    refine QH_seq_k hK8 ?_
    refine wpC_ret ?_
    refine QH_then_ret ?_
    refine QH_ret rfl (RV.cell rfl (load_boxA ag_50 hS hs0 sg0_3) (RV.tmp rfl RV.nil)) rfl ?_
    obtain rfl := Option.some.inj H
    replace hS := hS.cut 0
    exact ⟨rfl, hS⟩
  · replace H := cond_f H hb
    refine wpS_quick 1 rfl ?_
    refine wpS_put rfl rfl rfl (yv_load_boxA ag_26 rfl (RW.here _) hS hs1 trivial sg0_8) ?_
    obtain ⟨r9, hm10, H⟩ := bind_some H
    refine wpS_call rfl rfl rfl rfl (by kernel_rfl) rfl (c_ref12_Last x0 A0_ c0_ _ (SlI.of_rd s0_.k (hS.rd0 s0_.rd) (hS.blk0 s0_.blk)) hm10) ?_
    rintro e w ⟨rfl, hN⟩; refine ⟨_, rfl, ?_⟩; have hB := hN.pure; have hS := hS.join hN; clear hN
    refine wpS_put rfl rfl rfl (yv_gtr rfl rfl) ?_
    refine wpS_quick 1 rfl ?_
    refine wpS_nil ?_
    refine QH_seq_k hK7 ?_
    refine wpC_cond rfl (fun hb => ?_) (fun hb => ?_)
    · replace H := cond_t H hb
      refine wpC_seq_k (fun K hK11 => ?_)
      refine wpC_region ?_
      refine wpS_put rfl rfl rfl (yv_build (cells := [.int .i64 0, .int .i64 0, .int .i64 0]) rfl (by kernel_rfl)) ?_
      refine wpS_store rfl rfl rfl CellsOf.agg hS ps0 st0_3 (by kernel_rfl) rfl (fun w hS hB => ?_)
      refine wpS_quick 1 rfl ?_
      refine wpS_nil ?_
      refine QH_seq_k hK11 ?_
      refine wpC_ret ?_
      refine QH_then_ret ?_
      refine QH_ret rfl (RV.cell rfl (load_boxA ag_50 hS hs0 sg0_3) (RV.tmp rfl RV.nil)) rfl ?_
      obtain rfl := Option.some.inj H
      replace hS := hS.cut 0
      exact ⟨rfl, hS⟩
    · replace H := cond_f H hb
      refine wpC_skip ?_
      refine QH_seq_k hK6 ?_
      refine wpC_seq_k (fun K hK12 => ?_)
      refine wpC_region ?_
      refine wpS_put rfl rfl rfl (yv_fieldAddr fo_26_1 rfl) ?_
      refine wpS_put rfl rfl rfl (yv_load_box sc_24 rfl (RW.here _) hS hs1 trivial sg5_1) ?_
      refine wpS_quick 1 rfl ?_
      refine wpS_put rfl rfl rfl (yv_fieldAddr fo_26_0 rfl) ?_
      refine wpS_put rfl rfl rfl (yv_fieldAddr fo_23_0 rfl) ?_
      refine wpS_put rfl rfl rfl (yv_load_box sc_3 rfl (RW.here _) hS hs1 trivial sg0_1) ?_
      refine wpS_put rfl rfl rfl (yx_sub rfl rfl) ?_
      refine wpS_put rfl rfl rfl (yx_sub rfl rfl) ?_
      obtain ⟨e13, hi15, H⟩ := bind_some H
      obtain ⟨j14, hi15a, hi15b, hi15c⟩ := idx_some hi15
      refine wpS_put rfl rfl rfl (yx_idx el_24 rfl rfl hi15a hi15c (Rd.el (hS.rd0 s0_.rd) he_enE hi15b)) ?_
      refine wpS_put rfl rfl rfl (yx_ldA0 ag_50 rfl (RW.here _) (Rd.el (hS.rd0 s0_.rd) he_enE hi15b) sg0_3) ?_
      refine wpS_store rfl rfl rfl CellsOf.agg hS ps0 st0_3 (by kernel_rfl) rfl (fun w hS hB => ?_)
      refine wpS_quick 1 rfl ?_
      refine wpS_nil ?_
      refine QH_seq_k hK12 ?_
      refine wpC_ret ?_
      refine QH_ret rfl (RV.cell rfl (load_boxA ag_50 hS hs0 sg0_3) (RV.tmp rfl RV.nil)) rfl ?_
      obtain rfl := Option.some.inj H
      replace hS := hS.cut 0
      exact ⟨rfl, hS⟩
theorem c_ref12_TermAt (x0 : Tu) (x1 : Int) (A0_ : Option Addr) (c0_ : Nat) (w0 : World) (s0_ : SlI w0 enE A0_ c0_ x0.log) {r : Int × Bool} (H : m_ref12_TermAt x0 x1 = some r) : Calls Try.prog 28 #[.agg #[.int .i64 x0.snap.index, .int .i64 x0.snap.term, .int .i64 x0.snap.sum, .int .i64 x0.snap.level, .bool x0.snap.final, .slice A0_ x0.log.length c0_, .int .i64 x0.term, .int .i64 x0.vote], .int .i64 x1] w0 fun e w' => e = .returned (.tuple #[.int .i64 r.1, .bool r.2]) ∧ St0 All w0 w' [] := by
  unfold m_ref12_TermAt at H
  refine gw_enter2 Try.func28 rfl Try.ntmps28 rfl ?_
  have hS := St0.start All w0
  refine wpC_seq_k (fun K hK1 => ?_)
  refine wpC_region ?_
  refine wpS_box rfl rfl rfl CellsOf.agg hS (fun b2 w hS hB => ?_)
  refine wpS_quick 2 rfl ?_
  refine wpS_nil ?_
  refine QH_seq_k hK1 ?_
  refine wpC_seq_k (fun K hK4 => ?_)
  refine wpC_seq_k (fun K hK5 => ?_)
  refine wpC_region ?_
  refine wpS_quick 1 rfl ?_
  refine wpS_put rfl rfl rfl (yv_fieldAddr fo_26_0 rfl) ?_
  refine wpS_put rfl rfl rfl (yv_fieldAddr fo_23_0 rfl) ?_
  refine wpS_put rfl rfl rfl (yv_load_box sc_3 rfl (RW.here _) hS hs0 trivial sg0_1) ?_
  refine wpS_put rfl rfl rfl (yv_eql rfl rfl) ?_
  refine wpS_nil ?_
  refine QH_seq_k hK5 ?_
  refine wpC_cond rfl (fun hb => ?_) (fun hb => ?_)
  · replace H := cond_t H hb
    refine wpC_seq_k (fun K hK6 => ?_)
    refine wpC_region ?_
    refine wpS_put rfl rfl rfl (yv_fieldAddr fo_26_0 rfl) ?_
    refine wpS_put rfl rfl rfl (yv_fieldAddr fo_23_1 rfl) ?_
    refine wpS_put rfl rfl rfl (yv_load_box sc_3 rfl (RW.here _) hS hs0 trivial sg1_1) ?_
    refine wpS_quick 2 rfl ?_
    refine wpS_nil ?_
    refine QH_seq_k hK6 ?_
    refine wpC_ret ?_
    refine QH_then_ret ?_
    refine QH_ret rfl (RV.tmp rfl (RV.tmp rfl RV.nil)) rfl ?_
    obtain rfl := Option.some.inj H
    replace hS := hS.cut 0
    exact ⟨rfl, hS⟩
  · replace H := cond_f H hb
    refine wpC_skip ?_
    refine QH_seq_k hK4 ?_
    refine wpC_seq_k (fun K hK7 => ?_)
    refine wpC_region ?_
    refine wpS_put rfl rfl rfl (yv_load_boxA ag_26 rfl (RW.here _) hS hs0 trivial sg0_8) ?_
    refine wpS_quick 1 rfl ?_
    obtain ⟨r8, hm9, H⟩ := bind_some H
    refine wpS_call rfl rfl rfl rfl (by kernel_rfl) rfl (c_ref12_At x0 x1 A0_ c0_ _ (SlI.of_rd s0_.k (hS.rd0 s0_.rd) (hS.blk0 s0_.blk)) hm9) ?_
    rintro e w ⟨rfl, hN⟩; refine ⟨_, rfl, ?_⟩; have hB := hN.pure; have hS := hS.join hN; clear hN
    refine wpS_quick 1 rfl ?_
    refine wpS_put rfl rfl rfl (yv_extract rfl rfl) ?_
    refine wpS_put rfl rfl rfl (yv_extract rfl rfl) ?_
    refine wpS_alloc rfl rfl zc_50 hS (fun b10 w hS hB => ?_)
    refine wpS_store rfl rfl rfl CellsOf.agg hS ps0 st0_3 (by kernel_rfl) rfl (fun w hS hB => ?_)
    refine wpS_quick 1 rfl ?_
    refine wpS_nil ?_
    refine QH_seq_k hK7 ?_
    refine wpC_seq_k (fun K hK12 => ?_)
    refine wpC_region ?_
    refine wpS_put rfl rfl rfl (yv_fieldAddr fo_50_0 rfl) ?_
    refine wpS_put rfl rfl rfl (yv_load_box sc_3 rfl (RW.here _) hS hs0 trivial sg0_1) ?_
    refine wpS_quick 3 rfl ?_
    refine wpS_nil ?_
    refine QH_seq_k hK12 ?_
    refine wpC_ret ?_
    refine QH_ret rfl (RV.tmp rfl (RV.tmp rfl RV.nil)) rfl ?_
    obtain rfl := Option.some.inj H
    replace hS := hS.cut 0
    exact ⟨rfl, hS⟩
theorem c_ref12_Save (x0 : Tu) (x1 : St) (A0_ : Option Addr) (c0_ : Nat) (w0 : World) (s0_ : SlI w0 enE A0_ c0_ x0.log) {r : Tu × Int} (H : m_ref12_Save x0 x1 = some r) : Calls Try.prog 24 #[.agg #[.int .i64 x0.snap.index, .int .i64 x0.snap.term, .int .i64 x0.snap.sum, .int .i64 x0.snap.level, .bool x0.snap.final, .slice A0_ x0.log.length c0_, .int .i64 x0.term, .int .i64 x0.vote], .agg #[.int .i64 x1.index, .int .i64 x1.term, .int .i64 x1.sum, .int .i64 x1.level, .bool x1.final]] w0 fun e w' => ∃ (A0 : Option Addr) (c0 : Nat), e = .returned (.tuple #[.agg #[.int .i64 r.1.snap.index, .int .i64 r.1.snap.term, .int .i64 r.1.snap.sum, .int .i64 r.1.snap.level, .bool r.1.snap.final, .slice A0 r.1.log.length c0, .int .i64 r.1.term, .int .i64 r.1.vote], .int .i64 r.2]) ∧ (r.1.log.length ≤ c0 ∧ c0 ≤ maxLen) ∧ St0 All w0 w' [.row (.slice A0 r.1.log.length c0) 50 3 r.1.log.length (encs enE r.1.log)] := by
  unfold m_ref12_Save at H
  refine gw_enter2 Try.func24 rfl Try.ntmps24 rfl ?_
  have hS := St0.start All w0
  refine wpC_seq_k (fun K hK1 => ?_)
  refine wpC_region ?_
  refine wpS_box rfl rfl rfl CellsOf.agg hS (fun b2 w hS hB => ?_)
  refine wpS_box rfl rfl rfl CellsOf.agg hS (fun b4 w hS hB => ?_)
  refine wpS_alloc rfl rfl zc_26 hS (fun b6 w hS hB => ?_)
  refine wpS_quick 1 rfl ?_
  refine wpS_nil ?_
  refine QH_seq_k hK1 ?_
  refine wpC_seq_k (fun K hK8 => ?_)
  refine wpC_region ?_
  refine wpS_put rfl rfl rfl (yv_load_boxA ag_26 rfl (RW.here _) hS hs2 trivial sg0_8) ?_
  refine wpS_put rfl rfl rfl (yv_fieldAddr fo_23_0 rfl) ?_
  refine wpS_put rfl rfl rfl (yv_load_box sc_3 rfl (RW.here _) hS hs1 trivial sg0_1) ?_
  obtain ⟨r9, hm10, H⟩ := bind_some H
  refine wpS_call rfl rfl rfl rfl (by kernel_rfl) rfl (c_ref12_TermAt x0 x1.index A0_ c0_ _ (SlI.of_rd s0_.k (hS.rd0 s0_.rd) (hS.blk0 s0_.blk)) hm10) ?_
  rintro e w ⟨rfl, hN⟩; refine ⟨_, rfl, ?_⟩; have hB := hN.pure; have hS := hS.join hN; clear hN
  refine wpS_quick 1 rfl ?_
  refine wpS_put rfl rfl rfl (yv_extract rfl rfl) ?_
  refine wpS_put rfl rfl rfl (yv_extract rfl rfl) ?_
  refine wpS_quick 2 rfl ?_
  refine wpS_nil ?_
  refine QH_seq_k hK8 ?_
  refine wpC_seq_k (fun K hK11 => ?_)
  refine wpC_seq_k (fun K hK12 => ?_)
  refine wpC_region ?_
  refine wpS_quick 1 rfl ?_
  refine wpS_put rfl rfl rfl (yv_not rfl) ?_
  refine wpS_quick 1 rfl ?_
  refine wpS_case 18 rfl (fun hb => ?_) (fun hb => ?_)
  · replace H := cond_t H hb
    refine wpS_quick 10 rfl ?_
    refine wpS_nil ?_
    refine QH_seq_k hK12 ?_
    refine wpC_cond_t rfl rfl ?_
    refine wpC_seq_k (fun K hK13 => ?_)
    refine wpC_region ?_
    refine wpS_put rfl rfl rfl (yv_load_boxA ag_26 rfl (RW.here _) hS hs2 trivial sg0_8) ?_
    refine wpS_put rfl rfl rfl (yv_load_boxA ag_26 rfl (RW.here _) hS hs2 trivial sg0_8) ?_
    refine wpS_in rfl rfl rfl rfl (by kernel_rfl) rfl ?_
    show Calls _ _ #[_, _, _] _ _
    refine gw_enter3 Try.func52 rfl Try.ntmps52 rfl ?_
    refine wpC_seq_k (fun K hK14 => ?_)
    refine wpC_region ?_
    refine wpS_box rfl rfl rfl CellsOf.agg hS (fun b15 w hS hB => ?_)
    refine wpS_box rfl rfl rfl CellsOf.agg hS (fun b17 w hS hB => ?_)
    refine wpS_alloc rfl rfl zc_26 hS (fun b19 w hS hB => ?_)
    refine wpS_quick 1 rfl ?_
    refine wpS_nil ?_
    refine QH_seq_k hK14 ?_
    refine wpC_seq_k (fun K hK21 => ?_)
    refine wpC_seq_k (fun K hK22 => ?_)
    refine wpC_region ?_
    refine wpS_quick 1 rfl ?_
    refine wpS_put rfl rfl rfl (yv_not rfl) ?_
    refine wpS_quick 10 rfl ?_
    refine wpS_nil ?_
    refine QH_seq_k hK22 ?_
    refine wpC_cond_t rfl rfl ?_
    refine wpC_seq_k (fun K hK23 => ?_)
    refine wpC_region ?_
    refine wpS_put rfl rfl rfl (yv_load_boxA ag_26 rfl (RW.here _) hS hs2 trivial sg0_8) ?_
    obtain ⟨r24, hm25, H⟩ := bind_some H
    refine wpS_call rfl rfl rfl rfl (by kernel_rfl) rfl (c_ref12_Own x0 A0_ c0_ _ (SlI.of_rd s0_.k (hS.rd0 s0_.rd) (hS.blk0 s0_.blk)) hm25) ?_
    rintro e w ⟨A26, c27, rfl, k28, hN⟩; refine ⟨_, rfl, ?_⟩; have hB := hN.pure; have hS := hS.join hN; clear hN
    refine wpS_store rfl rfl rfl CellsOf.agg hS ps1 st0_8 (by kernel_rfl) rfl (fun w hS hB => ?_)
    refine wpS_quick 1 rfl ?_
    refine wpS_nil ?_
    refine QH_seq_k hK23 ?_
    refine wpC_ret ?_
    refine QH_then_ret ?_
    refine QH_ret rfl (RV.cell rfl (load_boxA ag_26 hS hs1 sg0_8) (RV.tmp rfl RV.nil)) rfl ?_
    refine ⟨_, rfl, ?_⟩
    refine wpS_put rfl rfl rfl (yv_extract rfl rfl) ?_
    refine wpS_put rfl rfl rfl (yv_extract rfl rfl) ?_
    refine wpS_store rfl rfl rfl CellsOf.agg hS ps4 st0_8 (by kernel_rfl) rfl (fun w hS hB => ?_)
    refine wpS_quick 1 rfl ?_
    refine wpS_nil ?_
    refine QH_seq_k hK13 ?_
    refine wpC_ret ?_
    refine QH_then_ret ?_
    refine QH_ret rfl (RV.cell rfl (load_boxA ag_26 hS hs4 sg0_8) (RV.tmp rfl RV.nil)) rfl ?_
    obtain rfl := Option.some.inj H
    have hS := hS.front 0 rfl
    replace hS := hS.cut 1
    exact ⟨A26, c27, rfl, k28, hS⟩
  · replace H := cond_f H hb
    refine wpS_quick 1 rfl ?_
    refine wpS_put rfl rfl rfl (yv_fieldAddr fo_23_1 rfl) ?_
    refine wpS_put rfl rfl rfl (yv_load_box sc_3 rfl (RW.here _) hS hs1 trivial sg1_1) ?_
    refine wpS_put rfl rfl rfl (yv_neq rfl rfl) ?_
    refine wpS_quick 2 rfl ?_
    refine wpS_case 24 rfl (fun hb => ?_) (fun hb => ?_)
    · replace H := cond_t H hb
      refine wpS_quick 4 rfl ?_
      refine wpS_nil ?_
      refine QH_seq_k hK12 ?_
      refine wpC_cond_t rfl rfl ?_
      refine wpC_seq_k (fun K hK30 => ?_)
      refine wpC_region ?_
      refine wpS_put rfl rfl rfl (yv_load_boxA ag_26 rfl (RW.here _) hS hs2 trivial sg0_8) ?_
      refine wpS_put rfl rfl rfl (yv_load_boxA ag_26 rfl (RW.here _) hS hs2 trivial sg0_8) ?_
      refine wpS_in rfl rfl rfl rfl (by kernel_rfl) rfl ?_
      show Calls _ _ #[_, _, _] _ _
      refine gw_enter3 Try.func52 rfl Try.ntmps52 rfl ?_
      refine wpC_seq_k (fun K hK31 => ?_)
      refine wpC_region ?_
      refine wpS_box rfl rfl rfl CellsOf.agg hS (fun b32 w hS hB => ?_)
      refine wpS_box rfl rfl rfl CellsOf.agg hS (fun b34 w hS hB => ?_)
      refine wpS_alloc rfl rfl zc_26 hS (fun b36 w hS hB => ?_)
      refine wpS_quick 1 rfl ?_
      refine wpS_nil ?_
      refine QH_seq_k hK31 ?_
      refine wpC_seq_k (fun K hK38 => ?_)
      refine wpC_seq_k (fun K hK39 => ?_)
      refine wpC_region ?_
      refine wpS_quick 1 rfl ?_
      refine wpS_put rfl rfl rfl (yv_not rfl) ?_
      refine wpS_quick 10 rfl ?_
      refine wpS_nil ?_
      refine QH_seq_k hK39 ?_
      refine wpC_cond_t rfl rfl ?_
      refine wpC_seq_k (fun K hK40 => ?_)
      refine wpC_region ?_
      refine wpS_put rfl rfl rfl (yv_load_boxA ag_26 rfl (RW.here _) hS hs2 trivial sg0_8) ?_
      obtain ⟨r41, hm42, H⟩ := bind_some H
      refine wpS_call rfl rfl rfl rfl (by kernel_rfl) rfl (c_ref12_Own x0 A0_ c0_ _ (SlI.of_rd s0_.k (hS.rd0 s0_.rd) (hS.blk0 s0_.blk)) hm42) ?_
      rintro e w ⟨A43, c44, rfl, k45, hN⟩; refine ⟨_, rfl, ?_⟩; have hB := hN.pure; have hS := hS.join hN; clear hN
      refine wpS_store rfl rfl rfl CellsOf.agg hS ps1 st0_8 (by kernel_rfl) rfl (fun w hS hB => ?_)
      refine wpS_quick 1 rfl ?_
      refine wpS_nil ?_
      refine QH_seq_k hK40 ?_
      refine wpC_ret ?_
      refine QH_then_ret ?_
      refine QH_ret rfl (RV.cell rfl (load_boxA ag_26 hS hs1 sg0_8) (RV.tmp rfl RV.nil)) rfl ?_
      refine ⟨_, rfl, ?_⟩
      refine wpS_put rfl rfl rfl (yv_extract rfl rfl) ?_
      refine wpS_put rfl rfl rfl (yv_extract rfl rfl) ?_
      refine wpS_store rfl rfl rfl CellsOf.agg hS ps4 st0_8 (by kernel_rfl) rfl (fun w hS hB => ?_)
      refine wpS_quick 1 rfl ?_
      refine wpS_nil ?_
      refine QH_seq_k hK30 ?_
      refine wpC_ret ?_
      refine QH_then_ret ?_
      refine QH_ret rfl (RV.cell rfl (load_boxA ag_26 hS hs4 sg0_8) (RV.tmp rfl RV.nil)) rfl ?_
      obtain rfl := Option.some.inj H
      have hS := hS.front 0 rfl
      replace hS := hS.cut 1
      exact ⟨A43, c44, rfl, k45, hS⟩
    · replace H := cond_f H hb
      refine wpS_put rfl rfl rfl (yv_load_boxA ag_23 rfl (RW.here _) hS hs1 trivial sg0_5) ?_
      obtain ⟨r47, hm48, H⟩ := bind_some H
      refine wpS_call rfl rfl rfl rfl (by kernel_rfl) rfl (c_ref06_Fine x1 _ hm48) ?_
      rintro e w ⟨rfl, hN⟩; refine ⟨_, rfl, ?_⟩; have hB := hN.pure; have hS := hS.join hN; clear hN
      refine wpS_put rfl rfl rfl (yv_not rfl) ?_
      refine wpS_quick 1 rfl ?_
      refine wpS_nil ?_
      refine QH_seq_k hK12 ?_
      refine wpC_cond rfl (fun hb => ?_) (fun hb => ?_)
      · replace H := cond_t H hb
        refine wpC_seq_k (fun K hK49 => ?_)
        refine wpC_region ?_
        refine wpS_put rfl rfl rfl (yv_load_boxA ag_26 rfl (RW.here _) hS hs2 trivial sg0_8) ?_
        refine wpS_put rfl rfl rfl (yv_load_boxA ag_26 rfl (RW.here _) hS hs2 trivial sg0_8) ?_
        refine wpS_in rfl rfl rfl rfl (by kernel_rfl) rfl ?_
        show Calls _ _ #[_, _, _] _ _
        refine gw_enter3 Try.func52 rfl Try.ntmps52 rfl ?_
        refine wpC_seq_k (fun K hK50 => ?_)
        refine wpC_region ?_
        refine wpS_box rfl rfl rfl CellsOf.agg hS (fun b51 w hS hB => ?_)
        refine wpS_box rfl rfl rfl CellsOf.agg hS (fun b53 w hS hB => ?_)
        refine wpS_alloc rfl rfl zc_26 hS (fun b55 w hS hB => ?_)
        refine wpS_quick 1 rfl ?_
        refine wpS_nil ?_
        refine QH_seq_k hK50 ?_
        refine wpC_seq_k (fun K hK57 => ?_)
        refine wpC_seq_k (fun K hK58 => ?_)
        refine wpC_region ?_
        refine wpS_quick 1 rfl ?_
        refine wpS_put rfl rfl rfl (yv_not rfl) ?_
        refine wpS_quick 10 rfl ?_
        refine wpS_nil ?_
        refine QH_seq_k hK58 ?_
        refine wpC_cond_t rfl rfl ?_
        refine wpC_seq_k (fun K hK59 => ?_)
        refine wpC_region ?_
        refine wpS_put rfl rfl rfl (yv_load_boxA ag_26 rfl (RW.here _) hS hs2 trivial sg0_8) ?_
        obtain ⟨r60, hm61, H⟩ := bind_some H
        refine wpS_call rfl rfl rfl rfl (by kernel_rfl) rfl (c_ref12_Own x0 A0_ c0_ _ (SlI.of_rd s0_.k (hS.rd0 s0_.rd) (hS.blk0 s0_.blk)) hm61) ?_
        rintro e w ⟨A62, c63, rfl, k64, hN⟩; refine ⟨_, rfl, ?_⟩; have hB := hN.pure; have hS := hS.join hN; clear hN
        refine wpS_store rfl rfl rfl CellsOf.agg hS ps1 st0_8 (by kernel_rfl) rfl (fun w hS hB => ?_)
        refine wpS_quick 1 rfl ?_
        refine wpS_nil ?_
        refine QH_seq_k hK59 ?_
        refine wpC_ret ?_
        refine QH_then_ret ?_
        refine QH_ret rfl (RV.cell rfl (load_boxA ag_26 hS hs1 sg0_8) (RV.tmp rfl RV.nil)) rfl ?_
        refine ⟨_, rfl, ?_⟩
        refine wpS_put rfl rfl rfl (yv_extract rfl rfl) ?_
        refine wpS_put rfl rfl rfl (yv_extract rfl rfl) ?_
        refine wpS_store rfl rfl rfl CellsOf.agg hS ps4 st0_8 (by kernel_rfl) rfl (fun w hS hB => ?_)
        refine wpS_quick 1 rfl ?_
        refine wpS_nil ?_
        refine QH_seq_k hK49 ?_
        refine wpC_ret ?_
        refine QH_then_ret ?_
        refine QH_ret rfl (RV.cell rfl (load_boxA ag_26 hS hs4 sg0_8) (RV.tmp rfl RV.nil)) rfl ?_
        obtain rfl := Option.some.inj H
        have hS := hS.front 0 rfl
        replace hS := hS.cut 1
        exact ⟨A62, c63, rfl, k64, hS⟩
      · replace H := cond_f H hb
        refine wpC_skip ?_
        refine QH_seq_k hK11 ?_
        refine wpC_seq_k (fun K hK66 => ?_)
        refine wpC_region ?_
        refine wpS_put rfl rfl rfl (yv_load_boxA ag_26 rfl (RW.here _) hS hs2 trivial sg0_8) ?_
        obtain ⟨r67, hm68, H⟩ := bind_some H
        refine wpS_call rfl rfl rfl rfl (by kernel_rfl) rfl (c_ref12_Own x0 A0_ c0_ _ (SlI.of_rd s0_.k (hS.rd0 s0_.rd) (hS.blk0 s0_.blk)) hm68) ?_
        rintro e w ⟨A69, c70, rfl, k71, hN⟩; refine ⟨_, rfl, ?_⟩; have hB := hN.pure; have hS := hS.join hN; clear hN
        refine wpS_alloc rfl rfl zc_26 hS (fun b73 w hS hB => ?_)
        refine wpS_store rfl rfl rfl CellsOf.agg hS ps0 st0_8 (by kernel_rfl) rfl (fun w hS hB => ?_)
        refine wpS_nil ?_
        refine QH_seq_k hK66 ?_
        refine wpC_seq_k (fun K hK75 => ?_)
        refine wpC_region ?_
        refine wpS_slice0 el_24 rfl rfl hS (fun b76 w hS hB => ?_)
        refine wpS_put rfl rfl rfl (yv_fieldAddr fo_26_1 rfl) ?_
        refine wpS_put rfl rfl rfl (yv_load_box sc_24 rfl (RW.here _) hS hs1 trivial sg5_1) ?_
        refine wpS_put rfl rfl rfl (yv_fieldAddr fo_23_0 rfl) ?_
        refine wpS_put rfl rfl rfl (yv_load_box sc_3 rfl (RW.here _) hS hs4 trivial sg0_1) ?_
        refine wpS_put rfl rfl rfl (yv_fieldAddr fo_26_0 rfl) ?_
        refine wpS_put rfl rfl rfl (yv_fieldAddr fo_23_0 rfl) ?_
        refine wpS_put rfl rfl rfl (yv_load_box sc_3 rfl (RW.here _) hS hs5 trivial sg0_1) ?_
        refine wpS_put rfl rfl rfl (yx_sub rfl rfl) ?_
        obtain ⟨l78, hd79, H⟩ := bind_some H
        refine wpS_put rfl rfl rfl (yx_slice_l el_24 rfl rfl hd79) ?_
        obtain ⟨l80, hf81, H⟩ := bind_some H
        refine wpX_append (ys := l78) he_enE oc_enE em_24 (by decide) rfl rfl rfl rfl hS (fun _ => ps0) (Rd.dropI he_enE (hS.row_rd hs2) k71.1 hd79) hf81 (fun A82 c83 w k84 hS => ?_)
        refine wpS_put rfl rfl rfl (yv_fieldAddr fo_26_1 rfl) ?_
        refine wpS_store rfl rfl rfl CellsOf.slice hS ps1 st5_1 (by kernel_rfl) rfl (fun w hS hB => ?_)
        refine wpS_nil ?_
        refine QH_seq_k hK75 ?_
        refine wpC_seq_k (fun K hK85 => ?_)
        refine wpC_region ?_
        refine wpS_put rfl rfl rfl (yv_load_boxA ag_23 rfl (RW.here _) hS hs4 trivial sg0_5) ?_
        refine wpS_put rfl rfl rfl (yv_fieldAddr fo_26_0 rfl) ?_
        refine wpS_store rfl rfl rfl CellsOf.agg hS ps1 st0_5 (by kernel_rfl) rfl (fun w hS hB => ?_)
        refine wpS_nil ?_
        refine QH_seq_k hK85 ?_
        refine wpC_seq_k (fun K hK86 => ?_)
        refine wpC_region ?_
        refine wpS_put rfl rfl rfl (yv_load_boxA ag_26 rfl (RW.here _) hS hs5 trivial sg0_8) ?_
        refine wpS_put rfl rfl rfl (yv_load_boxA ag_26 rfl (RW.here _) hS hs1 trivial sg0_8) ?_
        refine wpS_in rfl rfl rfl rfl (by kernel_rfl) rfl ?_
        show Calls _ _ #[_, _, _] _ _
        refine gw_enter3 Try.func52 rfl Try.ntmps52 rfl ?_
        refine wpC_seq_k (fun K hK87 => ?_)
        refine wpC_region ?_
        refine wpS_box rfl rfl rfl CellsOf.agg hS (fun b88 w hS hB => ?_)
        refine wpS_box rfl rfl rfl CellsOf.agg hS (fun b90 w hS hB => ?_)
        refine wpS_alloc rfl rfl zc_26 hS (fun b92 w hS hB => ?_)
        refine wpS_quick 1 rfl ?_
        refine wpS_nil ?_
        refine QH_seq_k hK87 ?_
        refine wpC_seq_k (fun K hK94 => ?_)
        refine wpC_seq_k (fun K hK95 => ?_)
        refine wpC_region ?_
        refine wpS_quick 1 rfl ?_
        refine wpS_put rfl rfl rfl (yv_not rfl) ?_
        refine wpS_quick 1 rfl ?_
        refine wpS_put rfl rfl rfl (yv_load_boxA ag_26 rfl (RW.here _) hS hs2 trivial sg0_8) ?_
        obtain ⟨r96, hm97, H⟩ := bind_some H
        refine wpS_call rfl rfl rfl rfl (by kernel_rfl) rfl (c_ref12_Right x0 A0_ c0_ _ (SlI.of_rd s0_.k (hS.rd0 s0_.rd) (hS.blk0 s0_.blk)) hm97) ?_
        rintro e w ⟨rfl, hN⟩; refine ⟨_, rfl, ?_⟩; have hB := hN.pure; have hS := hS.join hN; clear hN
        refine wpS_put rfl rfl rfl (yv_not rfl) ?_
        refine wpS_quick 2 rfl ?_
        refine wpS_case 15 rfl (fun hb => ?_) (fun hb => ?_)
        · replace H := cond_t H hb
          refine wpS_quick 4 rfl ?_
          refine wpS_nil ?_
          refine QH_seq_k hK95 ?_
          refine wpC_cond_t rfl rfl ?_
          refine wpC_seq_k (fun K hK98 => ?_)
          refine wpC_region ?_
          refine wpS_put rfl rfl rfl (yv_load_boxA ag_26 rfl (RW.here _) hS hs2 trivial sg0_8) ?_
          obtain ⟨r99, hm100, H⟩ := bind_some H
          refine wpS_call rfl rfl rfl rfl (by kernel_rfl) rfl (c_ref12_Own x0 A0_ c0_ _ (SlI.of_rd s0_.k (hS.rd0 s0_.rd) (hS.blk0 s0_.blk)) hm100) ?_
          rintro e w ⟨A101, c102, rfl, k103, hN⟩; refine ⟨_, rfl, ?_⟩; have hB := hN.pure; have hS := hS.join hN; clear hN
          refine wpS_store rfl rfl rfl CellsOf.agg hS ps1 st0_8 (by kernel_rfl) rfl (fun w hS hB => ?_)
          refine wpS_quick 1 rfl ?_
          refine wpS_nil ?_
          refine QH_seq_k hK98 ?_
          refine wpC_ret ?_
          refine QH_then_ret ?_
          refine QH_ret rfl (RV.cell rfl (load_boxA ag_26 hS hs1 sg0_8) (RV.tmp rfl RV.nil)) rfl ?_
          refine ⟨_, rfl, ?_⟩
          refine wpS_put rfl rfl rfl (yv_extract rfl rfl) ?_
          refine wpS_put rfl rfl rfl (yv_extract rfl rfl) ?_
          refine wpS_store rfl rfl rfl CellsOf.agg hS ps7 st0_8 (by kernel_rfl) rfl (fun w hS hB => ?_)
          refine wpS_quick 1 rfl ?_
          refine wpS_nil ?_
          refine QH_seq_k hK86 ?_
          refine wpC_ret ?_
          refine QH_ret rfl (RV.cell rfl (load_boxA ag_26 hS hs7 sg0_8) (RV.tmp rfl RV.nil)) rfl ?_
          obtain rfl := Option.some.inj H
          have hS := hS.front 0 rfl
          replace hS := hS.cut 1
          exact ⟨A101, c102, rfl, k103, hS⟩
        · replace H := cond_f H hb
          refine wpS_put rfl rfl rfl (yv_load_boxA ag_26 rfl (RW.here _) hS hs1 trivial sg0_8) ?_
          obtain ⟨r105, hm106, H⟩ := bind_some H
          refine wpS_call rfl rfl rfl rfl (by kernel_rfl) rfl (c_ref12_Right (⟨x1, l80, r67.term, r67.vote⟩ : Tu) A82 c83 _ (SlI.of_rd k84 (hS.row_rd hs3) (hS.row_blk hs3)) hm106) ?_
          rintro e w ⟨rfl, hN⟩; refine ⟨_, rfl, ?_⟩; have hB := hN.pure; have hS := hS.join hN; clear hN
          refine wpS_put rfl rfl rfl (yv_not rfl) ?_
          refine wpS_quick 1 rfl ?_
          refine wpS_nil ?_
          refine QH_seq_k hK95 ?_
          refine wpC_cond rfl (fun hb => ?_) (fun hb => ?_)
          · replace H := cond_t H hb
            refine wpC_seq_k (fun K hK107 => ?_)
            refine wpC_region ?_
            refine wpS_put rfl rfl rfl (yv_load_boxA ag_26 rfl (RW.here _) hS hs2 trivial sg0_8) ?_
            obtain ⟨r108, hm109, H⟩ := bind_some H
            refine wpS_call rfl rfl rfl rfl (by kernel_rfl) rfl (c_ref12_Own x0 A0_ c0_ _ (SlI.of_rd s0_.k (hS.rd0 s0_.rd) (hS.blk0 s0_.blk)) hm109) ?_
            rintro e w ⟨A110, c111, rfl, k112, hN⟩; refine ⟨_, rfl, ?_⟩; have hB := hN.pure; have hS := hS.join hN; clear hN
            refine wpS_store rfl rfl rfl CellsOf.agg hS ps1 st0_8 (by kernel_rfl) rfl (fun w hS hB => ?_)
            refine wpS_quick 1 rfl ?_
            refine wpS_nil ?_
            refine QH_seq_k hK107 ?_
            refine wpC_ret ?_
            refine QH_then_ret ?_
            refine QH_ret rfl (RV.cell rfl (load_boxA ag_26 hS hs1 sg0_8) (RV.tmp rfl RV.nil)) rfl ?_
            refine ⟨_, rfl, ?_⟩
            refine wpS_put rfl rfl rfl (yv_extract rfl rfl) ?_
            refine wpS_put rfl rfl rfl (yv_extract rfl rfl) ?_
            refine wpS_store rfl rfl rfl CellsOf.agg hS ps7 st0_8 (by kernel_rfl) rfl (fun w hS hB => ?_)
            refine wpS_quick 1 rfl ?_
            refine wpS_nil ?_
            refine QH_seq_k hK86 ?_
            refine wpC_ret ?_
            refine QH_ret rfl (RV.cell rfl (load_boxA ag_26 hS hs7 sg0_8) (RV.tmp rfl RV.nil)) rfl ?_
            obtain rfl := Option.some.inj H
            have hS := hS.front 0 rfl
            replace hS := hS.cut 1
            exact ⟨A110, c111, rfl, k112, hS⟩
          · replace H := cond_f H hb
            refine wpC_skip ?_
            refine QH_seq_k hK94 ?_
            refine wpC_seq_k (fun K hK114 => ?_)
            refine wpC_region ?_
            refine wpS_put rfl rfl rfl (yv_load_boxA ag_26 rfl (RW.here _) hS hs1 trivial sg0_8) ?_
            refine wpS_store rfl rfl rfl CellsOf.agg hS ps0 st0_8 (by kernel_rfl) rfl (fun w hS hB => ?_)
            refine wpS_quick 1 rfl ?_
            refine wpS_nil ?_
            refine QH_seq_k hK114 ?_
            refine wpC_ret ?_
            refine QH_ret rfl (RV.cell rfl (load_boxA ag_26 hS hs0 sg0_8) (RV.tmp rfl RV.nil)) rfl ?_
            refine ⟨_, rfl, ?_⟩
            refine wpS_put rfl rfl rfl (yv_extract rfl rfl) ?_
            refine wpS_put rfl rfl rfl (yv_extract rfl rfl) ?_
            refine wpS_store rfl rfl rfl CellsOf.agg hS ps6 st0_8 (by kernel_rfl) rfl (fun w hS hB => ?_)
            refine wpS_quick 1 rfl ?_
            refine wpS_nil ?_
            refine QH_seq_k hK86 ?_
            refine wpC_ret ?_
            refine QH_ret rfl (RV.cell rfl (load_boxA ag_26 hS hs6 sg0_8) (RV.tmp rfl RV.nil)) rfl ?_
            obtain rfl := Option.some.inj H
            have hS := hS.front 3 rfl
            replace hS := hS.cut 1
            exact ⟨A82, c83, rfl, k84, hS⟩
theorem c_ref12_Install (x0 : Tu) (x1 : St) (A0_ : Option Addr) (c0_ : Nat) (w0 : World) (s0_ : SlI w0 enE A0_ c0_ x0.log) {r : Tu × Int} (H : m_ref12_Install x0 x1 = some r) : Calls Try.prog 25 #[.agg #[.int .i64 x0.snap.index, .int .i64 x0.snap.term, .int .i64 x0.snap.sum, .int .i64 x0.snap.level, .bool x0.snap.final, .slice A0_ x0.log.length c0_, .int .i64 x0.term, .int .i64 x0.vote], .agg #[.int .i64 x1.index, .int .i64 x1.term, .int .i64 x1.sum, .int .i64 x1.level, .bool x1.final]] w0 fun e w' => ∃ (A0 : Option Addr) (c0 : Nat), e = .returned (.tuple #[.agg #[.int .i64 r.1.snap.index, .int .i64 r.1.snap.term, .int .i64 r.1.snap.sum, .int .i64 r.1.snap.level, .bool r.1.snap.final, .slice A0 r.1.log.length c0, .int .i64 r.1.term, .int .i64 r.1.vote], .int .i64 r.2]) ∧ (r.1.log.length ≤ c0 ∧ c0 ≤ maxLen) ∧ St0 All w0 w' [.row (.slice A0 r.1.log.length c0) 50 3 r.1.log.length (encs enE r.1.log)] := by
  unfold m_ref12_Install at H
  refine gw_enter2 Try.func25 rfl Try.ntmps25 rfl ?_
  have hS := St0.start All w0
  refine wpC_seq_k (fun K hK1 => ?_)
  refine wpC_region ?_
  refine wpS_box rfl rfl rfl CellsOf.agg hS (fun b2 w hS hB => ?_)
  refine wpS_box rfl rfl rfl CellsOf.agg hS (fun b4 w hS hB => ?_)
  refine wpS_alloc rfl rfl zc_26 hS (fun b6 w hS hB => ?_)
  refine wpS_quick 1 rfl ?_
  refine wpS_nil ?_
  refine QH_seq_k hK1 ?_
  refine wpC_seq_k (fun K hK8 => ?_)
  refine wpC_seq_k (fun K hK9 => ?_)
  refine wpC_region ?_
  refine wpS_put rfl rfl rfl (yv_fieldAddr fo_23_0 rfl) ?_
  refine wpS_put rfl rfl rfl (yv_load_box sc_3 rfl (RW.here _) hS hs1 trivial sg0_1) ?_
  refine wpS_put rfl rfl rfl (yv_fieldAddr fo_26_0 rfl) ?_
  refine wpS_put rfl rfl rfl (yv_fieldAddr fo_23_0 rfl) ?_
  refine wpS_put rfl rfl rfl (yv_load_box sc_3 rfl (RW.here _) hS hs2 trivial sg0_1) ?_
  refine wpS_put rfl rfl rfl (yv_leq rfl rfl) ?_
  refine wpS_quick 1 rfl ?_
  refine wpS_case 14 rfl (fun hb => ?_) (fun hb => ?_)
  · replace H := cond_t H hb
    refine wpS_quick 6 rfl ?_
    refine wpS_nil ?_
    refine QH_seq_k hK9 ?_
    refine wpC_cond_t rfl rfl ?_
    refine wpC_seq_k (fun K hK10 => ?_)
    refine wpC_region ?_
    refine wpS_put rfl rfl rfl (yv_load_boxA ag_26 rfl (RW.here _) hS hs2 trivial sg0_8) ?_
    refine wpS_put rfl rfl rfl (yv_load_boxA ag_26 rfl (RW.here _) hS hs2 trivial sg0_8) ?_
    refine wpS_in rfl rfl rfl rfl (by kernel_rfl) rfl ?_
    show Calls _ _ #[_, _, _] _ _
    refine gw_enter3 Try.func52 rfl Try.ntmps52 rfl ?_
    refine wpC_seq_k (fun K hK11 => ?_)
    refine wpC_region ?_
    refine wpS_box rfl rfl rfl CellsOf.agg hS (fun b12 w hS hB => ?_)
    refine wpS_box rfl rfl rfl CellsOf.agg hS (fun b14 w hS hB => ?_)
    refine wpS_alloc rfl rfl zc_26 hS (fun b16 w hS hB => ?_)
    refine wpS_quick 1 rfl ?_
    refine wpS_nil ?_
    refine QH_seq_k hK11 ?_
    refine wpC_seq_k (fun K hK18 => ?_)
    refine wpC_seq_k (fun K hK19 => ?_)
    refine wpC_region ?_
    refine wpS_quick 1 rfl ?_
    refine wpS_put rfl rfl rfl (yv_not rfl) ?_
    refine wpS_quick 10 rfl ?_
    refine wpS_nil ?_
    refine QH_seq_k hK19 ?_
    refine wpC_cond_t rfl rfl ?_
    refine wpC_seq_k (fun K hK20 => ?_)
    refine wpC_region ?_
    refine wpS_put rfl rfl rfl (yv_load_boxA ag_26 rfl (RW.here _) hS hs2 trivial sg0_8) ?_
    obtain ⟨r21, hm22, H⟩ := bind_some H
    refine wpS_call rfl rfl rfl rfl (by kernel_rfl) rfl (c_ref12_Own x0 A0_ c0_ _ (SlI.of_rd s0_.k (hS.rd0 s0_.rd) (hS.blk0 s0_.blk)) hm22) ?_
    rintro e w ⟨A23, c24, rfl, k25, hN⟩; refine ⟨_, rfl, ?_⟩; have hB := hN.pure; have hS := hS.join hN; clear hN
    refine wpS_store rfl rfl rfl CellsOf.agg hS ps1 st0_8 (by kernel_rfl) rfl (fun w hS hB => ?_)
    refine wpS_quick 1 rfl ?_
    refine wpS_nil ?_
    refine QH_seq_k hK20 ?_
    refine wpC_ret ?_
    refine QH_then_ret ?_
    refine QH_ret rfl (RV.cell rfl (load_boxA ag_26 hS hs1 sg0_8) (RV.tmp rfl RV.nil)) rfl ?_
    refine ⟨_, rfl, ?_⟩
    refine wpS_put rfl rfl rfl (yv_extract rfl rfl) ?_
    refine wpS_put rfl rfl rfl (yv_extract rfl rfl) ?_
    refine wpS_store rfl rfl rfl CellsOf.agg hS ps4 st0_8 (by kernel_rfl) rfl (fun w hS hB => ?_)
    refine wpS_quick 1 rfl ?_
    refine wpS_nil ?_
    refine QH_seq_k hK10 ?_
    refine wpC_ret ?_
    refine QH_then_ret ?_
    refine QH_ret rfl (RV.cell rfl (load_boxA ag_26 hS hs4 sg0_8) (RV.tmp rfl RV.nil)) rfl ?_
    obtain rfl := Option.some.inj H
    have hS := hS.front 0 rfl
    replace hS := hS.cut 1
    exact ⟨A23, c24, rfl, k25, hS⟩
  · replace H := cond_f H hb
    refine wpS_put rfl rfl rfl (yv_fieldAddr fo_23_1 rfl) ?_
    refine wpS_put rfl rfl rfl (yv_load_box sc_3 rfl (RW.here _) hS hs1 trivial sg1_1) ?_
    refine wpS_put rfl rfl rfl (yv_fieldAddr fo_26_2 rfl) ?_
    refine wpS_put rfl rfl rfl (yv_load_box sc_3 rfl (RW.here _) hS hs2 trivial sg6_1) ?_
    refine wpS_put rfl rfl rfl (yv_gtr rfl rfl) ?_
    refine wpS_quick 1 rfl ?_
    refine wpS_nil ?_
    refine QH_seq_k hK9 ?_
    refine wpC_cond rfl (fun hb => ?_) (fun hb => ?_)
    · replace H := cond_t H hb
      refine wpC_seq_k (fun K hK27 => ?_)
      refine wpC_region ?_
      refine wpS_put rfl rfl rfl (yv_load_boxA ag_26 rfl (RW.here _) hS hs2 trivial sg0_8) ?_
      refine wpS_put rfl rfl rfl (yv_load_boxA ag_26 rfl (RW.here _) hS hs2 trivial sg0_8) ?_
      refine wpS_in rfl rfl rfl rfl (by kernel_rfl) rfl ?_
      show Calls _ _ #[_, _, _] _ _
      refine gw_enter3 Try.func52 rfl Try.ntmps52 rfl ?_
      refine wpC_seq_k (fun K hK28 => ?_)
      refine wpC_region ?_
      refine wpS_box rfl rfl rfl CellsOf.agg hS (fun b29 w hS hB => ?_)
      refine wpS_box rfl rfl rfl CellsOf.agg hS (fun b31 w hS hB => ?_)
      refine wpS_alloc rfl rfl zc_26 hS (fun b33 w hS hB => ?_)
      refine wpS_quick 1 rfl ?_
      refine wpS_nil ?_
      refine QH_seq_k hK28 ?_
      refine wpC_seq_k (fun K hK35 => ?_)
      refine wpC_seq_k (fun K hK36 => ?_)
      refine wpC_region ?_
      refine wpS_quick 1 rfl ?_
      refine wpS_put rfl rfl rfl (yv_not rfl) ?_
      refine wpS_quick 10 rfl ?_
      refine wpS_nil ?_
      refine QH_seq_k hK36 ?_
      refine wpC_cond_t rfl rfl ?_
      refine wpC_seq_k (fun K hK37 => ?_)
      refine wpC_region ?_
      refine wpS_put rfl rfl rfl (yv_load_boxA ag_26 rfl (RW.here _) hS hs2 trivial sg0_8) ?_
      obtain ⟨r38, hm39, H⟩ := bind_some H
      refine wpS_call rfl rfl rfl rfl (by kernel_rfl) rfl (c_ref12_Own x0 A0_ c0_ _ (SlI.of_rd s0_.k (hS.rd0 s0_.rd) (hS.blk0 s0_.blk)) hm39) ?_
      rintro e w ⟨A40, c41, rfl, k42, hN⟩; refine ⟨_, rfl, ?_⟩; have hB := hN.pure; have hS := hS.join hN; clear hN
      refine wpS_store rfl rfl rfl CellsOf.agg hS ps1 st0_8 (by kernel_rfl) rfl (fun w hS hB => ?_)
      refine wpS_quick 1 rfl ?_
      refine wpS_nil ?_
      refine QH_seq_k hK37 ?_
      refine wpC_ret ?_
      refine QH_then_ret ?_
      refine QH_ret rfl (RV.cell rfl (load_boxA ag_26 hS hs1 sg0_8) (RV.tmp rfl RV.nil)) rfl ?_
      refine ⟨_, rfl, ?_⟩
      refine wpS_put rfl rfl rfl (yv_extract rfl rfl) ?_
      refine wpS_put rfl rfl rfl (yv_extract rfl rfl) ?_
      refine wpS_store rfl rfl rfl CellsOf.agg hS ps4 st0_8 (by kernel_rfl) rfl (fun w hS hB => ?_)
      refine wpS_quick 1 rfl ?_
      refine wpS_nil ?_
      refine QH_seq_k hK27 ?_
      refine wpC_ret ?_
      refine QH_then_ret ?_
      refine QH_ret rfl (RV.cell rfl (load_boxA ag_26 hS hs4 sg0_8) (RV.tmp rfl RV.nil)) rfl ?_
      obtain rfl := Option.some.inj H
      have hS := hS.front 0 rfl
      replace hS := hS.cut 1
      exact ⟨A40, c41, rfl, k42, hS⟩
    · replace H := cond_f H hb
      refine wpC_skip ?_
      refine QH_seq_k hK8 ?_
      refine wpC_seq_k (fun K hK44 => ?_)
      refine wpC_region ?_
      refine wpS_put rfl rfl rfl (yv_load_boxA ag_26 rfl (RW.here _) hS hs2 trivial sg0_8) ?_
      refine wpS_put rfl rfl rfl (yv_fieldAddr fo_23_0 rfl) ?_
      refine wpS_put rfl rfl rfl (yv_load_box sc_3 rfl (RW.here _) hS hs1 trivial sg0_1) ?_
      obtain ⟨r45, hm46, H⟩ := bind_some H
      refine wpS_call rfl rfl rfl rfl (by kernel_rfl) rfl (c_ref12_TermAt x0 x1.index A0_ c0_ _ (SlI.of_rd s0_.k (hS.rd0 s0_.rd) (hS.blk0 s0_.blk)) hm46) ?_
      rintro e w ⟨rfl, hN⟩; refine ⟨_, rfl, ?_⟩; have hB := hN.pure; have hS := hS.join hN; clear hN
      refine wpS_quick 1 rfl ?_
      refine wpS_put rfl rfl rfl (yv_extract rfl rfl) ?_
      refine wpS_put rfl rfl rfl (yv_extract rfl rfl) ?_
      refine wpS_quick 2 rfl ?_
      refine wpS_nil ?_
      refine QH_seq_k hK44 ?_
      refine wpC_seq_k (fun K hK47 => ?_)
      refine wpC_seq_k (fun K hK48 => ?_)
      refine wpC_region ?_
      refine wpS_quick 2 rfl ?_
      refine wpS_case 34 rfl (fun hb => ?_) (fun hb => ?_)
      · replace H := cond_t H hb
        refine wpS_quick 1 rfl ?_
        refine wpS_put rfl rfl rfl (yv_fieldAddr fo_23_1 rfl) ?_
        refine wpS_put rfl rfl rfl (yv_load_box sc_3 rfl (RW.here _) hS hs1 trivial sg1_1) ?_
        refine wpS_put rfl rfl rfl (yv_eql rfl rfl) ?_
        refine wpS_quick 1 rfl ?_
        refine wpS_nil ?_
        refine QH_seq_k hK48 ?_
        refine wpC_cond rfl (fun hb => ?_) (fun hb => ?_)
        · replace H := cond_t H hb
          refine wpC_seq_k (fun K hK49 => ?_)
          refine wpC_region ?_
          refine wpS_put rfl rfl rfl (yv_load_boxA ag_26 rfl (RW.here _) hS hs2 trivial sg0_8) ?_
          refine wpS_put rfl rfl rfl (yv_load_boxA ag_23 rfl (RW.here _) hS hs1 trivial sg0_5) ?_
          obtain ⟨r50, hm51, H⟩ := bind_some H
          refine wpS_call rfl rfl rfl rfl (by kernel_rfl) rfl (c_ref12_Save x0 x1 A0_ c0_ _ (SlI.of_rd s0_.k (hS.rd0 s0_.rd) (hS.blk0 s0_.blk)) hm51) ?_
          rintro e w ⟨A52, c53, rfl, k54, hN⟩; refine ⟨_, rfl, ?_⟩; have hB := hN.pure; have hS := hS.join hN; clear hN
          refine wpS_put rfl rfl rfl (yv_extract rfl rfl) ?_
          refine wpS_put rfl rfl rfl (yv_extract rfl rfl) ?_
          refine wpS_store rfl rfl rfl CellsOf.agg hS ps1 st0_8 (by kernel_rfl) rfl (fun w hS hB => ?_)
          refine wpS_quick 1 rfl ?_
          refine wpS_nil ?_
          refine QH_seq_k hK49 ?_
          refine wpC_ret ?_
          refine QH_then_ret ?_
          refine QH_ret rfl (RV.cell rfl (load_boxA ag_26 hS hs1 sg0_8) (RV.tmp rfl RV.nil)) rfl ?_
          obtain rfl := Option.some.inj H
          have hS := hS.front 0 rfl
          replace hS := hS.cut 1
          exact ⟨A52, c53, rfl, k54, hS⟩
        · replace H := cond_f H hb
          refine wpC_skip ?_
          refine QH_seq_k hK47 ?_
          refine wpC_seq_k (fun K hK56 => ?_)
          refine wpC_region ?_
          refine wpS_put rfl rfl rfl (yv_load_boxA ag_26 rfl (RW.here _) hS hs2 trivial sg0_8) ?_
          refine wpS_put rfl rfl rfl (yv_load_boxA ag_23 rfl (RW.here _) hS hs1 trivial sg0_5) ?_
          refine wpS_put rfl rfl rfl (yv_fieldAddr fo_26_2 rfl) ?_
          refine wpS_put rfl rfl rfl (yv_load_box sc_3 rfl (RW.here _) hS hs2 trivial sg6_1) ?_
          refine wpS_put rfl rfl rfl (yv_fieldAddr fo_26_3 rfl) ?_
          refine wpS_put rfl rfl rfl (yv_load_box sc_3 rfl (RW.here _) hS hs2 trivial sg7_1) ?_
          refine wpS_put rfl rfl rfl (yv_build (cells := [.int .i64 x1.index, .int .i64 x1.term, .int .i64 x1.sum, .int .i64 x1.level, .bool x1.final, .slice none 0 0, .int .i64 x0.term, .int .i64 x0.vote]) rfl (by kernel_rfl)) ?_
          refine wpS_in rfl rfl rfl rfl (by kernel_rfl) rfl ?_
          show Calls _ _ #[_, _, _] _ _
          refine gw_enter3 Try.func52 rfl Try.ntmps52 rfl ?_
          refine wpC_seq_k (fun K hK57 => ?_)
          refine wpC_region ?_
          refine wpS_box rfl rfl rfl CellsOf.agg hS (fun b58 w hS hB => ?_)
          refine wpS_box rfl rfl rfl CellsOf.agg hS (fun b60 w hS hB => ?_)
          refine wpS_alloc rfl rfl zc_26 hS (fun b62 w hS hB => ?_)
          refine wpS_quick 1 rfl ?_
          refine wpS_nil ?_
          refine QH_seq_k hK57 ?_
          refine wpC_seq_k (fun K hK64 => ?_)
          refine wpC_seq_k (fun K hK65 => ?_)
          refine wpC_region ?_
          refine wpS_quick 1 rfl ?_
          refine wpS_put rfl rfl rfl (yv_not rfl) ?_
          refine wpS_quick 1 rfl ?_
          refine wpS_put rfl rfl rfl (yv_load_boxA ag_26 rfl (RW.here _) hS hs2 trivial sg0_8) ?_
          obtain ⟨r66, hm67, H⟩ := bind_some H
          refine wpS_call rfl rfl rfl rfl (by kernel_rfl) rfl (c_ref12_Right x0 A0_ c0_ _ (SlI.of_rd s0_.k (hS.rd0 s0_.rd) (hS.blk0 s0_.blk)) hm67) ?_
          rintro e w ⟨rfl, hN⟩; refine ⟨_, rfl, ?_⟩; have hB := hN.pure; have hS := hS.join hN; clear hN
          refine wpS_put rfl rfl rfl (yv_not rfl) ?_
          refine wpS_quick 2 rfl ?_
          refine wpS_case 15 rfl (fun hb => ?_) (fun hb => ?_)
          · replace H := cond_t H hb
            refine wpS_quick 4 rfl ?_
            refine wpS_nil ?_
            refine QH_seq_k hK65 ?_
            refine wpC_cond_t rfl rfl ?_
            refine wpC_seq_k (fun K hK68 => ?_)
            refine wpC_region ?_
            refine wpS_put rfl rfl rfl (yv_load_boxA ag_26 rfl (RW.here _) hS hs2 trivial sg0_8) ?_
            obtain ⟨r69, hm70, H⟩ := bind_some H
            refine wpS_call rfl rfl rfl rfl (by kernel_rfl) rfl (c_ref12_Own x0 A0_ c0_ _ (SlI.of_rd s0_.k (hS.rd0 s0_.rd) (hS.blk0 s0_.blk)) hm70) ?_
            rintro e w ⟨A71, c72, rfl, k73, hN⟩; refine ⟨_, rfl, ?_⟩; have hB := hN.pure; have hS := hS.join hN; clear hN
            refine wpS_store rfl rfl rfl CellsOf.agg hS ps1 st0_8 (by kernel_rfl) rfl (fun w hS hB => ?_)
            refine wpS_quick 1 rfl ?_
            refine wpS_nil ?_
            refine QH_seq_k hK68 ?_
            refine wpC_ret ?_
            refine QH_then_ret ?_
            refine QH_ret rfl (RV.cell rfl (load_boxA ag_26 hS hs1 sg0_8) (RV.tmp rfl RV.nil)) rfl ?_
            refine ⟨_, rfl, ?_⟩
            refine wpS_put rfl rfl rfl (yv_extract rfl rfl) ?_
            refine wpS_put rfl rfl rfl (yv_extract rfl rfl) ?_
            refine wpS_store rfl rfl rfl CellsOf.agg hS ps4 st0_8 (by kernel_rfl) rfl (fun w hS hB => ?_)
            refine wpS_quick 1 rfl ?_
            refine wpS_nil ?_
            refine QH_seq_k hK56 ?_
            refine wpC_ret ?_
            refine QH_ret rfl (RV.cell rfl (load_boxA ag_26 hS hs4 sg0_8) (RV.tmp rfl RV.nil)) rfl ?_
            obtain rfl := Option.some.inj H
            have hS := hS.front 0 rfl
            replace hS := hS.cut 1
            exact ⟨A71, c72, rfl, k73, hS⟩
          · replace H := cond_f H hb
            refine wpS_put rfl rfl rfl (yv_load_boxA ag_26 rfl (RW.here _) hS hs1 trivial sg0_8) ?_
            obtain ⟨r75, hm76, H⟩ := bind_some H
            refine wpS_call rfl rfl rfl rfl (by kernel_rfl) rfl (c_ref12_Right (⟨x1, [], x0.term, x0.vote⟩ : Tu) none 0 _ (SlI.nil _ _) hm76) ?_
            rintro e w ⟨rfl, hN⟩; refine ⟨_, rfl, ?_⟩; have hB := hN.pure; have hS := hS.join hN; clear hN
            refine wpS_put rfl rfl rfl (yv_not rfl) ?_
            refine wpS_quick 1 rfl ?_
            refine wpS_nil ?_
            refine QH_seq_k hK65 ?_
            refine wpC_cond rfl (fun hb => ?_) (fun hb => ?_)
            · replace H := cond_t H hb
              refine wpC_seq_k (fun K hK77 => ?_)
              refine wpC_region ?_
              refine wpS_put rfl rfl rfl (yv_load_boxA ag_26 rfl (RW.here _) hS hs2 trivial sg0_8) ?_
              obtain ⟨r78, hm79, H⟩ := bind_some H
              refine wpS_call rfl rfl rfl rfl (by kernel_rfl) rfl (c_ref12_Own x0 A0_ c0_ _ (SlI.of_rd s0_.k (hS.rd0 s0_.rd) (hS.blk0 s0_.blk)) hm79) ?_
              rintro e w ⟨A80, c81, rfl, k82, hN⟩; refine ⟨_, rfl, ?_⟩; have hB := hN.pure; have hS := hS.join hN; clear hN
              refine wpS_store rfl rfl rfl CellsOf.agg hS ps1 st0_8 (by kernel_rfl) rfl (fun w hS hB => ?_)
              refine wpS_quick 1 rfl ?_
              refine wpS_nil ?_
              refine QH_seq_k hK77 ?_
              refine wpC_ret ?_
              refine QH_then_ret ?_
              refine QH_ret rfl (RV.cell rfl (load_boxA ag_26 hS hs1 sg0_8) (RV.tmp rfl RV.nil)) rfl ?_
              refine ⟨_, rfl, ?_⟩
              refine wpS_put rfl rfl rfl (yv_extract rfl rfl) ?_
              refine wpS_put rfl rfl rfl (yv_extract rfl rfl) ?_
              refine wpS_store rfl rfl rfl CellsOf.agg hS ps4 st0_8 (by kernel_rfl) rfl (fun w hS hB => ?_)
              refine wpS_quick 1 rfl ?_
              refine wpS_nil ?_
              refine QH_seq_k hK56 ?_
              refine wpC_ret ?_
              refine QH_ret rfl (RV.cell rfl (load_boxA ag_26 hS hs4 sg0_8) (RV.tmp rfl RV.nil)) rfl ?_
              obtain rfl := Option.some.inj H
              have hS := hS.front 0 rfl
              replace hS := hS.cut 1
              exact ⟨A80, c81, rfl, k82, hS⟩
            · replace H := cond_f H hb
              refine wpC_skip ?_
              refine QH_seq_k hK64 ?_
              refine wpC_seq_k (fun K hK84 => ?_)
              refine wpC_region ?_
              refine wpS_put rfl rfl rfl (yv_load_boxA ag_26 rfl (RW.here _) hS hs1 trivial sg0_8) ?_
              refine wpS_store rfl rfl rfl CellsOf.agg hS ps0 st0_8 (by kernel_rfl) rfl (fun w hS hB => ?_)
              refine wpS_quick 1 rfl ?_
              refine wpS_nil ?_
              refine QH_seq_k hK84 ?_
              refine wpC_ret ?_
              refine QH_ret rfl (RV.cell rfl (load_boxA ag_26 hS hs0 sg0_8) (RV.tmp rfl RV.nil)) rfl ?_
              refine ⟨_, rfl, ?_⟩
              refine wpS_put rfl rfl rfl (yv_extract rfl rfl) ?_
              refine wpS_put rfl rfl rfl (yv_extract rfl rfl) ?_
              refine wpS_store rfl rfl rfl CellsOf.agg hS ps3 st0_8 (by kernel_rfl) rfl (fun w hS hB => ?_)
              refine wpS_quick 1 rfl ?_
              refine wpS_nil ?_
              refine QH_seq_k hK56 ?_
              refine wpC_ret ?_
              refine QH_ret rfl (RV.cell rfl (load_boxA ag_26 hS hs3 sg0_8) (RV.tmp rfl RV.nil)) rfl ?_
              obtain rfl := Option.some.inj H
              have hS := hS.nilRow 50 3
              replace hS := hS.cut 1
              exact ⟨none, 0, rfl, ⟨Nat.le_refl _, Nat.zero_le _⟩, hS⟩
      · replace H := cond_f H hb
        refine wpS_quick 5 rfl ?_
        refine wpS_nil ?_
        refine QH_seq_k hK48 ?_
        refine wpC_cond_f rfl rfl ?_
        refine wpC_skip ?_
        refine QH_seq_k hK47 ?_
        refine wpC_seq_k (fun K hK85 => ?_)
        refine wpC_region ?_
        refine wpS_put rfl rfl rfl (yv_load_boxA ag_26 rfl (RW.here _) hS hs2 trivial sg0_8) ?_
        refine wpS_put rfl rfl rfl (yv_load_boxA ag_23 rfl (RW.here _) hS hs1 trivial sg0_5) ?_
        refine wpS_put rfl rfl rfl (yv_fieldAddr fo_26_2 rfl) ?_
        refine wpS_put rfl rfl rfl (yv_load_box sc_3 rfl (RW.here _) hS hs2 trivial sg6_1) ?_
        refine wpS_put rfl rfl rfl (yv_fieldAddr fo_26_3 rfl) ?_
        refine wpS_put rfl rfl rfl (yv_load_box sc_3 rfl (RW.here _) hS hs2 trivial sg7_1) ?_
        refine wpS_put rfl rfl rfl (yv_build (cells := [.int .i64 x1.index, .int .i64 x1.term, .int .i64 x1.sum, .int .i64 x1.level, .bool x1.final, .slice none 0 0, .int .i64 x0.term, .int .i64 x0.vote]) rfl (by kernel_rfl)) ?_
        refine wpS_in rfl rfl rfl rfl (by kernel_rfl) rfl ?_
        show Calls _ _ #[_, _, _] _ _
        refine gw_enter3 Try.func52 rfl Try.ntmps52 rfl ?_
        refine wpC_seq_k (fun K hK86 => ?_)
        refine wpC_region ?_
        refine wpS_box rfl rfl rfl CellsOf.agg hS (fun b87 w hS hB => ?_)
        refine wpS_box rfl rfl rfl CellsOf.agg hS (fun b89 w hS hB => ?_)
        refine wpS_alloc rfl rfl zc_26 hS (fun b91 w hS hB => ?_)
        refine wpS_quick 1 rfl ?_
        refine wpS_nil ?_
        refine QH_seq_k hK86 ?_
        refine wpC_seq_k (fun K hK93 => ?_)
        refine wpC_seq_k (fun K hK94 => ?_)
        refine wpC_region ?_
        refine wpS_quick 1 rfl ?_
        refine wpS_put rfl rfl rfl (yv_not rfl) ?_
        refine wpS_quick 1 rfl ?_
        refine wpS_put rfl rfl rfl (yv_load_boxA ag_26 rfl (RW.here _) hS hs2 trivial sg0_8) ?_
        obtain ⟨r95, hm96, H⟩ := bind_some H
        refine wpS_call rfl rfl rfl rfl (by kernel_rfl) rfl (c_ref12_Right x0 A0_ c0_ _ (SlI.of_rd s0_.k (hS.rd0 s0_.rd) (hS.blk0 s0_.blk)) hm96) ?_
        rintro e w ⟨rfl, hN⟩; refine ⟨_, rfl, ?_⟩; have hB := hN.pure; have hS := hS.join hN; clear hN
        refine wpS_put rfl rfl rfl (yv_not rfl) ?_
        refine wpS_quick 2 rfl ?_
        refine wpS_case 15 rfl (fun hb => ?_) (fun hb => ?_)
        · replace H := cond_t H hb
          refine wpS_quick 4 rfl ?_
          refine wpS_nil ?_
          refine QH_seq_k hK94 ?_
          refine wpC_cond_t rfl rfl ?_
          refine wpC_seq_k (fun K hK97 => ?_)
          refine wpC_region ?_
          refine wpS_put rfl rfl rfl (yv_load_boxA ag_26 rfl (RW.here _) hS hs2 trivial sg0_8) ?_
          obtain ⟨r98, hm99, H⟩ := bind_some H
          refine wpS_call rfl rfl rfl rfl (by kernel_rfl) rfl (c_ref12_Own x0 A0_ c0_ _ (SlI.of_rd s0_.k (hS.rd0 s0_.rd) (hS.blk0 s0_.blk)) hm99) ?_
          rintro e w ⟨A100, c101, rfl, k102, hN⟩; refine ⟨_, rfl, ?_⟩; have hB := hN.pure; have hS := hS.join hN; clear hN
          refine wpS_store rfl rfl rfl CellsOf.agg hS ps1 st0_8 (by kernel_rfl) rfl (fun w hS hB => ?_)
          refine wpS_quick 1 rfl ?_
          refine wpS_nil ?_
          refine QH_seq_k hK97 ?_
          refine wpC_ret ?_
          refine QH_then_ret ?_
          refine QH_ret rfl (RV.cell rfl (load_boxA ag_26 hS hs1 sg0_8) (RV.tmp rfl RV.nil)) rfl ?_
          refine ⟨_, rfl, ?_⟩
          refine wpS_put rfl rfl rfl (yv_extract rfl rfl) ?_
          refine wpS_put rfl rfl rfl (yv_extract rfl rfl) ?_
          refine wpS_store rfl rfl rfl CellsOf.agg hS ps4 st0_8 (by kernel_rfl) rfl (fun w hS hB => ?_)
          refine wpS_quick 1 rfl ?_
          refine wpS_nil ?_
          refine QH_seq_k hK85 ?_
          refine wpC_ret ?_
          refine QH_ret rfl (RV.cell rfl (load_boxA ag_26 hS hs4 sg0_8) (RV.tmp rfl RV.nil)) rfl ?_
          obtain rfl := Option.some.inj H
          have hS := hS.front 0 rfl
          replace hS := hS.cut 1
          exact ⟨A100, c101, rfl, k102, hS⟩
        · replace H := cond_f H hb
          refine wpS_put rfl rfl rfl (yv_load_boxA ag_26 rfl (RW.here _) hS hs1 trivial sg0_8) ?_
          obtain ⟨r104, hm105, H⟩ := bind_some H
          refine wpS_call rfl rfl rfl rfl (by kernel_rfl) rfl (c_ref12_Right (⟨x1, [], x0.term, x0.vote⟩ : Tu) none 0 _ (SlI.nil _ _) hm105) ?_
          rintro e w ⟨rfl, hN⟩; refine ⟨_, rfl, ?_⟩; have hB := hN.pure; have hS := hS.join hN; clear hN
          refine wpS_put rfl rfl rfl (yv_not rfl) ?_
          refine wpS_quick 1 rfl ?_
          refine wpS_nil ?_
          refine QH_seq_k hK94 ?_
          refine wpC_cond rfl (fun hb => ?_) (fun hb => ?_)
          · replace H := cond_t H hb
            refine wpC_seq_k (fun K hK106 => ?_)
            refine wpC_region ?_
            refine wpS_put rfl rfl rfl (yv_load_boxA ag_26 rfl (RW.here _) hS hs2 trivial sg0_8) ?_
            obtain ⟨r107, hm108, H⟩ := bind_some H
            refine wpS_call rfl rfl rfl rfl (by kernel_rfl) rfl (c_ref12_Own x0 A0_ c0_ _ (SlI.of_rd s0_.k (hS.rd0 s0_.rd) (hS.blk0 s0_.blk)) hm108) ?_
            rintro e w ⟨A109, c110, rfl, k111, hN⟩; refine ⟨_, rfl, ?_⟩; have hB := hN.pure; have hS := hS.join hN; clear hN
            refine wpS_store rfl rfl rfl CellsOf.agg hS ps1 st0_8 (by kernel_rfl) rfl (fun w hS hB => ?_)
            refine wpS_quick 1 rfl ?_
            refine wpS_nil ?_
            refine QH_seq_k hK106 ?_
            refine wpC_ret ?_
            refine QH_then_ret ?_
            refine QH_ret rfl (RV.cell rfl (load_boxA ag_26 hS hs1 sg0_8) (RV.tmp rfl RV.nil)) rfl ?_
            refine ⟨_, rfl, ?_⟩
            refine wpS_put rfl rfl rfl (yv_extract rfl rfl) ?_
            refine wpS_put rfl rfl rfl (yv_extract rfl rfl) ?_
            refine wpS_store rfl rfl rfl CellsOf.agg hS ps4 st0_8 (by kernel_rfl) rfl (fun w hS hB => ?_)
            refine wpS_quick 1 rfl ?_
            refine wpS_nil ?_
            refine QH_seq_k hK85 ?_
            refine wpC_ret ?_
            refine QH_ret rfl (RV.cell rfl (load_boxA ag_26 hS hs4 sg0_8) (RV.tmp rfl RV.nil)) rfl ?_
            obtain rfl := Option.some.inj H
            have hS := hS.front 0 rfl
            replace hS := hS.cut 1
            exact ⟨A109, c110, rfl, k111, hS⟩
          · replace H := cond_f H hb
            refine wpC_skip ?_
            refine QH_seq_k hK93 ?_
            refine wpC_seq_k (fun K hK113 => ?_)
            refine wpC_region ?_
            refine wpS_put rfl rfl rfl (yv_load_boxA ag_26 rfl (RW.here _) hS hs1 trivial sg0_8) ?_
            refine wpS_store rfl rfl rfl CellsOf.agg hS ps0 st0_8 (by kernel_rfl) rfl (fun w hS hB => ?_)
            refine wpS_quick 1 rfl ?_
            refine wpS_nil ?_
            refine QH_seq_k hK113 ?_
            refine wpC_ret ?_
            refine QH_ret rfl (RV.cell rfl (load_boxA ag_26 hS hs0 sg0_8) (RV.tmp rfl RV.nil)) rfl ?_
            refine ⟨_, rfl, ?_⟩
            refine wpS_put rfl rfl rfl (yv_extract rfl rfl) ?_
            refine wpS_put rfl rfl rfl (yv_extract rfl rfl) ?_
            refine wpS_store rfl rfl rfl CellsOf.agg hS ps3 st0_8 (by kernel_rfl) rfl (fun w hS hB => ?_)
            refine wpS_quick 1 rfl ?_
            refine wpS_nil ?_
            refine QH_seq_k hK85 ?_
            refine wpC_ret ?_
            refine QH_ret rfl (RV.cell rfl (load_boxA ag_26 hS hs3 sg0_8) (RV.tmp rfl RV.nil)) rfl ?_
            obtain rfl := Option.some.inj H
            have hS := hS.nilRow 50 3
            replace hS := hS.cut 1
            exact ⟨none, 0, rfl, ⟨Nat.le_refl _, Nat.zero_le _⟩, hS⟩
theorem c_ref12_Hard (x0 : Tu) (x1 : Int) (x2 : Int) (A0_ : Option Addr) (c0_ : Nat) (w0 : World) (s0_ : SlI w0 enE A0_ c0_ x0.log) {r : Tu × Int} (H : m_ref12_Hard x0 x1 x2 = some r) : Calls Try.prog 27 #[.agg #[.int .i64 x0.snap.index, .int .i64 x0.snap.term, .int .i64 x0.snap.sum, .int .i64 x0.snap.level, .bool x0.snap.final, .slice A0_ x0.log.length c0_, .int .i64 x0.term, .int .i64 x0.vote], .int .i64 x1, .int .i64 x2] w0 fun e w' => ∃ (A0 : Option Addr) (c0 : Nat), e = .returned (.tuple #[.agg #[.int .i64 r.1.snap.index, .int .i64 r.1.snap.term, .int .i64 r.1.snap.sum, .int .i64 r.1.snap.level, .bool r.1.snap.final, .slice A0 r.1.log.length c0, .int .i64 r.1.term, .int .i64 r.1.vote], .int .i64 r.2]) ∧ (r.1.log.length ≤ c0 ∧ c0 ≤ maxLen) ∧ St0 All w0 w' [.row (.slice A0 r.1.log.length c0) 50 3 r.1.log.length (encs enE r.1.log)] := by
  unfold m_ref12_Hard at H
  refine gw_enter3 Try.func27 rfl Try.ntmps27 rfl ?_
  have hS := St0.start All w0
  refine wpC_seq_k (fun K hK1 => ?_)
  refine wpC_region ?_
  refine wpS_box rfl rfl rfl CellsOf.agg hS (fun b2 w hS hB => ?_)
  refine wpS_alloc rfl rfl zc_26 hS (fun b4 w hS hB => ?_)
  refine wpS_quick 1 rfl ?_
  refine wpS_nil ?_
  refine QH_seq_k hK1 ?_
  refine wpC_seq_k (fun K hK6 => ?_)
  refine wpC_region ?_
  refine wpS_put rfl rfl rfl (yv_load_boxA ag_26 rfl (RW.here _) hS hs1 trivial sg0_8) ?_
  obtain ⟨r7, hm8, H⟩ := bind_some H
  refine wpS_call rfl rfl rfl rfl (by kernel_rfl) rfl (c_ref12_Own x0 A0_ c0_ _ (SlI.of_rd s0_.k (hS.rd0 s0_.rd) (hS.blk0 s0_.blk)) hm8) ?_
  rintro e w ⟨A9, c10, rfl, k11, hN⟩; refine ⟨_, rfl, ?_⟩; have hB := hN.pure; have hS := hS.join hN; clear hN
  refine wpS_alloc rfl rfl zc_26 hS (fun b13 w hS hB => ?_)
  refine wpS_store rfl rfl rfl CellsOf.agg hS ps0 st0_8 (by kernel_rfl) rfl (fun w hS hB => ?_)
  refine wpS_nil ?_
  refine QH_seq_k hK6 ?_
  refine wpC_seq_k (fun K hK15 => ?_)
  refine wpC_region ?_
  refine wpS_quick 2 rfl ?_
  refine wpS_put rfl rfl rfl (yv_fieldAddr fo_26_2 rfl) ?_
  refine wpS_store rfl rfl rfl CellsOf.int hS ps0 st6_1 (by kernel_rfl) rfl (fun w hS hB => ?_)
  refine wpS_put rfl rfl rfl (yv_fieldAddr fo_26_3 rfl) ?_
  refine wpS_store rfl rfl rfl CellsOf.int hS ps0 st7_1 (by kernel_rfl) rfl (fun w hS hB => ?_)
  refine wpS_nil ?_
  refine QH_seq_k hK15 ?_
  refine wpC_seq_k (fun K hK16 => ?_)
  refine wpC_region ?_
  refine wpS_put rfl rfl rfl (yv_load_boxA ag_26 rfl (RW.here _) hS hs3 trivial sg0_8) ?_
  refine wpS_put rfl rfl rfl (yv_load_boxA ag_26 rfl (RW.here _) hS hs0 trivial sg0_8) ?_
  refine wpS_quick 1 rfl ?_
  refine wpS_put rfl rfl rfl (yv_fieldAddr fo_26_2 rfl) ?_
  refine wpS_put rfl rfl rfl (yv_load_box sc_3 rfl (RW.here _) hS hs3 trivial sg6_1) ?_
  refine wpS_put rfl rfl rfl (yv_gtr rfl rfl) ?_
  refine wpS_quick 1 rfl ?_
  refine wpS_case 21 rfl (fun hb => ?_) (fun hb => ?_)
  · replace H := cond_t H hb
    refine wpS_quick 16 rfl ?_
    refine wpS_in rfl rfl rfl rfl (by kernel_rfl) rfl ?_
    show Calls _ _ #[_, _, _] _ _
    refine gw_enter3 Try.func52 rfl Try.ntmps52 rfl ?_
    refine wpC_seq_k (fun K hK17 => ?_)
    refine wpC_region ?_
    refine wpS_box rfl rfl rfl CellsOf.agg hS (fun b18 w hS hB => ?_)
    refine wpS_box rfl rfl rfl CellsOf.agg hS (fun b20 w hS hB => ?_)
    refine wpS_alloc rfl rfl zc_26 hS (fun b22 w hS hB => ?_)
    refine wpS_quick 1 rfl ?_
    refine wpS_nil ?_
    refine QH_seq_k hK17 ?_
    refine wpC_seq_k (fun K hK24 => ?_)
    refine wpC_seq_k (fun K hK25 => ?_)
    refine wpC_region ?_
    refine wpS_quick 1 rfl ?_
    refine wpS_put rfl rfl rfl (yv_not rfl) ?_
    refine wpS_quick 1 rfl ?_
    refine wpS_put rfl rfl rfl (yv_load_boxA ag_26 rfl (RW.here _) hS hs2 trivial sg0_8) ?_
    obtain ⟨r26, hm27, H⟩ := bind_some H
    refine wpS_call rfl rfl rfl rfl (by kernel_rfl) rfl (c_ref12_Right x0 A0_ c0_ _ (SlI.of_rd s0_.k (hS.rd0 s0_.rd) (hS.blk0 s0_.blk)) hm27) ?_
    rintro e w ⟨rfl, hN⟩; refine ⟨_, rfl, ?_⟩; have hB := hN.pure; have hS := hS.join hN; clear hN
    refine wpS_put rfl rfl rfl (yv_not rfl) ?_
    refine wpS_quick 2 rfl ?_
    refine wpS_case 15 rfl (fun hb => ?_) (fun hb => ?_)
    · replace H := cond_t H hb
      refine wpS_quick 4 rfl ?_
      refine wpS_nil ?_
      refine QH_seq_k hK25 ?_
      refine wpC_cond_t rfl rfl ?_
      refine wpC_seq_k (fun K hK28 => ?_)
      refine wpC_region ?_
      refine wpS_put rfl rfl rfl (yv_load_boxA ag_26 rfl (RW.here _) hS hs2 trivial sg0_8) ?_
      obtain ⟨r29, hm30, H⟩ := bind_some H
      refine wpS_call rfl rfl rfl rfl (by kernel_rfl) rfl (c_ref12_Own x0 A0_ c0_ _ (SlI.of_rd s0_.k (hS.rd0 s0_.rd) (hS.blk0 s0_.blk)) hm30) ?_
      rintro e w ⟨A31, c32, rfl, k33, hN⟩; refine ⟨_, rfl, ?_⟩; have hB := hN.pure; have hS := hS.join hN; clear hN
      refine wpS_store rfl rfl rfl CellsOf.agg hS ps1 st0_8 (by kernel_rfl) rfl (fun w hS hB => ?_)
      refine wpS_quick 1 rfl ?_
      refine wpS_nil ?_
      refine QH_seq_k hK28 ?_
      refine wpC_ret ?_
      refine QH_then_ret ?_
      refine QH_ret rfl (RV.cell rfl (load_boxA ag_26 hS hs1 sg0_8) (RV.tmp rfl RV.nil)) rfl ?_
      refine ⟨_, rfl, ?_⟩
      refine wpS_put rfl rfl rfl (yv_extract rfl rfl) ?_
      refine wpS_put rfl rfl rfl (yv_extract rfl rfl) ?_
      refine wpS_store rfl rfl rfl CellsOf.agg hS ps6 st0_8 (by kernel_rfl) rfl (fun w hS hB => ?_)
      refine wpS_quick 1 rfl ?_
      refine wpS_nil ?_
      refine QH_seq_k hK16 ?_
      refine wpC_ret ?_
      refine QH_ret rfl (RV.cell rfl (load_boxA ag_26 hS hs6 sg0_8) (RV.tmp rfl RV.nil)) rfl ?_
      obtain rfl := Option.some.inj H
      have hS := hS.front 0 rfl
      replace hS := hS.cut 1
      exact ⟨A31, c32, rfl, k33, hS⟩
    · replace H := cond_f H hb
      refine wpS_put rfl rfl rfl (yv_load_boxA ag_26 rfl (RW.here _) hS hs1 trivial sg0_8) ?_
      obtain ⟨r35, hm36, H⟩ := bind_some H
      refine wpS_call rfl rfl rfl rfl (by kernel_rfl) rfl (c_ref12_Right (⟨r7.snap, r7.log, x1, x2⟩ : Tu) A9 c10 _ (SlI.of_rd k11 (hS.row_rd hs4) (hS.row_blk hs4)) hm36) ?_
      rintro e w ⟨rfl, hN⟩; refine ⟨_, rfl, ?_⟩; have hB := hN.pure; have hS := hS.join hN; clear hN
      refine wpS_put rfl rfl rfl (yv_not rfl) ?_
      refine wpS_quick 1 rfl ?_
      refine wpS_nil ?_
      refine QH_seq_k hK25 ?_
      refine wpC_cond rfl (fun hb => ?_) (fun hb => ?_)
      · replace H := cond_t H hb
        refine wpC_seq_k (fun K hK37 => ?_)
        refine wpC_region ?_
        refine wpS_put rfl rfl rfl (yv_load_boxA ag_26 rfl (RW.here _) hS hs2 trivial sg0_8) ?_
        obtain ⟨r38, hm39, H⟩ := bind_some H
        refine wpS_call rfl rfl rfl rfl (by kernel_rfl) rfl (c_ref12_Own x0 A0_ c0_ _ (SlI.of_rd s0_.k (hS.rd0 s0_.rd) (hS.blk0 s0_.blk)) hm39) ?_
        rintro e w ⟨A40, c41, rfl, k42, hN⟩; refine ⟨_, rfl, ?_⟩; have hB := hN.pure; have hS := hS.join hN; clear hN
        refine wpS_store rfl rfl rfl CellsOf.agg hS ps1 st0_8 (by kernel_rfl) rfl (fun w hS hB => ?_)
        refine wpS_quick 1 rfl ?_
        refine wpS_nil ?_
        refine QH_seq_k hK37 ?_
        refine wpC_ret ?_
        refine QH_then_ret ?_
        refine QH_ret rfl (RV.cell rfl (load_boxA ag_26 hS hs1 sg0_8) (RV.tmp rfl RV.nil)) rfl ?_
        refine ⟨_, rfl, ?_⟩
        refine wpS_put rfl rfl rfl (yv_extract rfl rfl) ?_
        refine wpS_put rfl rfl rfl (yv_extract rfl rfl) ?_
        refine wpS_store rfl rfl rfl CellsOf.agg hS ps6 st0_8 (by kernel_rfl) rfl (fun w hS hB => ?_)
        refine wpS_quick 1 rfl ?_
        refine wpS_nil ?_
        refine QH_seq_k hK16 ?_
        refine wpC_ret ?_
        refine QH_ret rfl (RV.cell rfl (load_boxA ag_26 hS hs6 sg0_8) (RV.tmp rfl RV.nil)) rfl ?_
        obtain rfl := Option.some.inj H
        have hS := hS.front 0 rfl
        replace hS := hS.cut 1
        exact ⟨A40, c41, rfl, k42, hS⟩
      · replace H := cond_f H hb
        refine wpC_skip ?_
        refine QH_seq_k hK24 ?_
        refine wpC_seq_k (fun K hK44 => ?_)
        refine wpC_region ?_
        refine wpS_put rfl rfl rfl (yv_load_boxA ag_26 rfl (RW.here _) hS hs1 trivial sg0_8) ?_
        refine wpS_store rfl rfl rfl CellsOf.agg hS ps0 st0_8 (by kernel_rfl) rfl (fun w hS hB => ?_)
        refine wpS_quick 1 rfl ?_
        refine wpS_nil ?_
        refine QH_seq_k hK44 ?_
        refine wpC_ret ?_
        refine QH_ret rfl (RV.cell rfl (load_boxA ag_26 hS hs0 sg0_8) (RV.tmp rfl RV.nil)) rfl ?_
        refine ⟨_, rfl, ?_⟩
        refine wpS_put rfl rfl rfl (yv_extract rfl rfl) ?_
        refine wpS_put rfl rfl rfl (yv_extract rfl rfl) ?_
        refine wpS_store rfl rfl rfl CellsOf.agg hS ps5 st0_8 (by kernel_rfl) rfl (fun w hS hB => ?_)
        refine wpS_quick 1 rfl ?_
        refine wpS_nil ?_
        refine QH_seq_k hK16 ?_
        refine wpC_ret ?_
        refine QH_ret rfl (RV.cell rfl (load_boxA ag_26 hS hs5 sg0_8) (RV.tmp rfl RV.nil)) rfl ?_
        obtain rfl := Option.some.inj H
        have hS := hS.front 4 rfl
        replace hS := hS.cut 1
        exact ⟨A9, c10, rfl, k11, hS⟩
  · replace H := cond_f H hb
    refine wpS_quick 1 rfl ?_
    refine wpS_put rfl rfl rfl (yv_fieldAddr fo_26_2 rfl) ?_
    refine wpS_put rfl rfl rfl (yv_load_box sc_3 rfl (RW.here _) hS hs3 trivial sg6_1) ?_
    refine wpS_put rfl rfl rfl (yv_eql rfl rfl) ?_
    refine wpS_quick 1 rfl ?_
    refine wpS_case 26 rfl (fun hb => ?_) (fun hb => ?_)
    · replace H := cond_t H hb
      refine wpS_put rfl rfl rfl (yv_fieldAddr fo_26_3 rfl) ?_
      refine wpS_put rfl rfl rfl (yv_load_box sc_3 rfl (RW.here _) hS hs3 trivial sg7_1) ?_
      refine wpS_put rfl rfl rfl (yv_eql rfl rfl) ?_
      refine wpS_quick 1 rfl ?_
      refine wpS_case 30 rfl (fun hb => ?_) (fun hb => ?_)
      · replace H := cond_t H hb
        refine wpS_quick 7 rfl ?_
        refine wpS_in rfl rfl rfl rfl (by kernel_rfl) rfl ?_
        show Calls _ _ #[_, _, _] _ _
        refine gw_enter3 Try.func52 rfl Try.ntmps52 rfl ?_
        refine wpC_seq_k (fun K hK45 => ?_)
        refine wpC_region ?_
        refine wpS_box rfl rfl rfl CellsOf.agg hS (fun b46 w hS hB => ?_)
        refine wpS_box rfl rfl rfl CellsOf.agg hS (fun b48 w hS hB => ?_)
        refine wpS_alloc rfl rfl zc_26 hS (fun b50 w hS hB => ?_)
        refine wpS_quick 1 rfl ?_
        refine wpS_nil ?_
        refine QH_seq_k hK45 ?_
        refine wpC_seq_k (fun K hK52 => ?_)
        refine wpC_seq_k (fun K hK53 => ?_)
        refine wpC_region ?_
        refine wpS_quick 1 rfl ?_
        refine wpS_put rfl rfl rfl (yv_not rfl) ?_
        refine wpS_quick 1 rfl ?_
        refine wpS_put rfl rfl rfl (yv_load_boxA ag_26 rfl (RW.here _) hS hs2 trivial sg0_8) ?_
        obtain ⟨r54, hm55, H⟩ := bind_some H
        refine wpS_call rfl rfl rfl rfl (by kernel_rfl) rfl (c_ref12_Right x0 A0_ c0_ _ (SlI.of_rd s0_.k (hS.rd0 s0_.rd) (hS.blk0 s0_.blk)) hm55) ?_
        rintro e w ⟨rfl, hN⟩; refine ⟨_, rfl, ?_⟩; have hB := hN.pure; have hS := hS.join hN; clear hN
        refine wpS_put rfl rfl rfl (yv_not rfl) ?_
        refine wpS_quick 2 rfl ?_
        refine wpS_case 15 rfl (fun hb => ?_) (fun hb => ?_)
        · replace H := cond_t H hb
          refine wpS_quick 4 rfl ?_
          refine wpS_nil ?_
          refine QH_seq_k hK53 ?_
          refine wpC_cond_t rfl rfl ?_
          refine wpC_seq_k (fun K hK56 => ?_)
          refine wpC_region ?_
          refine wpS_put rfl rfl rfl (yv_load_boxA ag_26 rfl (RW.here _) hS hs2 trivial sg0_8) ?_
          obtain ⟨r57, hm58, H⟩ := bind_some H
          refine wpS_call rfl rfl rfl rfl (by kernel_rfl) rfl (c_ref12_Own x0 A0_ c0_ _ (SlI.of_rd s0_.k (hS.rd0 s0_.rd) (hS.blk0 s0_.blk)) hm58) ?_
          rintro e w ⟨A59, c60, rfl, k61, hN⟩; refine ⟨_, rfl, ?_⟩; have hB := hN.pure; have hS := hS.join hN; clear hN
          refine wpS_store rfl rfl rfl CellsOf.agg hS ps1 st0_8 (by kernel_rfl) rfl (fun w hS hB => ?_)
          refine wpS_quick 1 rfl ?_
          refine wpS_nil ?_
          refine QH_seq_k hK56 ?_
          refine wpC_ret ?_
          refine QH_then_ret ?_
          refine QH_ret rfl (RV.cell rfl (load_boxA ag_26 hS hs1 sg0_8) (RV.tmp rfl RV.nil)) rfl ?_
          refine ⟨_, rfl, ?_⟩
          refine wpS_put rfl rfl rfl (yv_extract rfl rfl) ?_
          refine wpS_put rfl rfl rfl (yv_extract rfl rfl) ?_
          refine wpS_store rfl rfl rfl CellsOf.agg hS ps6 st0_8 (by kernel_rfl) rfl (fun w hS hB => ?_)
          refine wpS_quick 1 rfl ?_
          refine wpS_nil ?_
          refine QH_seq_k hK16 ?_
          refine wpC_ret ?_
          refine QH_ret rfl (RV.cell rfl (load_boxA ag_26 hS hs6 sg0_8) (RV.tmp rfl RV.nil)) rfl ?_
          obtain rfl := Option.some.inj H
          have hS := hS.front 0 rfl
          replace hS := hS.cut 1
          exact ⟨A59, c60, rfl, k61, hS⟩
        · replace H := cond_f H hb
          refine wpS_put rfl rfl rfl (yv_load_boxA ag_26 rfl (RW.here _) hS hs1 trivial sg0_8) ?_
          obtain ⟨r63, hm64, H⟩ := bind_some H
          refine wpS_call rfl rfl rfl rfl (by kernel_rfl) rfl (c_ref12_Right (⟨r7.snap, r7.log, x1, x2⟩ : Tu) A9 c10 _ (SlI.of_rd k11 (hS.row_rd hs4) (hS.row_blk hs4)) hm64) ?_
          rintro e w ⟨rfl, hN⟩; refine ⟨_, rfl, ?_⟩; have hB := hN.pure; have hS := hS.join hN; clear hN
          refine wpS_put rfl rfl rfl (yv_not rfl) ?_
          refine wpS_quick 1 rfl ?_
          refine wpS_nil ?_
          refine QH_seq_k hK53 ?_
          refine wpC_cond rfl (fun hb => ?_) (fun hb => ?_)
          · replace H := cond_t H hb
            refine wpC_seq_k (fun K hK65 => ?_)
            refine wpC_region ?_
            refine wpS_put rfl rfl rfl (yv_load_boxA ag_26 rfl (RW.here _) hS hs2 trivial sg0_8) ?_
            obtain ⟨r66, hm67, H⟩ := bind_some H
            refine wpS_call rfl rfl rfl rfl (by kernel_rfl) rfl (c_ref12_Own x0 A0_ c0_ _ (SlI.of_rd s0_.k (hS.rd0 s0_.rd) (hS.blk0 s0_.blk)) hm67) ?_
            rintro e w ⟨A68, c69, rfl, k70, hN⟩; refine ⟨_, rfl, ?_⟩; have hB := hN.pure; have hS := hS.join hN; clear hN
            refine wpS_store rfl rfl rfl CellsOf.agg hS ps1 st0_8 (by kernel_rfl) rfl (fun w hS hB => ?_)
            refine wpS_quick 1 rfl ?_
            refine wpS_nil ?_
            refine QH_seq_k hK65 ?_
            refine wpC_ret ?_
            refine QH_then_ret ?_
            refine QH_ret rfl (RV.cell rfl (load_boxA ag_26 hS hs1 sg0_8) (RV.tmp rfl RV.nil)) rfl ?_
            refine ⟨_, rfl, ?_⟩
            refine wpS_put rfl rfl rfl (yv_extract rfl rfl) ?_
            refine wpS_put rfl rfl rfl (yv_extract rfl rfl) ?_
            refine wpS_store rfl rfl rfl CellsOf.agg hS ps6 st0_8 (by kernel_rfl) rfl (fun w hS hB => ?_)
            refine wpS_quick 1 rfl ?_
            refine wpS_nil ?_
            refine QH_seq_k hK16 ?_
            refine wpC_ret ?_
            refine QH_ret rfl (RV.cell rfl (load_boxA ag_26 hS hs6 sg0_8) (RV.tmp rfl RV.nil)) rfl ?_
            obtain rfl := Option.some.inj H
            have hS := hS.front 0 rfl
            replace hS := hS.cut 1
            exact ⟨A68, c69, rfl, k70, hS⟩
          · replace H := cond_f H hb
            refine wpC_skip ?_
            refine QH_seq_k hK52 ?_
            refine wpC_seq_k (fun K hK72 => ?_)
            refine wpC_region ?_
            refine wpS_put rfl rfl rfl (yv_load_boxA ag_26 rfl (RW.here _) hS hs1 trivial sg0_8) ?_
            refine wpS_store rfl rfl rfl CellsOf.agg hS ps0 st0_8 (by kernel_rfl) rfl (fun w hS hB => ?_)
            refine wpS_quick 1 rfl ?_
            refine wpS_nil ?_
            refine QH_seq_k hK72 ?_
            refine wpC_ret ?_
            refine QH_ret rfl (RV.cell rfl (load_boxA ag_26 hS hs0 sg0_8) (RV.tmp rfl RV.nil)) rfl ?_
            refine ⟨_, rfl, ?_⟩
            refine wpS_put rfl rfl rfl (yv_extract rfl rfl) ?_
            refine wpS_put rfl rfl rfl (yv_extract rfl rfl) ?_
            refine wpS_store rfl rfl rfl CellsOf.agg hS ps5 st0_8 (by kernel_rfl) rfl (fun w hS hB => ?_)
            refine wpS_quick 1 rfl ?_
            refine wpS_nil ?_
            refine QH_seq_k hK16 ?_
            refine wpC_ret ?_
            refine QH_ret rfl (RV.cell rfl (load_boxA ag_26 hS hs5 sg0_8) (RV.tmp rfl RV.nil)) rfl ?_
            obtain rfl := Option.some.inj H
            have hS := hS.front 4 rfl
            replace hS := hS.cut 1
            exact ⟨A9, c10, rfl, k11, hS⟩
      · replace H := cond_f H hb
        refine wpS_put rfl rfl rfl (yv_fieldAddr fo_26_3 rfl) ?_
        refine wpS_put rfl rfl rfl (yv_load_box sc_3 rfl (RW.here _) hS hs3 trivial sg7_1) ?_
        refine wpS_quick 1 rfl ?_
        refine wpS_put rfl rfl rfl (yv_eql rfl rfl) ?_
        refine wpS_quick 3 rfl ?_
        refine wpS_in rfl rfl rfl rfl (by kernel_rfl) rfl ?_
        show Calls _ _ #[_, _, _] _ _
        refine gw_enter3 Try.func52 rfl Try.ntmps52 rfl ?_
        refine wpC_seq_k (fun K hK73 => ?_)
        refine wpC_region ?_
        refine wpS_box rfl rfl rfl CellsOf.agg hS (fun b74 w hS hB => ?_)
        refine wpS_box rfl rfl rfl CellsOf.agg hS (fun b76 w hS hB => ?_)
        refine wpS_alloc rfl rfl zc_26 hS (fun b78 w hS hB => ?_)
        refine wpS_quick 1 rfl ?_
        refine wpS_nil ?_
        refine QH_seq_k hK73 ?_
        refine wpC_seq_k (fun K hK80 => ?_)
        refine wpC_seq_k (fun K hK81 => ?_)
        refine wpC_region ?_
        refine wpS_quick 1 rfl ?_
        refine wpS_put rfl rfl rfl (yv_not rfl) ?_
        refine wpS_quick 1 rfl ?_
        refine wpS_case 10 rfl (fun hb => ?_) (fun hb => ?_)
        · replace H := cond_t H hb
          refine wpS_quick 9 rfl ?_
          refine wpS_nil ?_
          refine QH_seq_k hK81 ?_
          refine wpC_cond_t rfl rfl ?_
          refine wpC_seq_k (fun K hK82 => ?_)
          refine wpC_region ?_
          refine wpS_put rfl rfl rfl (yv_load_boxA ag_26 rfl (RW.here _) hS hs2 trivial sg0_8) ?_
          obtain ⟨r83, hm84, H⟩ := bind_some H
          refine wpS_call rfl rfl rfl rfl (by kernel_rfl) rfl (c_ref12_Own x0 A0_ c0_ _ (SlI.of_rd s0_.k (hS.rd0 s0_.rd) (hS.blk0 s0_.blk)) hm84) ?_
          rintro e w ⟨A85, c86, rfl, k87, hN⟩; refine ⟨_, rfl, ?_⟩; have hB := hN.pure; have hS := hS.join hN; clear hN
          refine wpS_store rfl rfl rfl CellsOf.agg hS ps1 st0_8 (by kernel_rfl) rfl (fun w hS hB => ?_)
          refine wpS_quick 1 rfl ?_
          refine wpS_nil ?_
          refine QH_seq_k hK82 ?_
          refine wpC_ret ?_
          refine QH_then_ret ?_
          refine QH_ret rfl (RV.cell rfl (load_boxA ag_26 hS hs1 sg0_8) (RV.tmp rfl RV.nil)) rfl ?_
          refine ⟨_, rfl, ?_⟩
          refine wpS_put rfl rfl rfl (yv_extract rfl rfl) ?_
          refine wpS_put rfl rfl rfl (yv_extract rfl rfl) ?_
          refine wpS_store rfl rfl rfl CellsOf.agg hS ps6 st0_8 (by kernel_rfl) rfl (fun w hS hB => ?_)
          refine wpS_quick 1 rfl ?_
          refine wpS_nil ?_
          refine QH_seq_k hK16 ?_
          refine wpC_ret ?_
          refine QH_ret rfl (RV.cell rfl (load_boxA ag_26 hS hs6 sg0_8) (RV.tmp rfl RV.nil)) rfl ?_
          obtain rfl := Option.some.inj H
          have hS := hS.front 0 rfl
          replace hS := hS.cut 1
          exact ⟨A85, c86, rfl, k87, hS⟩
        · replace H := cond_f H hb
          refine wpS_put rfl rfl rfl (yv_load_boxA ag_26 rfl (RW.here _) hS hs2 trivial sg0_8) ?_
          obtain ⟨r89, hm90, H⟩ := bind_some H
          refine wpS_call rfl rfl rfl rfl (by kernel_rfl) rfl (c_ref12_Right x0 A0_ c0_ _ (SlI.of_rd s0_.k (hS.rd0 s0_.rd) (hS.blk0 s0_.blk)) hm90) ?_
          rintro e w ⟨rfl, hN⟩; refine ⟨_, rfl, ?_⟩; have hB := hN.pure; have hS := hS.join hN; clear hN
          refine wpS_put rfl rfl rfl (yv_not rfl) ?_
          refine wpS_quick 2 rfl ?_
          refine wpS_case 15 rfl (fun hb => ?_) (fun hb => ?_)
          · replace H := cond_t H hb
            refine wpS_quick 4 rfl ?_
            refine wpS_nil ?_
            refine QH_seq_k hK81 ?_
            refine wpC_cond_t rfl rfl ?_
            refine wpC_seq_k (fun K hK91 => ?_)
            refine wpC_region ?_
            refine wpS_put rfl rfl rfl (yv_load_boxA ag_26 rfl (RW.here _) hS hs2 trivial sg0_8) ?_
            obtain ⟨r92, hm93, H⟩ := bind_some H
            refine wpS_call rfl rfl rfl rfl (by kernel_rfl) rfl (c_ref12_Own x0 A0_ c0_ _ (SlI.of_rd s0_.k (hS.rd0 s0_.rd) (hS.blk0 s0_.blk)) hm93) ?_
            rintro e w ⟨A94, c95, rfl, k96, hN⟩; refine ⟨_, rfl, ?_⟩; have hB := hN.pure; have hS := hS.join hN; clear hN
            refine wpS_store rfl rfl rfl CellsOf.agg hS ps1 st0_8 (by kernel_rfl) rfl (fun w hS hB => ?_)
            refine wpS_quick 1 rfl ?_
            refine wpS_nil ?_
            refine QH_seq_k hK91 ?_
            refine wpC_ret ?_
            refine QH_then_ret ?_
            refine QH_ret rfl (RV.cell rfl (load_boxA ag_26 hS hs1 sg0_8) (RV.tmp rfl RV.nil)) rfl ?_
            refine ⟨_, rfl, ?_⟩
            refine wpS_put rfl rfl rfl (yv_extract rfl rfl) ?_
            refine wpS_put rfl rfl rfl (yv_extract rfl rfl) ?_
            refine wpS_store rfl rfl rfl CellsOf.agg hS ps6 st0_8 (by kernel_rfl) rfl (fun w hS hB => ?_)
            refine wpS_quick 1 rfl ?_
            refine wpS_nil ?_
            refine QH_seq_k hK16 ?_
            refine wpC_ret ?_
            refine QH_ret rfl (RV.cell rfl (load_boxA ag_26 hS hs6 sg0_8) (RV.tmp rfl RV.nil)) rfl ?_
            obtain rfl := Option.some.inj H
            have hS := hS.front 0 rfl
            replace hS := hS.cut 1
            exact ⟨A94, c95, rfl, k96, hS⟩
          · replace H := cond_f H hb
            refine wpS_put rfl rfl rfl (yv_load_boxA ag_26 rfl (RW.here _) hS hs1 trivial sg0_8) ?_
            obtain ⟨r98, hm99, H⟩ := bind_some H
            refine wpS_call rfl rfl rfl rfl (by kernel_rfl) rfl (c_ref12_Right (⟨r7.snap, r7.log, x1, x2⟩ : Tu) A9 c10 _ (SlI.of_rd k11 (hS.row_rd hs4) (hS.row_blk hs4)) hm99) ?_
            rintro e w ⟨rfl, hN⟩; refine ⟨_, rfl, ?_⟩; have hB := hN.pure; have hS := hS.join hN; clear hN
            refine wpS_put rfl rfl rfl (yv_not rfl) ?_
            refine wpS_quick 1 rfl ?_
            refine wpS_nil ?_
            refine QH_seq_k hK81 ?_
            refine wpC_cond rfl (fun hb => ?_) (fun hb => ?_)
            · replace H := cond_t H hb
              refine wpC_seq_k (fun K hK100 => ?_)
              refine wpC_region ?_
              refine wpS_put rfl rfl rfl (yv_load_boxA ag_26 rfl (RW.here _) hS hs2 trivial sg0_8) ?_
              obtain ⟨r101, hm102, H⟩ := bind_some H
              refine wpS_call rfl rfl rfl rfl (by kernel_rfl) rfl (c_ref12_Own x0 A0_ c0_ _ (SlI.of_rd s0_.k (hS.rd0 s0_.rd) (hS.blk0 s0_.blk)) hm102) ?_
              rintro e w ⟨A103, c104, rfl, k105, hN⟩; refine ⟨_, rfl, ?_⟩; have hB := hN.pure; have hS := hS.join hN; clear hN
              refine wpS_store rfl rfl rfl CellsOf.agg hS ps1 st0_8 (by kernel_rfl) rfl (fun w hS hB => ?_)
              refine wpS_quick 1 rfl ?_
              refine wpS_nil ?_
              refine QH_seq_k hK100 ?_
              refine wpC_ret ?_
              refine QH_then_ret ?_
              refine QH_ret rfl (RV.cell rfl (load_boxA ag_26 hS hs1 sg0_8) (RV.tmp rfl RV.nil)) rfl ?_
              refine ⟨_, rfl, ?_⟩
              refine wpS_put rfl rfl rfl (yv_extract rfl rfl) ?_
              refine wpS_put rfl rfl rfl (yv_extract rfl rfl) ?_
              refine wpS_store rfl rfl rfl CellsOf.agg hS ps6 st0_8 (by kernel_rfl) rfl (fun w hS hB => ?_)
              refine wpS_quick 1 rfl ?_
              refine wpS_nil ?_
              refine QH_seq_k hK16 ?_
              refine wpC_ret ?_
              refine QH_ret rfl (RV.cell rfl (load_boxA ag_26 hS hs6 sg0_8) (RV.tmp rfl RV.nil)) rfl ?_
              obtain rfl := Option.some.inj H
              have hS := hS.front 0 rfl
              replace hS := hS.cut 1
              exact ⟨A103, c104, rfl, k105, hS⟩
            · replace H := cond_f H hb
              refine wpC_skip ?_
              refine QH_seq_k hK80 ?_
              refine wpC_seq_k (fun K hK107 => ?_)
              refine wpC_region ?_
              refine wpS_put rfl rfl rfl (yv_load_boxA ag_26 rfl (RW.here _) hS hs1 trivial sg0_8) ?_
              refine wpS_store rfl rfl rfl CellsOf.agg hS ps0 st0_8 (by kernel_rfl) rfl (fun w hS hB => ?_)
              refine wpS_quick 1 rfl ?_
              refine wpS_nil ?_
              refine QH_seq_k hK107 ?_
              refine wpC_ret ?_
              refine QH_ret rfl (RV.cell rfl (load_boxA ag_26 hS hs0 sg0_8) (RV.tmp rfl RV.nil)) rfl ?_
              refine ⟨_, rfl, ?_⟩
              refine wpS_put rfl rfl rfl (yv_extract rfl rfl) ?_
              refine wpS_put rfl rfl rfl (yv_extract rfl rfl) ?_
              refine wpS_store rfl rfl rfl CellsOf.agg hS ps5 st0_8 (by kernel_rfl) rfl (fun w hS hB => ?_)
              refine wpS_quick 1 rfl ?_
              refine wpS_nil ?_
              refine QH_seq_k hK16 ?_
              refine wpC_ret ?_
              refine QH_ret rfl (RV.cell rfl (load_boxA ag_26 hS hs5 sg0_8) (RV.tmp rfl RV.nil)) rfl ?_
              obtain rfl := Option.some.inj H
              have hS := hS.front 4 rfl
              replace hS := hS.cut 1
              exact ⟨A9, c10, rfl, k11, hS⟩
    · replace H := cond_f H hb
      refine wpS_quick 11 rfl ?_
      refine wpS_in rfl rfl rfl rfl (by kernel_rfl) rfl ?_
      show Calls _ _ #[_, _, _] _ _
      refine gw_enter3 Try.func52 rfl Try.ntmps52 rfl ?_
      refine wpC_seq_k (fun K hK108 => ?_)
      refine wpC_region ?_
      refine wpS_box rfl rfl rfl CellsOf.agg hS (fun b109 w hS hB => ?_)
      refine wpS_box rfl rfl rfl CellsOf.agg hS (fun b111 w hS hB => ?_)
      refine wpS_alloc rfl rfl zc_26 hS (fun b113 w hS hB => ?_)
      refine wpS_quick 1 rfl ?_
      refine wpS_nil ?_
      refine QH_seq_k hK108 ?_
      refine wpC_seq_k (fun K hK115 => ?_)
      refine wpC_seq_k (fun K hK116 => ?_)
      refine wpC_region ?_
      refine wpS_quick 1 rfl ?_
      refine wpS_put rfl rfl rfl (yv_not rfl) ?_
      refine wpS_quick 10 rfl ?_
      refine wpS_nil ?_
      refine QH_seq_k hK116 ?_
      refine wpC_cond_t rfl rfl ?_
      refine wpC_seq_k (fun K hK117 => ?_)
      refine wpC_region ?_
      refine wpS_put rfl rfl rfl (yv_load_boxA ag_26 rfl (RW.here _) hS hs2 trivial sg0_8) ?_
      obtain ⟨r118, hm119, H⟩ := bind_some H
      refine wpS_call rfl rfl rfl rfl (by kernel_rfl) rfl (c_ref12_Own x0 A0_ c0_ _ (SlI.of_rd s0_.k (hS.rd0 s0_.rd) (hS.blk0 s0_.blk)) hm119) ?_
      rintro e w ⟨A120, c121, rfl, k122, hN⟩; refine ⟨_, rfl, ?_⟩; have hB := hN.pure; have hS := hS.join hN; clear hN
      refine wpS_store rfl rfl rfl CellsOf.agg hS ps1 st0_8 (by kernel_rfl) rfl (fun w hS hB => ?_)
      refine wpS_quick 1 rfl ?_
      refine wpS_nil ?_
      refine QH_seq_k hK117 ?_
      refine wpC_ret ?_
      refine QH_then_ret ?_
      refine QH_ret rfl (RV.cell rfl (load_boxA ag_26 hS hs1 sg0_8) (RV.tmp rfl RV.nil)) rfl ?_
      refine ⟨_, rfl, ?_⟩
      refine wpS_put rfl rfl rfl (yv_extract rfl rfl) ?_
      refine wpS_put rfl rfl rfl (yv_extract rfl rfl) ?_
      refine wpS_store rfl rfl rfl CellsOf.agg hS ps6 st0_8 (by kernel_rfl) rfl (fun w hS hB => ?_)
      refine wpS_quick 1 rfl ?_
      refine wpS_nil ?_
      refine QH_seq_k hK16 ?_
      refine wpC_ret ?_
      refine QH_ret rfl (RV.cell rfl (load_boxA ag_26 hS hs6 sg0_8) (RV.tmp rfl RV.nil)) rfl ?_
      obtain rfl := Option.some.inj H
      have hS := hS.front 0 rfl
      replace hS := hS.cut 1
      exact ⟨A120, c121, rfl, k122, hS⟩
theorem c_ref06_Next (x0 : St) (x1 : En) (w0 : World) {r : St} (H : m_ref06_Next x0 x1 = some r) : Calls Try.prog 66 #[.agg #[.int .i64 x0.index, .int .i64 x0.term, .int .i64 x0.sum, .int .i64 x0.level, .bool x0.final], .agg #[.int .i64 x1.term, .int .i64 x1.kind, .int .i64 x1.value]] w0 fun e w' => e = .returned (.agg #[.int .i64 r.index, .int .i64 r.term, .int .i64 r.sum, .int .i64 r.level, .bool r.final]) ∧ St0 All w0 w' [] := by
  unfold m_ref06_Next at H
  refine gw_enter2 Try.func66 rfl Try.ntmps66 rfl ?_
  have hS := St0.start All w0
  refine wpC_seq_k (fun K hK1 => ?_)
  refine wpC_region ?_
  refine wpS_box rfl rfl rfl CellsOf.agg hS (fun b2 w hS hB => ?_)
  refine wpS_box rfl rfl rfl CellsOf.agg hS (fun b4 w hS hB => ?_)
  refine wpS_alloc rfl rfl zc_23 hS (fun b6 w hS hB => ?_)
  refine wpS_nil ?_
  refine QH_seq_k hK1 ?_
  refine wpC_seq_k (fun K hK8 => ?_)
  refine wpC_seq_k (fun K hK9 => ?_)
  refine wpC_region ?_
  refine wpS_put rfl rfl rfl (yv_load_boxA ag_50 rfl (RW.here _) hS hs1 trivial sg0_3) ?_
  obtain ⟨r10, hm11, H⟩ := bind_some H
  refine wpS_call rfl rfl rfl rfl (by kernel_rfl) rfl (c_ref06_Right x1 _ hm11) ?_
  rintro e w ⟨rfl, hN⟩; refine ⟨_, rfl, ?_⟩; have hB := hN.pure; have hS := hS.join hN; clear hN
  refine wpS_put rfl rfl rfl (yv_not rfl) ?_
  refine wpS_quick 1 rfl ?_
  refine wpS_case 8 rfl (fun hb => ?_) (fun hb => ?_)
  · replace H := cond_t H hb
    refine wpS_quick 9 rfl ?_
    refine wpS_nil ?_
    refine QH_seq_k hK9 ?_
    refine wpC_cond_t rfl rfl ?_
    refine wpC_seq_k (fun K hK12 => ?_)
    refine wpC_region ?_
    refine wpS_put rfl rfl rfl (yv_load_boxA ag_23 rfl (RW.here _) hS hs2 trivial sg0_5) ?_
    refine wpS_store rfl rfl rfl CellsOf.agg hS ps0 st0_5 (by kernel_rfl) rfl (fun w hS hB => ?_)
    refine wpS_nil ?_
    refine QH_seq_k hK12 ?_
    refine wpC_ret ?_
    refine QH_then_ret ?_
    refine QH_ret rfl (RV.cell rfl (load_boxA ag_23 hS hs0 sg0_5) RV.nil) rfl ?_
    obtain rfl := Option.some.inj H
    replace hS := hS.cut 0
    exact ⟨rfl, hS⟩
  · replace H := cond_f H hb
    refine wpS_put rfl rfl rfl (yv_load_boxA ag_23 rfl (RW.here _) hS hs2 trivial sg0_5) ?_
    obtain ⟨r13, hm14, H⟩ := bind_some H
    refine wpS_call rfl rfl rfl rfl (by kernel_rfl) rfl (c_ref06_Fine x0 _ hm14) ?_
    rintro e w ⟨rfl, hN⟩; refine ⟨_, rfl, ?_⟩; have hB := hN.pure; have hS := hS.join hN; clear hN
    refine wpS_put rfl rfl rfl (yv_not rfl) ?_
    refine wpS_quick 2 rfl ?_
    refine wpS_case 13 rfl (fun hb => ?_) (fun hb => ?_)
    · replace H := cond_t H hb
      refine wpS_quick 4 rfl ?_
      refine wpS_nil ?_
      refine QH_seq_k hK9 ?_
      refine wpC_cond_t rfl rfl ?_
      refine wpC_seq_k (fun K hK15 => ?_)
      refine wpC_region ?_
      refine wpS_put rfl rfl rfl (yv_load_boxA ag_23 rfl (RW.here _) hS hs2 trivial sg0_5) ?_
      refine wpS_store rfl rfl rfl CellsOf.agg hS ps0 st0_5 (by kernel_rfl) rfl (fun w hS hB => ?_)
      refine wpS_nil ?_
      refine QH_seq_k hK15 ?_
      refine wpC_ret ?_
      refine QH_then_ret ?_
      refine QH_ret rfl (RV.cell rfl (load_boxA ag_23 hS hs0 sg0_5) RV.nil) rfl ?_
      obtain rfl := Option.some.inj H
      replace hS := hS.cut 0
      exact ⟨rfl, hS⟩
    · replace H := cond_f H hb
      refine wpS_put rfl rfl rfl (yv_fieldAddr fo_23_0 rfl) ?_
      refine wpS_put rfl rfl rfl (yv_load_box sc_3 rfl (RW.here _) hS hs2 trivial sg0_1) ?_
      refine wpS_put rfl rfl rfl (yv_geq rfl rfl) ?_
      refine wpS_quick 1 rfl ?_
      refine wpS_nil ?_
      refine QH_seq_k hK9 ?_
      refine wpC_cond rfl (fun hb => ?_) (fun hb => ?_)
      · replace H := cond_t H hb
        refine wpC_seq_k (fun K hK16 => ?_)
        refine wpC_region ?_
        refine wpS_put rfl rfl rfl (yv_load_boxA ag_23 rfl (RW.here _) hS hs2 trivial sg0_5) ?_
        refine wpS_store rfl rfl rfl CellsOf.agg hS ps0 st0_5 (by kernel_rfl) rfl (fun w hS hB => ?_)
        refine wpS_nil ?_
        refine QH_seq_k hK16 ?_
        refine wpC_ret ?_
        refine QH_then_ret ?_
        refine QH_ret rfl (RV.cell rfl (load_boxA ag_23 hS hs0 sg0_5) RV.nil) rfl ?_
        obtain rfl := Option.some.inj H
        replace hS := hS.cut 0
        exact ⟨rfl, hS⟩
      · replace H := cond_f H hb
        refine wpC_skip ?_
        refine QH_seq_k hK8 ?_
        refine wpC_seq_k (fun K hK17 => ?_)
        refine wpC_region ?_
        refine wpS_put rfl rfl rfl (yv_fieldAddr fo_23_0 rfl) ?_
        refine wpS_put rfl rfl rfl (yv_load_box sc_3 rfl (RW.here _) hS hs2 trivial sg0_1) ?_
        refine wpS_put rfl rfl rfl (yx_add rfl rfl) ?_
        refine wpS_put rfl rfl rfl (yv_fieldAddr fo_23_0 rfl) ?_
        refine wpS_store rfl rfl rfl CellsOf.int hS ps2 st0_1 (by kernel_rfl) rfl (fun w hS hB => ?_)
        refine wpS_nil ?_
        refine QH_seq_k hK17 ?_
        refine wpC_seq_k (fun K hK18 => ?_)
        refine wpC_region ?_
        refine wpS_put rfl rfl rfl (yv_fieldAddr fo_50_0 rfl) ?_
        refine wpS_put rfl rfl rfl (yv_load_box sc_3 rfl (RW.here _) hS hs1 trivial sg0_1) ?_
        refine wpS_put rfl rfl rfl (yv_fieldAddr fo_23_1 rfl) ?_
        refine wpS_store rfl rfl rfl CellsOf.int hS ps2 st1_1 (by kernel_rfl) rfl (fun w hS hB => ?_)
        refine wpS_nil ?_
        refine QH_seq_k hK18 ?_
        refine wpC_seq_k (fun K hK19 => ?_)
        refine wpC_seq_k (fun K hK20 => ?_)
        refine wpC_region ?_
        refine wpS_put rfl rfl rfl (yv_fieldAddr fo_50_1 rfl) ?_
        refine wpS_put rfl rfl rfl (yv_load_box sc_3 rfl (RW.here _) hS hs1 trivial sg1_1) ?_
        refine wpS_nil ?_
        refine QH_seq_k hK20 ?_
        refine wpC_block ?_
        refine wpC_seq_k (fun K hK21 => ?_)
        refine wpC_region ?_
        refine wpS_put rfl rfl rfl (yv_eql rfl rfl) ?_
        refine wpS_quick 1 rfl ?_
        refine wpS_nil ?_
        refine QH_seq_k hK21 ?_
        refine wpC_cond rfl (fun hb => ?_) (fun hb => ?_)
        · replace H := cond_t H hb
          refine wpC_region ?_
          refine wpS_put rfl rfl rfl (yv_fieldAddr fo_23_2 rfl) ?_
          refine wpS_put rfl rfl rfl (yv_load_box sc_3 rfl (RW.here _) hS hs2 trivial sg2_1) ?_
          refine wpS_put rfl rfl rfl (yx_mul rfl rfl) ?_
          refine wpS_put rfl rfl rfl (yv_fieldAddr fo_50_2 rfl) ?_
          refine wpS_put rfl rfl rfl (yv_load_box sc_3 rfl (RW.here _) hS hs1 trivial sg2_1) ?_
          refine wpS_put rfl rfl rfl (yx_add rfl rfl) ?_
          refine wpS_put rfl rfl rfl (yx_add rfl rfl) ?_
          refine wpS_put rfl rfl rfl (yx_rem rfl rfl (by decide)) ?_
          refine wpS_put rfl rfl rfl (yv_fieldAddr fo_23_2 rfl) ?_
          refine wpS_store rfl rfl rfl CellsOf.int hS ps2 st2_1 (by kernel_rfl) rfl (fun w hS hB => ?_)
          refine wpS_nil ?_
          refine QH_block_normal ?_
          refine QH_seq_k hK19 ?_
          refine wpC_seq_k (fun K hK22 => ?_)
          refine wpC_region ?_
          refine wpS_put rfl rfl rfl (yv_load_boxA ag_23 rfl (RW.here _) hS hs2 trivial sg0_5) ?_
          refine wpS_store rfl rfl rfl CellsOf.agg hS ps0 st0_5 (by kernel_rfl) rfl (fun w hS hB => ?_)
          refine wpS_nil ?_
          refine QH_seq_k hK22 ?_
          refine wpC_ret ?_
          refine QH_ret rfl (RV.cell rfl (load_boxA ag_23 hS hs0 sg0_5) RV.nil) rfl ?_
          obtain rfl := Option.some.inj H
          replace hS := hS.cut 0
          exact ⟨rfl, hS⟩
        · replace H := cond_f H hb
          refine wpC_seq_k (fun K hK23 => ?_)
          refine wpC_region ?_
          refine wpS_put rfl rfl rfl (yv_eql rfl rfl) ?_
          refine wpS_quick 1 rfl ?_
          refine wpS_nil ?_
          refine QH_seq_k hK23 ?_
          refine wpC_cond rfl (fun hb => ?_) (fun hb => ?_)
          · replace H := cond_t H hb
            refine wpC_region ?_
            refine wpS_put rfl rfl rfl (yv_fieldAddr fo_23_3 rfl) ?_
            refine wpS_store rfl rfl rfl CellsOf.int hS ps2 st3_1 (by kernel_rfl) rfl (fun w hS hB => ?_)
            refine wpS_nil ?_
            refine QH_block_normal ?_
            refine QH_seq_k hK19 ?_
            refine wpC_seq_k (fun K hK24 => ?_)
            refine wpC_region ?_
            refine wpS_put rfl rfl rfl (yv_load_boxA ag_23 rfl (RW.here _) hS hs2 trivial sg0_5) ?_
            refine wpS_store rfl rfl rfl CellsOf.agg hS ps0 st0_5 (by kernel_rfl) rfl (fun w hS hB => ?_)
            refine wpS_nil ?_
            refine QH_seq_k hK24 ?_
            refine wpC_ret ?_
            refine QH_ret rfl (RV.cell rfl (load_boxA ag_23 hS hs0 sg0_5) RV.nil) rfl ?_
            obtain rfl := Option.some.inj H
            replace hS := hS.cut 0
            exact ⟨rfl, hS⟩
          · replace H := cond_f H hb
            refine wpC_seq_k (fun K hK25 => ?_)
            refine wpC_region ?_
            refine wpS_put rfl rfl rfl (yv_eql rfl rfl) ?_
            refine wpS_quick 1 rfl ?_
            refine wpS_nil ?_
            refine QH_seq_k hK25 ?_
            refine wpC_cond rfl (fun hb => ?_) (fun hb => ?_)
            · replace H := cond_t H hb
              refine wpC_seq_k (fun K hK26 => ?_)
              refine wpC_region ?_
              refine wpS_put rfl rfl rfl (yv_fieldAddr fo_23_4 rfl) ?_
              refine wpS_put rfl rfl rfl (yv_load_box sc_4 rfl (RW.here _) hS hs2 trivial sg4_1) ?_
              refine wpS_put rfl rfl rfl (yv_not rfl) ?_
              refine wpS_nil ?_
              refine QH_seq_k hK26 ?_
              refine wpC_cond rfl (fun hb => ?_) (fun hb => ?_)
              · replace H := cond_t H hb
                refine wpC_region ?_
                refine wpS_put rfl rfl rfl (yv_fieldAddr fo_23_3 rfl) ?_
                refine wpS_store rfl rfl rfl CellsOf.int hS ps2 st3_1 (by kernel_rfl) rfl (fun w hS hB => ?_)
                refine wpS_nil ?_
                refine QH_block_normal ?_
                refine QH_seq_k hK19 ?_
                refine wpC_seq_k (fun K hK27 => ?_)
                refine wpC_region ?_
                refine wpS_put rfl rfl rfl (yv_load_boxA ag_23 rfl (RW.here _) hS hs2 trivial sg0_5) ?_
                refine wpS_store rfl rfl rfl CellsOf.agg hS ps0 st0_5 (by kernel_rfl) rfl (fun w hS hB => ?_)
                refine wpS_nil ?_
                refine QH_seq_k hK27 ?_
                refine wpC_ret ?_
                refine QH_ret rfl (RV.cell rfl (load_boxA ag_23 hS hs0 sg0_5) RV.nil) rfl ?_
                obtain rfl := Option.some.inj H
                replace hS := hS.cut 0
                exact ⟨rfl, hS⟩
              · replace H := cond_f H hb
                refine wpC_skip ?_
                refine QH_block_normal ?_
                refine QH_seq_k hK19 ?_
                refine wpC_seq_k (fun K hK28 => ?_)
                refine wpC_region ?_
                refine wpS_put rfl rfl rfl (yv_load_boxA ag_23 rfl (RW.here _) hS hs2 trivial sg0_5) ?_
                refine wpS_store rfl rfl rfl CellsOf.agg hS ps0 st0_5 (by kernel_rfl) rfl (fun w hS hB => ?_)
                refine wpS_nil ?_
                refine QH_seq_k hK28 ?_
                refine wpC_ret ?_
                refine QH_ret rfl (RV.cell rfl (load_boxA ag_23 hS hs0 sg0_5) RV.nil) rfl ?_
                obtain rfl := Option.some.inj H
                replace hS := hS.cut 0
                exact ⟨rfl, hS⟩
            · replace H := cond_f H hb
              refine wpC_seq_k (fun K hK29 => ?_)
              refine wpC_region ?_
              refine wpS_put rfl rfl rfl (yv_eql rfl rfl) ?_
              refine wpS_quick 1 rfl ?_
              refine wpS_nil ?_
              refine QH_seq_k hK29 ?_
              refine wpC_cond rfl (fun hb => ?_) (fun hb => ?_)
              · replace H := cond_t H hb
                refine wpC_region ?_
                refine wpS_put rfl rfl rfl (yv_fieldAddr fo_23_3 rfl) ?_
                refine wpS_put rfl rfl rfl (yv_load_box sc_3 rfl (RW.here _) hS hs2 trivial sg3_1) ?_
                refine wpS_put rfl rfl rfl (yv_eql rfl rfl) ?_
                refine wpS_put rfl rfl rfl (yv_fieldAddr fo_23_4 rfl) ?_
                refine wpS_store rfl rfl rfl CellsOf.bool hS ps2 st4_1 (by kernel_rfl) rfl (fun w hS hB => ?_)
                refine wpS_nil ?_
                refine QH_block_normal ?_
                refine QH_seq_k hK19 ?_
                refine wpC_seq_k (fun K hK30 => ?_)
                refine wpC_region ?_
                refine wpS_put rfl rfl rfl (yv_load_boxA ag_23 rfl (RW.here _) hS hs2 trivial sg0_5) ?_
                refine wpS_store rfl rfl rfl CellsOf.agg hS ps0 st0_5 (by kernel_rfl) rfl (fun w hS hB => ?_)
                refine wpS_nil ?_
                refine QH_seq_k hK30 ?_
                refine wpC_ret ?_
                refine QH_ret rfl (RV.cell rfl (load_boxA ag_23 hS hs0 sg0_5) RV.nil) rfl ?_
                obtain rfl := Option.some.inj H
                replace hS := hS.cut 0
                exact ⟨rfl, hS⟩
              · replace H := cond_f H hb
                refine wpC_skip ?_
                refine QH_block_normal ?_
                refine QH_seq_k hK19 ?_
                refine wpC_seq_k (fun K hK31 => ?_)
                refine wpC_region ?_
                refine wpS_put rfl rfl rfl (yv_load_boxA ag_23 rfl (RW.here _) hS hs2 trivial sg0_5) ?_
                refine wpS_store rfl rfl rfl CellsOf.agg hS ps0 st0_5 (by kernel_rfl) rfl (fun w hS hB => ?_)
                refine wpS_nil ?_
                refine QH_seq_k hK31 ?_
                refine wpC_ret ?_
                refine QH_ret rfl (RV.cell rfl (load_boxA ag_23 hS hs0 sg0_5) RV.nil) rfl ?_
                obtain rfl := Option.some.inj H
                replace hS := hS.cut 0
                exact ⟨rfl, hS⟩
theorem c_ref06_All (x0 : St) (x1 : List En) (A0_ : Option Addr) (c0_ : Nat) (w0 : World) (s0_ : SlI w0 enE A0_ c0_ x1) {r : St} (H : m_ref06_All x0 x1 = some r) : Calls Try.prog 54 #[.agg #[.int .i64 x0.index, .int .i64 x0.term, .int .i64 x0.sum, .int .i64 x0.level, .bool x0.final], .slice A0_ x1.length c0_] w0 fun e w' => e = .returned (.agg #[.int .i64 r.index, .int .i64 r.term, .int .i64 r.sum, .int .i64 r.level, .bool r.final]) ∧ St0 All w0 w' [] := by
  unfold m_ref06_All at H
  refine gw_enter2 Try.func54 rfl Try.ntmps54 rfl ?_
  have hS := St0.start All w0
  refine wpC_seq_k (fun K hK1 => ?_)
  refine wpC_region ?_
  refine wpS_box rfl rfl rfl CellsOf.agg hS (fun b2 w hS hB => ?_)
  refine wpS_alloc rfl rfl zc_23 hS (fun b4 w hS hB => ?_)
  refine wpS_nil ?_
  refine QH_seq_k hK1 ?_
  refine wpC_seq_k (fun K hK6 => ?_)
  refine wpC_seq_k (fun K hK7 => ?_)
  refine wpC_region ?_
  refine wpS_quick 1 rfl ?_
  refine wpS_nil ?_
  refine QH_seq_k hK7 ?_
  refine wpC_block ?_
  refine wpC_loop (X := Nat × Int × Int × Int × Int × Int × Bool) (fun x => [(1, .slice A0_ x1.length c0_), (2, .pointer (some ⟨b2, 0, none⟩)), (4, .pointer (some ⟨b4, 0, none⟩)), (5, .int .i64 x.2.1)]) (fun x w => St0 All w0 w [.box b4 [.int .i64 0, .int .i64 0, .int .i64 0, .int .i64 0, .bool false] 23, .box b2 [.int .i64 x.2.2.1, .int .i64 x.2.2.2.1, .int .i64 x.2.2.2.2.1, .int .i64 x.2.2.2.2.2.1, .bool x.2.2.2.2.2.2] 23] ∧ m_ref06_All_l1 x1 x.1 x.2.1 x.2.2.1 x.2.2.2.1 x.2.2.2.2.1 x.2.2.2.2.2.1 x.2.2.2.2.2.2 = some r) (fun x => x.1) (fuelN, 0, x0.index, x0.term, x0.sum, x0.level, x0.final) (by repeat (first | exact Sub.nil | refine Sub.cons rfl ?_)) ⟨hS, H⟩ ?_
  rintro ⟨n, v8, v9, v10, v11, v12, v13⟩ w ⟨hS, H⟩
  dsimp only at hS H ⊢
  obtain _ | n := n
  · have H0 : none = some r := H
    cases H0
  rw [m_ref06_All_l1] at H
  refine wpC_seq_k (fun K hK14 => ?_)
  refine wpC_seq_k (fun K hK15 => ?_)
  refine wpC_region ?_
  refine wpS_quick 2 rfl ?_
  refine wpS_put rfl rfl rfl (yv_len el_24 rfl) ?_
  refine wpS_put rfl rfl rfl (yv_lss rfl rfl) ?_
  refine wpS_nil ?_
  refine QH_seq_k hK15 ?_
  refine wpC_cond rfl (fun hb => ?_) (fun hb => ?_)
  · replace H := cond_t H hb
    refine wpC_skip ?_
    refine QH_seq_k hK14 ?_
    refine wpC_seq_k (fun K hK16 => ?_)
    refine wpC_block ?_
    refine wpC_draw 7 [6] (fun i b => (i = 6 → b ≠ b2)) ⟨by kernel_rfl, by kernel_rfl⟩ hS (fun w hS hB => ?_)
    refine wpR_batch [true, true, true, true, true] (by decide +kernel) (by repeat (first | exact PF.body | exact PF.round | apply PF.then | apply PF.inBlock | apply PF.jump)) ?_
    refine LtK.put rfl rfl rfl (yv_load_boxA ag_23 rfl (RW.below _) hS hs1 trivial sg0_5) ?_
    refine LtK.put rfl rfl rfl (yv_move rfl) ?_
    refine LtK.put rfl rfl rfl (yv_move rfl) ?_
    obtain ⟨e17, hi19, H⟩ := bind_some H
    obtain ⟨j18, hi19a, hi19b, hi19c⟩ := idx_some hi19
    refine LtK.put rfl rfl rfl (yx_idx el_24 rfl rfl hi19a hi19c (Rd.el (hS.rd0 s0_.rd) he_enE hi19b)) ?_
    refine LtK.put rfl rfl rfl (yx_ldA0 ag_50 rfl (RW.below _) (Rd.el (hS.rd0 s0_.rd) he_enE hi19b) sg0_3) ?_
    refine LtK.nil ?_
    refine wpR_call [false, false, false, false, false, true] 5 ⟨by decide, by kernel_rfl, by kernel_rfl⟩ rfl rfl ?_
    dsimp only [pickL]
    obtain ⟨r20, hm21, H⟩ := bind_some H
    refine wpS_call rfl rfl rfl rfl (by kernel_rfl) rfl (c_ref06_Next (⟨v9, v10, v11, v12, v13⟩ : St) e17 _ hm21) ?_
    rintro e w ⟨rfl, hN⟩; refine ⟨_, rfl, ?_⟩; have hB := hN.pure; have hS := hS.join hN; clear hN
    refine wpS_nil ?_
    refine QH_step hB ?_
    refine wpR_seal [false, false, false, false, false, false, true] 6 ⟨by decide, by kernel_rfl, by kernel_rfl⟩ rfl rfl ?_
    dsimp only [pickL]
    refine wpS_store rfl rfl rfl CellsOf.agg hS ps1 st0_5 (by kernel_rfl) rfl (fun w hS hB => ?_)
    refine wpS_nil ?_
    refine QH_stepG (hB.sub (fun _ _ h => by simpa using h)) ?_
    refine wpR_end (by kernel_rfl) ?_
    refine QH_block_normal ?_
    refine QH_seq_k hK16 ?_
    refine wpC_region ?_
    refine wpS_quick 1 rfl ?_
    refine wpS_put rfl rfl rfl (yx_add rfl rfl) ?_
    refine wpS_quick 1 rfl ?_
    refine wpS_nil ?_
    exact QH_again (n, (IntKind.wrap .i64 (v8 + 1)), r20.index, r20.term, r20.sum, r20.level, r20.final) (by repeat (first | exact Sub.nil | refine Sub.cons rfl ?_)) ⟨hS, H⟩ (Nat.lt_succ_self _)
  · replace H := cond_f H hb
    refine wpC_exit ?_
    refine QH_then_exit ?_
    refine QH_then_exit ?_
    refine QH_block_hit ?_
    refine QH_seq_k hK6 ?_
    refine wpC_seq_k (fun K hK22 => ?_)
    refine wpC_region ?_
    refine wpS_put rfl rfl rfl (yv_load_boxA ag_23 rfl (RW.here _) hS hs1 trivial sg0_5) ?_
    refine wpS_store rfl rfl rfl CellsOf.agg hS ps0 st0_5 (by kernel_rfl) rfl (fun w hS hB => ?_)
    refine wpS_nil ?_
    refine QH_seq_k hK22 ?_
    refine wpC_ret ?_
    refine QH_ret rfl (RV.cell rfl (load_boxA ag_23 hS hs0 sg0_5) RV.nil) rfl ?_
    obtain rfl := Option.some.inj H
    replace hS := hS.cut 0
    exact ⟨rfl, hS⟩
end Go.Proofs.Ythngkojbokknfaa
