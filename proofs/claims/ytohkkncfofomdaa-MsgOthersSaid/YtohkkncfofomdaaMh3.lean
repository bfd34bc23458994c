/- Texts of one claim put together: what its walks share. -/
import Derived.Test.YtohkkncfofomdaaMh1
import Derived.Test.YtohkkncfofomdaaMh2
/- What functions compute, in plain terms, and that they do; printed. -/
namespace Go.Proofs.Ytohkkncfofomdaa
open Go Go.RowKit
set_option maxRecDepth 100000
set_option maxHeartbeats 4000000
theorem c_ref06_number (x0 : Int) (w0 : World) {r : Bool} (H : m_ref06_number x0 = some r) : Calls Try.prog 62 #[.int .i64 x0] w0 fun e w' => e = .returned (.bool r) ∧ St0 All w0 w' [] := by
  unfold m_ref06_number at H
  refine gw_enter1 Try.func62 rfl Try.ntmps62 rfl ?_
  have hS := St0.start All w0
  refine wpC_seq_k (fun K hK1 => ?_)
  refine wpC_region ?_
  refine wpS_quick 1 rfl ?_
  refine wpS_nil ?_
  refine QH_seq_k hK1 ?_
  refine wpC_seq_k (fun K hK2 => ?_)
  refine wpC_region ?_
  refine wpS_quick 1 rfl ?_
  refine wpS_put rfl rfl rfl (yv_geq rfl rfl) ?_
  refine wpS_quick 1 rfl ?_
  refine wpS_case 5 rfl (fun hb => ?_) (fun hb => ?_)
  rotate_left
  · replace H := cond_f H hb
    refine wpS_quick 4 rfl ?_
    refine wpS_nil ?_
    refine QH_seq_k hK2 ?_
    refine wpC_ret ?_
    refine QH_ret rfl (RV.tmp rfl RV.nil) rfl ?_
    obtain rfl := Option.some.inj H
    replace hS := hS.cut 0
    exact ⟨rfl, hS⟩
  replace H := cond_t H hb
  refine wpS_quick 1 rfl ?_
  refine wpS_put rfl rfl rfl (yv_leq rfl rfl) ?_
  refine wpS_quick 2 rfl ?_
  refine wpS_nil ?_
  refine QH_seq_k hK2 ?_
  refine wpC_ret ?_
  refine QH_ret rfl (RV.tmp rfl RV.nil) rfl ?_
  obtain rfl := Option.some.inj H
  replace hS := hS.cut 0
  exact ⟨rfl, hS⟩
theorem c_ref06_First (w0 : World) {r : St} (H : m_ref06_First = some r) : Calls Try.prog 73 #[] w0 fun e w' => e = .returned (.agg #[.int .i64 r.index, .int .i64 r.term, .int .i64 r.sum, .int .i64 r.level, .bool r.final]) ∧ St0 All w0 w' [] := by
  unfold m_ref06_First at H
  refine gw_enter0 Try.func73 rfl Try.ntmps73 rfl ?_
  have hS := St0.start All w0
  refine wpC_seq_k (fun K hK1 => ?_)
  refine wpC_region ?_
  refine wpS_alloc rfl rfl zc_23 hS (fun b2 w hS hB => ?_)
  refine wpS_nil ?_
  refine QH_seq_k hK1 ?_
  refine wpC_seq_k (fun K hK4 => ?_)
  refine wpC_region ?_
  refine wpS_put rfl rfl rfl (yv_build (cells := [.int .i64 0, .int .i64 0, .int .i64 0, .int .i64 1, .bool false]) rfl (by kernel_rfl)) ?_
  refine wpS_store rfl rfl rfl CellsOf.agg hS ps0 st0_5 (by kernel_rfl) rfl (fun w hS hB => ?_)
  refine wpS_nil ?_
  refine QH_seq_k hK4 ?_
  refine wpC_ret ?_
  refine QH_ret rfl (RV.cell rfl (load_boxA ag_23 hS hs0 sg0_5) RV.nil) rfl ?_
  obtain rfl := Option.some.inj H
  replace hS := hS.cut 0
  exact ⟨rfl, hS⟩
theorem c_ref06_Fine (x0 : St) (w0 : World) {r : Bool} (H : m_ref06_Fine x0 = some r) : Calls Try.prog 36 #[.agg #[.int .i64 x0.index, .int .i64 x0.term, .int .i64 x0.sum, .int .i64 x0.level, .bool x0.final]] w0 fun e w' => e = .returned (.bool r) ∧ St0 All w0 w' [] := by
  unfold m_ref06_Fine at H
  refine gw_enter1 Try.func36 rfl Try.ntmps36 rfl ?_
  have hS := St0.start All w0
  refine wpC_seq_k (fun K hK1 => ?_)
  refine wpC_region ?_
  refine wpS_box rfl rfl rfl CellsOf.agg hS (fun b2 w hS hB => ?_)
  refine wpS_quick 1 rfl ?_
  refine wpS_nil ?_
  refine QH_seq_k hK1 ?_
  refine wpC_seq_k (fun K hK4 => ?_)
  refine wpC_seq_k (fun K hK5 => ?_)
  refine wpC_region ?_
  refine wpS_put rfl rfl rfl (yv_fieldAddr fo_23_0 rfl) ?_
  refine wpS_put rfl rfl rfl (yv_load_box sc_3 rfl (RW.here _) hS hs0 trivial sg0_1) ?_
  obtain ⟨r6, hm7, H⟩ := bind_some H
  refine wpS_call rfl rfl rfl rfl (by kernel_rfl) rfl (c_ref06_number x0.index _ hm7) ?_
  rintro e w ⟨rfl, hN⟩; refine ⟨_, rfl, ?_⟩; have hB := hN.pure; have hS := hS.join hN; clear hN
  refine wpS_put rfl rfl rfl (yv_not rfl) ?_
  refine wpS_quick 1 rfl ?_
  refine wpS_case 7 rfl (fun hb => ?_) (fun hb => ?_)
  · replace H := cond_t H hb
    refine wpS_quick 39 rfl ?_
    refine wpS_nil ?_
    refine QH_seq_k hK5 ?_
    refine wpC_cond_t rfl rfl ?_
    refine wpC_seq_k (fun K hK8 => ?_)
    refine wpC_region ?_
    refine wpS_quick 1 rfl ?_
    refine wpS_nil ?_
    refine QH_seq_k hK8 ?_
    refine wpC_ret ?_
    refine QH_then_ret ?_
    refine QH_ret rfl (RV.tmp rfl RV.nil) rfl ?_
    obtain rfl := Option.some.inj H
    replace hS := hS.cut 0
    exact ⟨rfl, hS⟩
  replace H := cond_f H hb
  refine wpS_put rfl rfl rfl (yv_fieldAddr fo_23_1 rfl) ?_
  refine wpS_put rfl rfl rfl (yv_load_box sc_3 rfl (RW.here _) hS hs0 trivial sg1_1) ?_
  obtain ⟨r9, hm10, H⟩ := bind_some H
  refine wpS_call rfl rfl rfl rfl (by kernel_rfl) rfl (c_ref06_number x0.term _ hm10) ?_
  rintro e w ⟨rfl, hN⟩; refine ⟨_, rfl, ?_⟩; have hB := hN.pure; have hS := hS.join hN; clear hN
  refine wpS_put rfl rfl rfl (yv_not rfl) ?_
  refine wpS_quick 2 rfl ?_
  refine wpS_case 13 rfl (fun hb => ?_) (fun hb => ?_)
  · replace H := cond_t H hb
    refine wpS_quick 33 rfl ?_
    refine wpS_nil ?_
    refine QH_seq_k hK5 ?_
    refine wpC_cond_t rfl rfl ?_
    refine wpC_seq_k (fun K hK11 => ?_)
    refine wpC_region ?_
    refine wpS_quick 1 rfl ?_
    refine wpS_nil ?_
    refine QH_seq_k hK11 ?_
    refine wpC_ret ?_
    refine QH_then_ret ?_
    refine QH_ret rfl (RV.tmp rfl RV.nil) rfl ?_
    obtain rfl := Option.some.inj H
    replace hS := hS.cut 0
    exact ⟨rfl, hS⟩
  replace H := cond_f H hb
  refine wpS_put rfl rfl rfl (yv_fieldAddr fo_23_2 rfl) ?_
  refine wpS_put rfl rfl rfl (yv_load_box sc_3 rfl (RW.here _) hS hs0 trivial sg2_1) ?_
  obtain ⟨r12, hm13, H⟩ := bind_some H
  refine wpS_call rfl rfl rfl rfl (by kernel_rfl) rfl (c_ref06_number x0.sum _ hm13) ?_
  rintro e w ⟨rfl, hN⟩; refine ⟨_, rfl, ?_⟩; have hB := hN.pure; have hS := hS.join hN; clear hN
  refine wpS_put rfl rfl rfl (yv_not rfl) ?_
  refine wpS_quick 2 rfl ?_
  refine wpS_case 19 rfl (fun hb => ?_) (fun hb => ?_)
  · replace H := cond_t H hb
    refine wpS_quick 27 rfl ?_
    refine wpS_nil ?_
    refine QH_seq_k hK5 ?_
    refine wpC_cond_t rfl rfl ?_
    refine wpC_seq_k (fun K hK14 => ?_)
    refine wpC_region ?_
    refine wpS_quick 1 rfl ?_
    refine wpS_nil ?_
    refine QH_seq_k hK14 ?_
    refine wpC_ret ?_
    refine QH_then_ret ?_
    refine QH_ret rfl (RV.tmp rfl RV.nil) rfl ?_
    obtain rfl := Option.some.inj H
    replace hS := hS.cut 0
    exact ⟨rfl, hS⟩
  replace H := cond_f H hb
  refine wpS_put rfl rfl rfl (yv_fieldAddr fo_23_1 rfl) ?_
  refine wpS_put rfl rfl rfl (yv_load_box sc_3 rfl (RW.here _) hS hs0 trivial sg1_1) ?_
  refine wpS_put rfl rfl rfl (yv_eql rfl rfl) ?_
  refine wpS_put rfl rfl rfl (yv_fieldAddr fo_23_0 rfl) ?_
  refine wpS_put rfl rfl rfl (yv_load_box sc_3 rfl (RW.here _) hS hs0 trivial sg0_1) ?_
  refine wpS_put rfl rfl rfl (yv_eql rfl rfl) ?_
  refine wpS_put rfl rfl rfl (yv_neqB (by kernel_rfl) rfl rfl) ?_
  refine wpS_quick 2 rfl ?_
  refine wpS_case 28 rfl (fun hb => ?_) (fun hb => ?_)
  · replace H := cond_t H hb
    refine wpS_quick 18 rfl ?_
    refine wpS_nil ?_
    refine QH_seq_k hK5 ?_
    refine wpC_cond_t rfl rfl ?_
    refine wpC_seq_k (fun K hK15 => ?_)
    refine wpC_region ?_
    refine wpS_quick 1 rfl ?_
    refine wpS_nil ?_
    refine QH_seq_k hK15 ?_
    refine wpC_ret ?_
    refine QH_then_ret ?_
    refine QH_ret rfl (RV.tmp rfl RV.nil) rfl ?_
    obtain rfl := Option.some.inj H
    replace hS := hS.cut 0
    exact ⟨rfl, hS⟩
  replace H := cond_f H hb
  refine wpS_put rfl rfl rfl (yv_fieldAddr fo_23_3 rfl) ?_
  refine wpS_put rfl rfl rfl (yv_load_box sc_3 rfl (RW.here _) hS hs0 trivial sg3_1) ?_
  refine wpS_put rfl rfl rfl (yv_neq rfl rfl) ?_
  refine wpS_quick 1 rfl ?_
  refine wpS_case 32 rfl (fun hb => ?_) (fun hb => ?_)
  rotate_left
  · replace H := cond_f H hb
    refine wpS_quick 6 rfl ?_
    refine wpS_put rfl rfl rfl (yv_fieldAddr fo_23_4 rfl) ?_
    refine wpS_put rfl rfl rfl (yv_load_box sc_4 rfl (RW.here _) hS hs0 trivial sg4_1) ?_
    refine wpS_quick 1 rfl ?_
    refine wpS_case 41 rfl (fun hb => ?_) (fun hb => ?_)
    rotate_left
    · replace H := cond_f H hb
      refine wpS_quick 5 rfl ?_
      refine wpS_nil ?_
      refine QH_seq_k hK5 ?_
      refine wpC_cond_f rfl rfl ?_
      refine wpC_skip ?_
      refine QH_seq_k hK4 ?_
      refine wpC_seq_k (fun K hK28 => ?_)
      refine wpC_draw 9 [] (fun _ _ => True) ⟨by kernel_rfl, by kernel_rfl⟩ hS (fun w hS hB => ?_)
      refine wpR_batch [true, true, true, true] (by decide +kernel) (by repeat (first | exact PF.body | exact PF.round | apply PF.then | apply PF.inBlock | apply PF.jump)) ?_
      refine LtK.put rfl rfl rfl (yv_fieldAddr fo_23_0 rfl) ?_
      refine LtK.put rfl rfl rfl (yv_load_box sc_3 rfl (RW.below _) hS hs0 trivial sg0_1) ?_
      refine LtK.put rfl rfl rfl (yv_gtr rfl rfl) ?_
      refine LtK.put rfl rfl rfl (yv_move rfl) ?_
      refine LtK.nil ?_
      refine wpR_case 50 rfl (fun hb => ?_) (fun hb => ?_)
      · replace H := cond_t H hb
        refine wpR_batch [false, false, false, false, true] (by decide +kernel) (by repeat (first | exact PF.body | exact PF.round | apply PF.then | apply PF.inBlock | apply PF.jump)) ?_
        refine LtK.skip rfl rfl rfl ?_
        refine LtK.nil ?_
        refine wpR_call [false, false, false, false, false, true] 5 ⟨by decide, by kernel_rfl, by kernel_rfl⟩ rfl rfl ?_
        try dsimp only [pickL]
        refine wpS_skip rfl rfl rfl ?_
        refine wpS_nil ?_
        refine QH_step (Below.refl _ _) ?_
        refine wpR_batch [false, false, false, false, false, false, true, true, true] (by decide +kernel) (by repeat (first | exact PF.body | exact PF.round | apply PF.then | apply PF.inBlock | apply PF.jump)) ?_
        refine LtK.skip rfl rfl rfl ?_
        refine LtK.put rfl rfl rfl (yv_pick_t rfl rfl rfl) ?_
        refine LtK.put rfl rfl rfl (yv_assign rfl) ?_
        refine LtK.nil ?_
        refine wpR_end (by kernel_rfl) ?_
        refine QH_seq_k hK28 ?_
        refine wpC_ret ?_
        refine QH_ret rfl (RV.tmp rfl RV.nil) rfl ?_
        obtain rfl := Option.some.inj H
        replace hS := hS.cut 0
        exact ⟨rfl, hS⟩
      replace H := cond_f H hb
      refine wpR_batch [false, false, false, false, true] (by decide +kernel) (by repeat (first | exact PF.body | exact PF.round | apply PF.then | apply PF.inBlock | apply PF.jump)) ?_
      refine LtK.put rfl rfl rfl (yv_load_boxA ag_23 rfl (RW.below _) hS hs0 trivial sg0_5) ?_
      refine LtK.nil ?_
      refine wpR_call [false, false, false, false, false, true] 5 ⟨by decide, by kernel_rfl, by kernel_rfl⟩ rfl rfl ?_
      try dsimp only [pickL]
      obtain ⟨r29, hm30, H⟩ := bind_some H
      refine wpS_call rfl rfl rfl rfl (by kernel_rfl) rfl (c_ref06_First _ hm30) ?_
      rintro e w ⟨rfl, hN⟩; refine ⟨_, rfl, ?_⟩; have hB := hN.pure; have hS := hS.join hN; clear hN
      refine wpS_nil ?_
      refine QH_step hB ?_
      refine wpR_batch [false, false, false, false, false, false, true, true, true] (by decide +kernel) (by repeat (first | exact PF.body | exact PF.round | apply PF.then | apply PF.inBlock | apply PF.jump)) ?_
      refine LtK.put rfl rfl rfl (yv_eqlS (by kernel_rfl) rfl rfl (eqT_23 _ _ _ _ _ _ _ _ _ _)) ?_
      refine LtK.put rfl rfl rfl (yv_pick_f rfl rfl rfl) ?_
      refine LtK.put rfl rfl rfl (yv_assign rfl) ?_
      refine LtK.nil ?_
      refine wpR_end (by kernel_rfl) ?_
      refine QH_seq_k hK28 ?_
      refine wpC_ret ?_
      refine QH_ret rfl (RV.tmp rfl RV.nil) rfl ?_
      obtain rfl := Option.some.inj H
      replace hS := hS.cut 0
      exact ⟨rfl, hS⟩
    replace H := cond_t H hb
    refine wpS_put rfl rfl rfl (yv_fieldAddr fo_23_3 rfl) ?_
    refine wpS_put rfl rfl rfl (yv_load_box sc_3 rfl (RW.here _) hS hs0 trivial sg3_1) ?_
    refine wpS_put rfl rfl rfl (yv_neq rfl rfl) ?_
    refine wpS_quick 2 rfl ?_
    refine wpS_nil ?_
    refine QH_seq_k hK5 ?_
    refine wpC_cond rfl (fun hb => ?_) (fun hb => ?_)
    · replace H := cond_t H hb
      refine wpC_seq_k (fun K hK24 => ?_)
      refine wpC_region ?_
      refine wpS_quick 1 rfl ?_
      refine wpS_nil ?_
      refine QH_seq_k hK24 ?_
      refine wpC_ret ?_
      refine QH_then_ret ?_
      refine QH_ret rfl (RV.tmp rfl RV.nil) rfl ?_
      obtain rfl := Option.some.inj H
      replace hS := hS.cut 0
      exact ⟨rfl, hS⟩
    replace H := cond_f H hb
    refine wpC_skip ?_
    refine QH_seq_k hK4 ?_
    refine wpC_seq_k (fun K hK25 => ?_)
    refine wpC_draw 9 [] (fun _ _ => True) ⟨by kernel_rfl, by kernel_rfl⟩ hS (fun w hS hB => ?_)
    refine wpR_batch [true, true, true, true] (by decide +kernel) (by repeat (first | exact PF.body | exact PF.round | apply PF.then | apply PF.inBlock | apply PF.jump)) ?_
    refine LtK.put rfl rfl rfl (yv_fieldAddr fo_23_0 rfl) ?_
    refine LtK.put rfl rfl rfl (yv_load_box sc_3 rfl (RW.below _) hS hs0 trivial sg0_1) ?_
    refine LtK.put rfl rfl rfl (yv_gtr rfl rfl) ?_
    refine LtK.put rfl rfl rfl (yv_move rfl) ?_
    refine LtK.nil ?_
    refine wpR_case 50 rfl (fun hb => ?_) (fun hb => ?_)
    · replace H := cond_t H hb
      refine wpR_batch [false, false, false, false, true] (by decide +kernel) (by repeat (first | exact PF.body | exact PF.round | apply PF.then | apply PF.inBlock | apply PF.jump)) ?_
      refine LtK.skip rfl rfl rfl ?_
      refine LtK.nil ?_
      refine wpR_call [false, false, false, false, false, true] 5 ⟨by decide, by kernel_rfl, by kernel_rfl⟩ rfl rfl ?_
      try dsimp only [pickL]
      refine wpS_skip rfl rfl rfl ?_
      refine wpS_nil ?_
      refine QH_step (Below.refl _ _) ?_
      refine wpR_batch [false, false, false, false, false, false, true, true, true] (by decide +kernel) (by repeat (first | exact PF.body | exact PF.round | apply PF.then | apply PF.inBlock | apply PF.jump)) ?_
      refine LtK.skip rfl rfl rfl ?_
      refine LtK.put rfl rfl rfl (yv_pick_t rfl rfl rfl) ?_
      refine LtK.put rfl rfl rfl (yv_assign rfl) ?_
      refine LtK.nil ?_
      refine wpR_end (by kernel_rfl) ?_
      refine QH_seq_k hK25 ?_
      refine wpC_ret ?_
      refine QH_ret rfl (RV.tmp rfl RV.nil) rfl ?_
      obtain rfl := Option.some.inj H
      replace hS := hS.cut 0
      exact ⟨rfl, hS⟩
    replace H := cond_f H hb
    refine wpR_batch [false, false, false, false, true] (by decide +kernel) (by repeat (first | exact PF.body | exact PF.round | apply PF.then | apply PF.inBlock | apply PF.jump)) ?_
    refine LtK.put rfl rfl rfl (yv_load_boxA ag_23 rfl (RW.below _) hS hs0 trivial sg0_5) ?_
    refine LtK.nil ?_
    refine wpR_call [false, false, false, false, false, true] 5 ⟨by decide, by kernel_rfl, by kernel_rfl⟩ rfl rfl ?_
    try dsimp only [pickL]
    obtain ⟨r26, hm27, H⟩ := bind_some H
    refine wpS_call rfl rfl rfl rfl (by kernel_rfl) rfl (c_ref06_First _ hm27) ?_
    rintro e w ⟨rfl, hN⟩; refine ⟨_, rfl, ?_⟩; have hB := hN.pure; have hS := hS.join hN; clear hN
    refine wpS_nil ?_
    refine QH_step hB ?_
    refine wpR_batch [false, false, false, false, false, false, true, true, true] (by decide +kernel) (by repeat (first | exact PF.body | exact PF.round | apply PF.then | apply PF.inBlock | apply PF.jump)) ?_
    refine LtK.put rfl rfl rfl (yv_eqlS (by kernel_rfl) rfl rfl (eqT_23 _ _ _ _ _ _ _ _ _ _)) ?_
    refine LtK.put rfl rfl rfl (yv_pick_f rfl rfl rfl) ?_
    refine LtK.put rfl rfl rfl (yv_assign rfl) ?_
    refine LtK.nil ?_
    refine wpR_end (by kernel_rfl) ?_
    refine QH_seq_k hK25 ?_
    refine wpC_ret ?_
    refine QH_ret rfl (RV.tmp rfl RV.nil) rfl ?_
    obtain rfl := Option.some.inj H
    replace hS := hS.cut 0
    exact ⟨rfl, hS⟩
  replace H := cond_t H hb
  refine wpS_put rfl rfl rfl (yv_fieldAddr fo_23_3 rfl) ?_
  refine wpS_put rfl rfl rfl (yv_load_box sc_3 rfl (RW.here _) hS hs0 trivial sg3_1) ?_
  refine wpS_put rfl rfl rfl (yv_neq rfl rfl) ?_
  refine wpS_quick 3 rfl ?_
  refine wpS_case 38 rfl (fun hb => ?_) (fun hb => ?_)
  · replace H := cond_t H hb
    refine wpS_quick 8 rfl ?_
    refine wpS_nil ?_
    refine QH_seq_k hK5 ?_
    refine wpC_cond_t rfl rfl ?_
    refine wpC_seq_k (fun K hK16 => ?_)
    refine wpC_region ?_
    refine wpS_quick 1 rfl ?_
    refine wpS_nil ?_
    refine QH_seq_k hK16 ?_
    refine wpC_ret ?_
    refine QH_then_ret ?_
    refine QH_ret rfl (RV.tmp rfl RV.nil) rfl ?_
    obtain rfl := Option.some.inj H
    replace hS := hS.cut 0
    exact ⟨rfl, hS⟩
  replace H := cond_f H hb
  refine wpS_put rfl rfl rfl (yv_fieldAddr fo_23_4 rfl) ?_
  refine wpS_put rfl rfl rfl (yv_load_box sc_4 rfl (RW.here _) hS hs0 trivial sg4_1) ?_
  refine wpS_quick 1 rfl ?_
  refine wpS_case 41 rfl (fun hb => ?_) (fun hb => ?_)
  rotate_left
  · replace H := cond_f H hb
    refine wpS_quick 5 rfl ?_
    refine wpS_nil ?_
    refine QH_seq_k hK5 ?_
    refine wpC_cond_f rfl rfl ?_
    refine wpC_skip ?_
    refine QH_seq_k hK4 ?_
    refine wpC_seq_k (fun K hK21 => ?_)
    refine wpC_draw 9 [] (fun _ _ => True) ⟨by kernel_rfl, by kernel_rfl⟩ hS (fun w hS hB => ?_)
    refine wpR_batch [true, true, true, true] (by decide +kernel) (by repeat (first | exact PF.body | exact PF.round | apply PF.then | apply PF.inBlock | apply PF.jump)) ?_
    refine LtK.put rfl rfl rfl (yv_fieldAddr fo_23_0 rfl) ?_
    refine LtK.put rfl rfl rfl (yv_load_box sc_3 rfl (RW.below _) hS hs0 trivial sg0_1) ?_
    refine LtK.put rfl rfl rfl (yv_gtr rfl rfl) ?_
    refine LtK.put rfl rfl rfl (yv_move rfl) ?_
    refine LtK.nil ?_
    refine wpR_case 50 rfl (fun hb => ?_) (fun hb => ?_)
    · replace H := cond_t H hb
      refine wpR_batch [false, false, false, false, true] (by decide +kernel) (by repeat (first | exact PF.body | exact PF.round | apply PF.then | apply PF.inBlock | apply PF.jump)) ?_
      refine LtK.skip rfl rfl rfl ?_
      refine LtK.nil ?_
      refine wpR_call [false, false, false, false, false, true] 5 ⟨by decide, by kernel_rfl, by kernel_rfl⟩ rfl rfl ?_
      try dsimp only [pickL]
      refine wpS_skip rfl rfl rfl ?_
      refine wpS_nil ?_
      refine QH_step (Below.refl _ _) ?_
      refine wpR_batch [false, false, false, false, false, false, true, true, true] (by decide +kernel) (by repeat (first | exact PF.body | exact PF.round | apply PF.then | apply PF.inBlock | apply PF.jump)) ?_
      refine LtK.skip rfl rfl rfl ?_
      refine LtK.put rfl rfl rfl (yv_pick_t rfl rfl rfl) ?_
      refine LtK.put rfl rfl rfl (yv_assign rfl) ?_
      refine LtK.nil ?_
      refine wpR_end (by kernel_rfl) ?_
      refine QH_seq_k hK21 ?_
      refine wpC_ret ?_
      refine QH_ret rfl (RV.tmp rfl RV.nil) rfl ?_
      obtain rfl := Option.some.inj H
      replace hS := hS.cut 0
      exact ⟨rfl, hS⟩
    replace H := cond_f H hb
    refine wpR_batch [false, false, false, false, true] (by decide +kernel) (by repeat (first | exact PF.body | exact PF.round | apply PF.then | apply PF.inBlock | apply PF.jump)) ?_
    refine LtK.put rfl rfl rfl (yv_load_boxA ag_23 rfl (RW.below _) hS hs0 trivial sg0_5) ?_
    refine LtK.nil ?_
    refine wpR_call [false, false, false, false, false, true] 5 ⟨by decide, by kernel_rfl, by kernel_rfl⟩ rfl rfl ?_
    try dsimp only [pickL]
    obtain ⟨r22, hm23, H⟩ := bind_some H
    refine wpS_call rfl rfl rfl rfl (by kernel_rfl) rfl (c_ref06_First _ hm23) ?_
    rintro e w ⟨rfl, hN⟩; refine ⟨_, rfl, ?_⟩; have hB := hN.pure; have hS := hS.join hN; clear hN
    refine wpS_nil ?_
    refine QH_step hB ?_
    refine wpR_batch [false, false, false, false, false, false, true, true, true] (by decide +kernel) (by repeat (first | exact PF.body | exact PF.round | apply PF.then | apply PF.inBlock | apply PF.jump)) ?_
    refine LtK.put rfl rfl rfl (yv_eqlS (by kernel_rfl) rfl rfl (eqT_23 _ _ _ _ _ _ _ _ _ _)) ?_
    refine LtK.put rfl rfl rfl (yv_pick_f rfl rfl rfl) ?_
    refine LtK.put rfl rfl rfl (yv_assign rfl) ?_
    refine LtK.nil ?_
    refine wpR_end (by kernel_rfl) ?_
    refine QH_seq_k hK21 ?_
    refine wpC_ret ?_
    refine QH_ret rfl (RV.tmp rfl RV.nil) rfl ?_
    obtain rfl := Option.some.inj H
    replace hS := hS.cut 0
    exact ⟨rfl, hS⟩
  replace H := cond_t H hb
  refine wpS_put rfl rfl rfl (yv_fieldAddr fo_23_3 rfl) ?_
  refine wpS_put rfl rfl rfl (yv_load_box sc_3 rfl (RW.here _) hS hs0 trivial sg3_1) ?_
  refine wpS_put rfl rfl rfl (yv_neq rfl rfl) ?_
  refine wpS_quick 2 rfl ?_
  refine wpS_nil ?_
  refine QH_seq_k hK5 ?_
  refine wpC_cond rfl (fun hb => ?_) (fun hb => ?_)
  · replace H := cond_t H hb
    refine wpC_seq_k (fun K hK17 => ?_)
    refine wpC_region ?_
    refine wpS_quick 1 rfl ?_
    refine wpS_nil ?_
    refine QH_seq_k hK17 ?_
    refine wpC_ret ?_
    refine QH_then_ret ?_
    refine QH_ret rfl (RV.tmp rfl RV.nil) rfl ?_
    obtain rfl := Option.some.inj H
    replace hS := hS.cut 0
    exact ⟨rfl, hS⟩
  replace H := cond_f H hb
  refine wpC_skip ?_
  refine QH_seq_k hK4 ?_
  refine wpC_seq_k (fun K hK18 => ?_)
  refine wpC_draw 9 [] (fun _ _ => True) ⟨by kernel_rfl, by kernel_rfl⟩ hS (fun w hS hB => ?_)
  refine wpR_batch [true, true, true, true] (by decide +kernel) (by repeat (first | exact PF.body | exact PF.round | apply PF.then | apply PF.inBlock | apply PF.jump)) ?_
  refine LtK.put rfl rfl rfl (yv_fieldAddr fo_23_0 rfl) ?_
  refine LtK.put rfl rfl rfl (yv_load_box sc_3 rfl (RW.below _) hS hs0 trivial sg0_1) ?_
  refine LtK.put rfl rfl rfl (yv_gtr rfl rfl) ?_
  refine LtK.put rfl rfl rfl (yv_move rfl) ?_
  refine LtK.nil ?_
  refine wpR_case 50 rfl (fun hb => ?_) (fun hb => ?_)
  · replace H := cond_t H hb
    refine wpR_batch [false, false, false, false, true] (by decide +kernel) (by repeat (first | exact PF.body | exact PF.round | apply PF.then | apply PF.inBlock | apply PF.jump)) ?_
    refine LtK.skip rfl rfl rfl ?_
    refine LtK.nil ?_
    refine wpR_call [false, false, false, false, false, true] 5 ⟨by decide, by kernel_rfl, by kernel_rfl⟩ rfl rfl ?_
    try dsimp only [pickL]
    refine wpS_skip rfl rfl rfl ?_
    refine wpS_nil ?_
    refine QH_step (Below.refl _ _) ?_
    refine wpR_batch [false, false, false, false, false, false, true, true, true] (by decide +kernel) (by repeat (first | exact PF.body | exact PF.round | apply PF.then | apply PF.inBlock | apply PF.jump)) ?_
    refine LtK.skip rfl rfl rfl ?_
    refine LtK.put rfl rfl rfl (yv_pick_t rfl rfl rfl) ?_
    refine LtK.put rfl rfl rfl (yv_assign rfl) ?_
    refine LtK.nil ?_
    refine wpR_end (by kernel_rfl) ?_
    refine QH_seq_k hK18 ?_
    refine wpC_ret ?_
    refine QH_ret rfl (RV.tmp rfl RV.nil) rfl ?_
    obtain rfl := Option.some.inj H
    replace hS := hS.cut 0
    exact ⟨rfl, hS⟩
  replace H := cond_f H hb
  refine wpR_batch [false, false, false, false, true] (by decide +kernel) (by repeat (first | exact PF.body | exact PF.round | apply PF.then | apply PF.inBlock | apply PF.jump)) ?_
  refine LtK.put rfl rfl rfl (yv_load_boxA ag_23 rfl (RW.below _) hS hs0 trivial sg0_5) ?_
  refine LtK.nil ?_
  refine wpR_call [false, false, false, false, false, true] 5 ⟨by decide, by kernel_rfl, by kernel_rfl⟩ rfl rfl ?_
  try dsimp only [pickL]
  obtain ⟨r19, hm20, H⟩ := bind_some H
  refine wpS_call rfl rfl rfl rfl (by kernel_rfl) rfl (c_ref06_First _ hm20) ?_
  rintro e w ⟨rfl, hN⟩; refine ⟨_, rfl, ?_⟩; have hB := hN.pure; have hS := hS.join hN; clear hN
  refine wpS_nil ?_
  refine QH_step hB ?_
  refine wpR_batch [false, false, false, false, false, false, true, true, true] (by decide +kernel) (by repeat (first | exact PF.body | exact PF.round | apply PF.then | apply PF.inBlock | apply PF.jump)) ?_
  refine LtK.put rfl rfl rfl (yv_eqlS (by kernel_rfl) rfl rfl (eqT_23 _ _ _ _ _ _ _ _ _ _)) ?_
  refine LtK.put rfl rfl rfl (yv_pick_f rfl rfl rfl) ?_
  refine LtK.put rfl rfl rfl (yv_assign rfl) ?_
  refine LtK.nil ?_
  refine wpR_end (by kernel_rfl) ?_
  refine QH_seq_k hK18 ?_
  refine wpC_ret ?_
  refine QH_ret rfl (RV.tmp rfl RV.nil) rfl ?_
  obtain rfl := Option.some.inj H
  replace hS := hS.cut 0
  exact ⟨rfl, hS⟩
theorem c_ref06_Right (x0 : En) (w0 : World) {r : Bool} (H : m_ref06_Right x0 = some r) : Calls Try.prog 23 #[.agg #[.int .i64 x0.term, .int .i64 x0.kind, .int .i64 x0.value]] w0 fun e w' => e = .returned (.bool r) ∧ St0 All w0 w' [] := by
  unfold m_ref06_Right at H
  refine gw_enter1 Try.func23 rfl Try.ntmps23 rfl ?_
  have hS := St0.start All w0
  refine wpC_seq_k (fun K hK1 => ?_)
  refine wpC_region ?_
  refine wpS_box rfl rfl rfl CellsOf.agg hS (fun b2 w hS hB => ?_)
  refine wpS_quick 1 rfl ?_
  refine wpS_nil ?_
  refine QH_seq_k hK1 ?_
  refine wpC_seq_k (fun K hK4 => ?_)
  refine wpC_region ?_
  refine wpS_put rfl rfl rfl (yv_fieldAddr fo_47_0 rfl) ?_
  refine wpS_put rfl rfl rfl (yv_load_box sc_3 rfl (RW.here _) hS hs0 trivial sg0_1) ?_
  refine wpS_put rfl rfl rfl (yv_geq rfl rfl) ?_
  refine wpS_quick 1 rfl ?_
  refine wpS_case 6 rfl (fun hb => ?_) (fun hb => ?_)
  rotate_left
  · replace H := cond_f H hb
    refine wpS_quick 30 rfl ?_
    refine wpS_nil ?_
    refine QH_seq_k hK4 ?_
    refine wpC_ret ?_
    refine QH_ret rfl (RV.tmp rfl RV.nil) rfl ?_
    obtain rfl := Option.some.inj H
    replace hS := hS.cut 0
    exact ⟨rfl, hS⟩
  replace H := cond_t H hb
  refine wpS_put rfl rfl rfl (yv_fieldAddr fo_47_0 rfl) ?_
  refine wpS_put rfl rfl rfl (yv_load_box sc_3 rfl (RW.here _) hS hs0 trivial sg0_1) ?_
  obtain ⟨r5, hm6, H⟩ := bind_some H
  refine wpS_call rfl rfl rfl rfl (by kernel_rfl) rfl (c_ref06_number x0.term _ hm6) ?_
  rintro e w ⟨rfl, hN⟩; refine ⟨_, rfl, ?_⟩; have hB := hN.pure; have hS := hS.join hN; clear hN
  refine wpS_quick 2 rfl ?_
  refine wpS_case 11 rfl (fun hb => ?_) (fun hb => ?_)
  rotate_left
  · replace H := cond_f H hb
    refine wpS_quick 25 rfl ?_
    refine wpS_nil ?_
    refine QH_seq_k hK4 ?_
    refine wpC_ret ?_
    refine QH_ret rfl (RV.tmp rfl RV.nil) rfl ?_
    obtain rfl := Option.some.inj H
    replace hS := hS.cut 0
    exact ⟨rfl, hS⟩
  replace H := cond_t H hb
  refine wpS_put rfl rfl rfl (yv_fieldAddr fo_47_1 rfl) ?_
  refine wpS_put rfl rfl rfl (yv_load_box sc_3 rfl (RW.here _) hS hs0 trivial sg1_1) ?_
  refine wpS_put rfl rfl rfl (yv_geq rfl rfl) ?_
  refine wpS_quick 2 rfl ?_
  refine wpS_case 16 rfl (fun hb => ?_) (fun hb => ?_)
  rotate_left
  · replace H := cond_f H hb
    refine wpS_quick 20 rfl ?_
    refine wpS_nil ?_
    refine QH_seq_k hK4 ?_
    refine wpC_ret ?_
    refine QH_ret rfl (RV.tmp rfl RV.nil) rfl ?_
    obtain rfl := Option.some.inj H
    replace hS := hS.cut 0
    exact ⟨rfl, hS⟩
  replace H := cond_t H hb
  refine wpS_put rfl rfl rfl (yv_fieldAddr fo_47_1 rfl) ?_
  refine wpS_put rfl rfl rfl (yv_load_box sc_3 rfl (RW.here _) hS hs0 trivial sg1_1) ?_
  refine wpS_put rfl rfl rfl (yv_lss rfl rfl) ?_
  refine wpS_quick 2 rfl ?_
  refine wpS_case 21 rfl (fun hb => ?_) (fun hb => ?_)
  rotate_left
  · replace H := cond_f H hb
    refine wpS_quick 15 rfl ?_
    refine wpS_nil ?_
    refine QH_seq_k hK4 ?_
    refine wpC_ret ?_
    refine QH_ret rfl (RV.tmp rfl RV.nil) rfl ?_
    obtain rfl := Option.some.inj H
    replace hS := hS.cut 0
    exact ⟨rfl, hS⟩
  replace H := cond_t H hb
  refine wpS_put rfl rfl rfl (yv_fieldAddr fo_47_2 rfl) ?_
  refine wpS_put rfl rfl rfl (yv_load_box sc_3 rfl (RW.here _) hS hs0 trivial sg2_1) ?_
  obtain ⟨r7, hm8, H⟩ := bind_some H
  refine wpS_call rfl rfl rfl rfl (by kernel_rfl) rfl (c_ref06_number x0.value _ hm8) ?_
  rintro e w ⟨rfl, hN⟩; refine ⟨_, rfl, ?_⟩; have hB := hN.pure; have hS := hS.join hN; clear hN
  refine wpS_quick 2 rfl ?_
  refine wpS_case 26 rfl (fun hb => ?_) (fun hb => ?_)
  rotate_left
  · replace H := cond_f H hb
    refine wpS_quick 10 rfl ?_
    refine wpS_nil ?_
    refine QH_seq_k hK4 ?_
    refine wpC_ret ?_
    refine QH_ret rfl (RV.tmp rfl RV.nil) rfl ?_
    obtain rfl := Option.some.inj H
    replace hS := hS.cut 0
    exact ⟨rfl, hS⟩
  replace H := cond_t H hb
  refine wpS_put rfl rfl rfl (yv_fieldAddr fo_47_1 rfl) ?_
  refine wpS_put rfl rfl rfl (yv_load_box sc_3 rfl (RW.here _) hS hs0 trivial sg1_1) ?_
  refine wpS_put rfl rfl rfl (yv_eql rfl rfl) ?_
  refine wpS_quick 1 rfl ?_
  refine wpS_case 30 rfl (fun hb => ?_) (fun hb => ?_)
  · replace H := cond_t H hb
    refine wpS_quick 6 rfl ?_
    refine wpS_nil ?_
    refine QH_seq_k hK4 ?_
    refine wpC_ret ?_
    refine QH_ret rfl (RV.tmp rfl RV.nil) rfl ?_
    obtain rfl := Option.some.inj H
    replace hS := hS.cut 0
    exact ⟨rfl, hS⟩
  replace H := cond_f H hb
  refine wpS_put rfl rfl rfl (yv_fieldAddr fo_47_2 rfl) ?_
  refine wpS_put rfl rfl rfl (yv_load_box sc_3 rfl (RW.here _) hS hs0 trivial sg2_1) ?_
  refine wpS_put rfl rfl rfl (yv_eql rfl rfl) ?_
  refine wpS_quick 3 rfl ?_
  refine wpS_nil ?_
  refine QH_seq_k hK4 ?_
  refine wpC_ret ?_
  refine QH_ret rfl (RV.tmp rfl RV.nil) rfl ?_
  obtain rfl := Option.some.inj H
  replace hS := hS.cut 0
  exact ⟨rfl, hS⟩
theorem c_ref12_Right (x0 : Tu) (A0_ : Option Addr) (c0_ : Nat) (w0 : World) (s0_ : SlI w0 enE A0_ c0_ x0.log) {r : Bool} (H : m_ref12_Right x0 = some r) : Calls Try.prog 10 #[.agg #[.int .i64 x0.snap.index, .int .i64 x0.snap.term, .int .i64 x0.snap.sum, .int .i64 x0.snap.level, .bool x0.snap.final, .slice A0_ x0.log.length c0_, .int .i64 x0.term, .int .i64 x0.vote]] w0 fun e w' => e = .returned (.bool r) ∧ St0 All w0 w' [] := by
  unfold m_ref12_Right at H
  refine gw_enter1 Try.func10 rfl Try.ntmps10 rfl ?_
  have hS := St0.start All w0
  refine wpC_seq_k (fun K hK1 => ?_)
  refine wpC_region ?_
  refine wpS_box rfl rfl rfl CellsOf.agg hS (fun b2 w hS hB => ?_)
  refine wpS_quick 1 rfl ?_
  refine wpS_nil ?_
  refine QH_seq_k hK1 ?_
  refine wpC_seq_k (fun K hK4 => ?_)
  refine wpC_seq_k (fun K hK5 => ?_)
  refine wpC_region ?_
  refine wpS_put rfl rfl rfl (yv_fieldAddr fo_26_0 rfl) ?_
  refine wpS_put rfl rfl rfl (yv_load_boxA ag_23 rfl (RW.here _) hS hs0 trivial sg0_5) ?_
  obtain ⟨r6, hm7, H⟩ := bind_some H
  refine wpS_call rfl rfl rfl rfl (by kernel_rfl) rfl (c_ref06_Fine x0.snap _ hm7) ?_
  rintro e w ⟨rfl, hN⟩; refine ⟨_, rfl, ?_⟩; have hB := hN.pure; have hS := hS.join hN; clear hN
  refine wpS_put rfl rfl rfl (yv_not rfl) ?_
  refine wpS_quick 1 rfl ?_
  refine wpS_case 9 rfl (fun hb => ?_) (fun hb => ?_)
  · replace H := cond_t H hb
    refine wpS_quick 21 rfl ?_
    refine wpS_nil ?_
    refine QH_seq_k hK5 ?_
    refine wpC_cond_t rfl rfl ?_
    refine wpC_seq_k (fun K hK8 => ?_)
    refine wpC_region ?_
    refine wpS_quick 1 rfl ?_
    refine wpS_nil ?_
    refine QH_seq_k hK8 ?_
    refine wpC_ret ?_
    refine QH_then_ret ?_
    refine QH_ret rfl (RV.tmp rfl RV.nil) rfl ?_
    obtain rfl := Option.some.inj H
    replace hS := hS.cut 0
    exact ⟨rfl, hS⟩
  replace H := cond_f H hb
  refine wpS_put rfl rfl rfl (yv_fieldAddr fo_26_0 rfl) ?_
  refine wpS_put rfl rfl rfl (yv_fieldAddr fo_23_0 rfl) ?_
  refine wpS_put rfl rfl rfl (yv_load_box sc_3 rfl (RW.here _) hS hs0 trivial sg0_1) ?_
  refine wpS_put rfl rfl rfl (yv_gtr rfl rfl) ?_
  refine wpS_quick 2 rfl ?_
  refine wpS_case 15 rfl (fun hb => ?_) (fun hb => ?_)
  · replace H := cond_t H hb
    refine wpS_quick 15 rfl ?_
    refine wpS_nil ?_
    refine QH_seq_k hK5 ?_
    refine wpC_cond_t rfl rfl ?_
    refine wpC_seq_k (fun K hK9 => ?_)
    refine wpC_region ?_
    refine wpS_quick 1 rfl ?_
    refine wpS_nil ?_
    refine QH_seq_k hK9 ?_
    refine wpC_ret ?_
    refine QH_then_ret ?_
    refine QH_ret rfl (RV.tmp rfl RV.nil) rfl ?_
    obtain rfl := Option.some.inj H
    replace hS := hS.cut 0
    exact ⟨rfl, hS⟩
  replace H := cond_f H hb
  refine wpS_put rfl rfl rfl (yv_fieldAddr fo_26_1 rfl) ?_
  refine wpS_put rfl rfl rfl (yv_load_box sc_24 rfl (RW.here _) hS hs0 trivial sg5_1) ?_
  refine wpS_put rfl rfl rfl (yv_len el_24 rfl) ?_
  refine wpS_put rfl rfl rfl (yv_gtr rfl rfl) ?_
  refine wpS_quick 2 rfl ?_
  refine wpS_case 21 rfl (fun hb => ?_) (fun hb => ?_)
  · replace H := cond_t H hb
    refine wpS_quick 9 rfl ?_
    refine wpS_nil ?_
    refine QH_seq_k hK5 ?_
    refine wpC_cond_t rfl rfl ?_
    refine wpC_seq_k (fun K hK10 => ?_)
    refine wpC_region ?_
    refine wpS_quick 1 rfl ?_
    refine wpS_nil ?_
    refine QH_seq_k hK10 ?_
    refine wpC_ret ?_
    refine QH_then_ret ?_
    refine QH_ret rfl (RV.tmp rfl RV.nil) rfl ?_
    obtain rfl := Option.some.inj H
    replace hS := hS.cut 0
    exact ⟨rfl, hS⟩
  replace H := cond_f H hb
  refine wpS_put rfl rfl rfl (yv_fieldAddr fo_26_3 rfl) ?_
  refine wpS_put rfl rfl rfl (yv_load_box sc_3 rfl (RW.here _) hS hs0 trivial sg7_1) ?_
  refine wpS_put rfl rfl rfl (yv_lss rfl rfl) ?_
  refine wpS_quick 2 rfl ?_
  refine wpS_case 26 rfl (fun hb => ?_) (fun hb => ?_)
  · replace H := cond_t H hb
    refine wpS_quick 4 rfl ?_
    refine wpS_nil ?_
    refine QH_seq_k hK5 ?_
    refine wpC_cond_t rfl rfl ?_
    refine wpC_seq_k (fun K hK11 => ?_)
    refine wpC_region ?_
    refine wpS_quick 1 rfl ?_
    refine wpS_nil ?_
    refine QH_seq_k hK11 ?_
    refine wpC_ret ?_
    refine QH_then_ret ?_
    refine QH_ret rfl (RV.tmp rfl RV.nil) rfl ?_
    obtain rfl := Option.some.inj H
    replace hS := hS.cut 0
    exact ⟨rfl, hS⟩
  replace H := cond_f H hb
  refine wpS_put rfl rfl rfl (yv_fieldAddr fo_26_3 rfl) ?_
  refine wpS_put rfl rfl rfl (yv_load_box sc_3 rfl (RW.here _) hS hs0 trivial sg7_1) ?_
  refine wpS_put rfl rfl rfl (yv_gtr rfl rfl) ?_
  refine wpS_quick 1 rfl ?_
  refine wpS_nil ?_
  refine QH_seq_k hK5 ?_
  refine wpC_cond rfl (fun hb => ?_) (fun hb => ?_)
  · replace H := cond_t H hb
    refine wpC_seq_k (fun K hK12 => ?_)
    refine wpC_region ?_
    refine wpS_quick 1 rfl ?_
    refine wpS_nil ?_
    refine QH_seq_k hK12 ?_
    refine wpC_ret ?_
    refine QH_then_ret ?_
    refine QH_ret rfl (RV.tmp rfl RV.nil) rfl ?_
    obtain rfl := Option.some.inj H
    replace hS := hS.cut 0
    exact ⟨rfl, hS⟩
  replace H := cond_f H hb
  refine wpC_skip ?_
  refine QH_seq_k hK4 ?_
  refine wpC_seq_k (fun K hK13 => ?_)
  refine wpC_region ?_
  refine wpS_put rfl rfl rfl (yv_fieldAddr fo_26_0 rfl) ?_
  refine wpS_put rfl rfl rfl (yv_fieldAddr fo_23_1 rfl) ?_
  refine wpS_put rfl rfl rfl (yv_load_box sc_3 rfl (RW.here _) hS hs0 trivial sg1_1) ?_
  refine wpS_quick 1 rfl ?_
  refine wpS_nil ?_
  refine QH_seq_k hK13 ?_
  refine wpC_seq_k (fun K hK14 => ?_)
  refine wpC_seq_k (fun K hK15 => ?_)
  refine wpC_region ?_
  refine wpS_quick 1 rfl ?_
  refine wpS_nil ?_
  refine QH_seq_k hK15 ?_
  refine wpC_block ?_
  refine wpC_loop (X := Nat × Bool × Int × Int) (fun x => (1, .pointer (some ⟨b2, 0, none⟩)) :: (2, .bool x.2.1) :: (3, .int .i64 x.2.2.1) :: (4, .int .i64 x.2.2.2) :: []) (fun x w => St0 All w0 w (.box b2 [.int .i64 x0.snap.index, .int .i64 x0.snap.term, .int .i64 x0.snap.sum, .int .i64 x0.snap.level, .bool x0.snap.final, .slice A0_ x0.log.length c0_, .int .i64 x0.term, .int .i64 x0.vote] 26 :: []) ∧ m_ref12_Right_l1 x0 x.1 x.2.1 x.2.2.1 x.2.2.2 = some r) (fun x => x.1) (fuelN, false, x0.snap.term, 0) (by repeat (first | exact Sub.nil | refine Sub.cons rfl ?_)) ⟨hS, H⟩ ?_
  rintro ⟨n, v16, v17, v18⟩ w ⟨hS, H⟩
  dsimp only at hS H ⊢
  obtain _ | n := n
  · have H0 : none = some r := H
    cases H0
  rw [m_ref12_Right_l1] at H
  refine wpC_seq_k (fun K hK19 => ?_)
  refine wpC_seq_k (fun K hK20 => ?_)
  refine wpC_region ?_
  refine wpS_quick 1 rfl ?_
  refine wpS_put rfl rfl rfl (yv_fieldAddr fo_26_1 rfl) ?_
  refine wpS_put rfl rfl rfl (yv_load_box sc_24 rfl (RW.here _) hS hs0 trivial sg5_1) ?_
  refine wpS_put rfl rfl rfl (yv_len el_24 rfl) ?_
  refine wpS_put rfl rfl rfl (yv_lss rfl rfl) ?_
  refine wpS_nil ?_
  refine QH_seq_k hK20 ?_
  refine wpC_cond rfl (fun hb => ?_) (fun hb => ?_)
  rotate_left
  · replace H := cond_f H hb
    refine wpC_exit ?_
    refine QH_then_exit ?_
    refine QH_then_exit ?_
    refine QH_block_hit ?_
    refine QH_seq_k hK14 ?_
    refine wpC_seq_k (fun K hK37 => ?_)
    refine wpC_region ?_
    refine wpS_put rfl rfl rfl (yv_fieldAddr fo_26_2 rfl) ?_
    refine wpS_put rfl rfl rfl (yv_load_box sc_3 rfl (RW.here _) hS hs0 trivial sg6_1) ?_
    refine wpS_quick 1 rfl ?_
    refine wpS_put rfl rfl rfl (yv_geq rfl rfl) ?_
    refine wpS_quick 1 rfl ?_
    refine wpS_case 68 rfl (fun hb => ?_) (fun hb => ?_)
    rotate_left
    · replace H := cond_f H hb
      refine wpS_quick 10 rfl ?_
      refine wpS_nil ?_
      refine QH_seq_k hK37 ?_
      refine wpC_ret ?_
      refine QH_ret rfl (RV.tmp rfl RV.nil) rfl ?_
      obtain rfl := Option.some.inj H
      replace hS := hS.cut 0
      exact ⟨rfl, hS⟩
    replace H := cond_t H hb
    refine wpS_put rfl rfl rfl (yv_fieldAddr fo_26_2 rfl) ?_
    refine wpS_put rfl rfl rfl (yv_load_box sc_3 rfl (RW.here _) hS hs0 trivial sg6_1) ?_
    refine wpS_put rfl rfl rfl (yv_geq rfl rfl) ?_
    refine wpS_quick 2 rfl ?_
    refine wpS_case 73 rfl (fun hb => ?_) (fun hb => ?_)
    rotate_left
    · replace H := cond_f H hb
      refine wpS_quick 5 rfl ?_
      refine wpS_nil ?_
      refine QH_seq_k hK37 ?_
      refine wpC_ret ?_
      refine QH_ret rfl (RV.tmp rfl RV.nil) rfl ?_
      obtain rfl := Option.some.inj H
      replace hS := hS.cut 0
      exact ⟨rfl, hS⟩
    replace H := cond_t H hb
    refine wpS_put rfl rfl rfl (yv_fieldAddr fo_26_2 rfl) ?_
    refine wpS_put rfl rfl rfl (yv_load_box sc_3 rfl (RW.here _) hS hs0 trivial sg6_1) ?_
    refine wpS_put rfl rfl rfl (yv_leq rfl rfl) ?_
    refine wpS_quick 2 rfl ?_
    refine wpS_nil ?_
    refine QH_seq_k hK37 ?_
    refine wpC_ret ?_
    refine QH_ret rfl (RV.tmp rfl RV.nil) rfl ?_
    obtain rfl := Option.some.inj H
    replace hS := hS.cut 0
    exact ⟨rfl, hS⟩
  replace H := cond_t H hb
  refine wpC_skip ?_
  refine QH_seq_k hK19 ?_
  refine wpC_seq_k (fun K hK21 => ?_)
  refine wpC_block ?_
  refine wpC_seq_k (fun K hK22 => ?_)
  refine wpC_seq_k (fun K hK23 => ?_)
  refine wpC_region ?_
  refine wpS_put rfl rfl rfl (yv_fieldAddr fo_26_1 rfl) ?_
  refine wpS_put rfl rfl rfl (yv_load_box sc_24 rfl (RW.here _) hS hs0 trivial sg5_1) ?_
  refine wpS_quick 1 rfl ?_
  obtain ⟨e24, hi26, H⟩ := bind_some H
  obtain ⟨j25, hi26a, hi26b, hi26c⟩ := idx_some hi26
  refine wpS_put rfl rfl rfl (yx_idx el_24 rfl rfl hi26a hi26c (Rd.el (hS.rd0 s0_.rd) he_enE hi26b)) ?_
  refine wpS_put rfl rfl rfl (yx_ldA0 ag_47 rfl (RW.here _) (Rd.el (hS.rd0 s0_.rd) he_enE hi26b) sg0_3) ?_
  obtain ⟨r27, hm28, H⟩ := bind_some H
  refine wpS_call rfl rfl rfl rfl (by kernel_rfl) rfl (c_ref06_Right e24 _ hm28) ?_
  rintro e w ⟨rfl, hN⟩; refine ⟨_, rfl, ?_⟩; have hB := hN.pure; have hS := hS.join hN; clear hN
  refine wpS_put rfl rfl rfl (yv_not rfl) ?_
  refine wpS_quick 1 rfl ?_
  refine wpS_case 48 rfl (fun hb => ?_) (fun hb => ?_)
  · replace H := cond_t H hb
    refine wpS_quick 9 rfl ?_
    refine wpS_nil ?_
    refine QH_seq_k hK23 ?_
    refine wpC_cond_t rfl rfl ?_
    refine wpC_seq_k (fun K hK29 => ?_)
    refine wpC_region ?_
    refine wpS_quick 1 rfl ?_
    refine wpS_nil ?_
    refine QH_seq_k hK29 ?_
    refine wpC_ret ?_
    refine QH_then_ret ?_
    refine QH_block_ret ?_
    refine QH_then_ret ?_
    refine QH_then_ret ?_
    refine QH_block_ret ?_
    refine QH_then_ret ?_
    refine QH_ret rfl (RV.tmp rfl RV.nil) rfl ?_
    obtain rfl := Option.some.inj H
    replace hS := hS.cut 0
    exact ⟨rfl, hS⟩
  replace H := cond_f H hb
  refine wpS_put rfl rfl rfl (yv_fieldAddr fo_26_1 rfl) ?_
  refine wpS_put rfl rfl rfl (yv_load_box sc_24 rfl (RW.here _) hS hs0 trivial sg5_1) ?_
  refine wpS_quick 1 rfl ?_
  obtain ⟨e30, hi32, H⟩ := bind_some H
  obtain ⟨j31, hi32a, hi32b, hi32c⟩ := idx_some hi32
  refine wpS_put rfl rfl rfl (yx_idx el_24 rfl rfl hi32a hi32c (Rd.el (hS.rd0 s0_.rd) he_enE hi32b)) ?_
  refine wpS_put rfl rfl rfl (yx_fieldAddr fo_47_0 rfl (Rd.el (hS.rd0 s0_.rd) he_enE hi32b)) ?_
  refine wpS_put rfl rfl rfl (yx_ld0 sc_3 rfl (RW.here _) (Rd.el (hS.rd0 s0_.rd) he_enE hi32b) rfl) ?_
  refine wpS_quick 1 rfl ?_
  refine wpS_put rfl rfl rfl (yv_lss rfl rfl) ?_
  refine wpS_quick 1 rfl ?_
  refine wpS_nil ?_
  refine QH_seq_k hK23 ?_
  refine wpC_cond rfl (fun hb => ?_) (fun hb => ?_)
  · replace H := cond_t H hb
    refine wpC_seq_k (fun K hK33 => ?_)
    refine wpC_region ?_
    refine wpS_quick 1 rfl ?_
    refine wpS_nil ?_
    refine QH_seq_k hK33 ?_
    refine wpC_ret ?_
    refine QH_then_ret ?_
    refine QH_block_ret ?_
    refine QH_then_ret ?_
    refine QH_then_ret ?_
    refine QH_block_ret ?_
    refine QH_then_ret ?_
    refine QH_ret rfl (RV.tmp rfl RV.nil) rfl ?_
    obtain rfl := Option.some.inj H
    replace hS := hS.cut 0
    exact ⟨rfl, hS⟩
  replace H := cond_f H hb
  refine wpC_skip ?_
  refine QH_seq_k hK22 ?_
  refine wpC_region ?_
  refine wpS_put rfl rfl rfl (yv_fieldAddr fo_26_1 rfl) ?_
  refine wpS_put rfl rfl rfl (yv_load_box sc_24 rfl (RW.here _) hS hs0 trivial sg5_1) ?_
  refine wpS_quick 1 rfl ?_
  obtain ⟨e34, hi36, H⟩ := bind_some H
  obtain ⟨j35, hi36a, hi36b, hi36c⟩ := idx_some hi36
  refine wpS_put rfl rfl rfl (yx_idx el_24 rfl rfl hi36a hi36c (Rd.el (hS.rd0 s0_.rd) he_enE hi36b)) ?_
  refine wpS_put rfl rfl rfl (yx_fieldAddr fo_47_0 rfl (Rd.el (hS.rd0 s0_.rd) he_enE hi36b)) ?_
  refine wpS_put rfl rfl rfl (yx_ld0 sc_3 rfl (RW.here _) (Rd.el (hS.rd0 s0_.rd) he_enE hi36b) rfl) ?_
  refine wpS_quick 1 rfl ?_
  refine wpS_nil ?_
  refine QH_block_normal ?_
  refine QH_seq_k hK21 ?_
  refine wpC_region ?_
  refine wpS_quick 1 rfl ?_
  refine wpS_put rfl rfl rfl (yx_add rfl rfl) ?_
  refine wpS_quick 1 rfl ?_
  refine wpS_nil ?_
  exact QH_again (n, v16, e34.term, (IntKind.wrap .i64 (v18 + 1))) (by repeat (first | exact Sub.nil | refine Sub.cons rfl ?_)) ⟨hS, H⟩ (Nat.lt_succ_self _)
theorem c_ref12_First (w0 : World) {r : Tu} (H : m_ref12_First = some r) : Calls Try.prog 37 #[] w0 fun e w' => ∃ (A0 : Option Addr) (c0 : Nat), e = .returned (.agg #[.int .i64 r.snap.index, .int .i64 r.snap.term, .int .i64 r.snap.sum, .int .i64 r.snap.level, .bool r.snap.final, .slice A0 r.log.length c0, .int .i64 r.term, .int .i64 r.vote]) ∧ (r.log.length ≤ c0 ∧ c0 ≤ maxLen) ∧ St0 All w0 w' [.rd A0 (encs enE r.log)] := by
  unfold m_ref12_First at H
  refine gw_enter0 Try.func37 rfl Try.ntmps37 rfl ?_
  have hS := St0.start All w0
  refine wpC_seq_k (fun K hK1 => ?_)
  refine wpC_region ?_
  refine wpS_alloc rfl rfl zc_26 hS (fun b2 w hS hB => ?_)
  refine wpS_nil ?_
  refine QH_seq_k hK1 ?_
  refine wpC_seq_k (fun K hK4 => ?_)
  refine wpC_region ?_
  obtain ⟨r5, hm6, H⟩ := bind_some H
  refine wpS_call rfl rfl rfl rfl (by kernel_rfl) rfl (c_ref06_First _ hm6) ?_
  rintro e w ⟨rfl, hN⟩; refine ⟨_, rfl, ?_⟩; have hB := hN.pure; have hS := hS.join hN; clear hN
  refine wpS_put rfl rfl rfl (yv_build (cells := [.int .i64 r5.index, .int .i64 r5.term, .int .i64 r5.sum, .int .i64 r5.level, .bool r5.final, .slice none 0 0, .int .i64 0, .int .i64 0]) rfl (by kernel_rfl)) ?_
  refine wpS_store rfl rfl rfl CellsOf.agg hS ps0 st0_8 (by kernel_rfl) rfl (fun w hS hB => ?_)
  refine wpS_nil ?_
  refine QH_seq_k hK4 ?_
  refine wpC_ret ?_
  refine QH_ret rfl (RV.cell rfl (load_boxA ag_26 hS hs0 sg0_8) RV.nil) rfl ?_
  obtain rfl := Option.some.inj H
  have hS := hS.nilRd
  replace hS := hS.cut 1
  exact ⟨none, 0, rfl, ⟨Nat.le_refl _, Nat.zero_le _⟩, hS⟩
theorem c_msg_within (x0 : Int) (x1 : Int) (x2 : Int) (w0 : World) {r : Bool} (H : m_msg_within x0 x1 x2 = some r) : Calls Try.prog 41 #[.int .i64 x0, .int .i64 x1, .int .i64 x2] w0 fun e w' => e = .returned (.bool r) ∧ St0 All w0 w' [] := by
  unfold m_msg_within at H
  refine gw_enter3 Try.func41 rfl Try.ntmps41 rfl ?_
  have hS := St0.start All w0
  refine wpC_seq_k (fun K hK1 => ?_)
  refine wpC_region ?_
  refine wpS_quick 1 rfl ?_
  refine wpS_nil ?_
  refine QH_seq_k hK1 ?_
  refine wpC_seq_k (fun K hK2 => ?_)
  refine wpC_region ?_
  refine wpS_quick 2 rfl ?_
  refine wpS_put rfl rfl rfl (yv_geq rfl rfl) ?_
  refine wpS_quick 1 rfl ?_
  refine wpS_case 10 rfl (fun hb => ?_) (fun hb => ?_)
  rotate_left
  · replace H := cond_f H hb
    refine wpS_quick 5 rfl ?_
    refine wpS_nil ?_
    refine QH_seq_k hK2 ?_
    refine wpC_ret ?_
    refine QH_ret rfl (RV.tmp rfl RV.nil) rfl ?_
    obtain rfl := Option.some.inj H
    replace hS := hS.cut 0
    exact ⟨rfl, hS⟩
  replace H := cond_t H hb
  refine wpS_quick 2 rfl ?_
  refine wpS_put rfl rfl rfl (yv_leq rfl rfl) ?_
  refine wpS_quick 2 rfl ?_
  refine wpS_nil ?_
  refine QH_seq_k hK2 ?_
  refine wpC_ret ?_
  refine QH_ret rfl (RV.tmp rfl RV.nil) rfl ?_
  obtain rfl := Option.some.inj H
  replace hS := hS.cut 0
  exact ⟨rfl, hS⟩
theorem c_slices_Clone___api_Entry_api_Entry_ (x0 : List En) (A0_ : Option Addr) (c0_ : Nat) (w0 : World) (s0_ : SlI w0 enE A0_ c0_ x0) {r : List En} (H : m_slices_Clone___api_Entry_api_Entry_ x0 = some r) : Calls Try.prog 57 #[.slice A0_ x0.length c0_] w0 fun e w' => ∃ (A0 : Option Addr) (c0 : Nat), e = .returned (.slice A0 r.length c0) ∧ (r.length ≤ c0 ∧ c0 ≤ maxLen) ∧ St0 All w0 w' [.row (.slice A0 r.length c0) 47 3 r.length (encs enE r)] := by
  unfold m_slices_Clone___api_Entry_api_Entry_ at H
  obtain ⟨rfl, hfew⟩ := fewI_some H
  cases A0_ with
  | none =>
    obtain rfl : r = [] := by
      cases r with
      | nil => rfl
      | cons e l => obtain ⟨b, o, h, _⟩ := s0_.rd 0 _ rfl; cases h
    refine gw_enter1 Try.func57 rfl Try.ntmps57 rfl ?_
    have hS := St0.start All w0
    refine wpC_seq_k (fun K hK1 => ?_)
    refine wpC_region ?_
    refine wpS_quick 1 rfl ?_
    refine wpS_nil ?_
    refine QH_seq_k hK1 ?_
    refine wpC_seq_k (fun K hK2 => ?_)
    refine wpC_seq_k (fun K hK3 => ?_)
    refine wpC_region ?_
    refine wpS_quick 1 rfl ?_
    refine wpS_put rfl rfl rfl (yv_eqlNil (e := 47) (by kernel_rfl) rfl rfl) ?_
    refine wpS_nil ?_
    refine QH_seq_k hK3 ?_
    refine wpC_cond_t rfl rfl ?_
    refine wpC_seq_k (fun K hK4 => ?_)
    refine wpC_region ?_
    refine wpS_quick 1 rfl ?_
    refine wpS_nil ?_
    refine QH_seq_k hK4 ?_
    refine wpC_ret ?_
    refine QH_then_ret ?_
    refine QH_ret rfl (RV.tmp rfl RV.nil) rfl ?_
    have hS := hS.nilRow 47 3
    replace hS := hS.cut 1
    exact ⟨none, 0, rfl, ⟨Nat.le_refl _, Nat.zero_le _⟩, hS⟩
  | some a0 =>
    refine gw_enter1 Try.func57 rfl Try.ntmps57 rfl ?_
    have hS := St0.start All w0
    have H : (fewI ([] ++ r)).bind (fun z => some z) = some r := by rw [List.nil_append, H]; rfl
    refine wpC_seq_k (fun K hK5 => ?_)
    refine wpC_region ?_
    refine wpS_quick 1 rfl ?_
    refine wpS_nil ?_
    refine QH_seq_k hK5 ?_
    refine wpC_seq_k (fun K hK6 => ?_)
    refine wpC_seq_k (fun K hK7 => ?_)
    refine wpC_region ?_
    refine wpS_quick 1 rfl ?_
    refine wpS_put rfl rfl rfl (yv_eqlNil (e := 47) (by kernel_rfl) rfl rfl) ?_
    refine wpS_nil ?_
    refine QH_seq_k hK7 ?_
    refine wpC_cond_f rfl rfl ?_
    refine wpC_skip ?_
    refine QH_seq_k hK6 ?_
    refine wpC_seq_k (fun K hK8 => ?_)
    refine wpC_region ?_
    refine wpS_slice0 el_24 rfl rfl hS (fun b9 w hS hB => ?_)
    refine wpS_quick 1 rfl ?_
    obtain ⟨l11, hf12, H⟩ := bind_some H
    refine wpX_append (ys := r) he_enE oc_enE em_24 (by decide) rfl rfl rfl rfl hS (fun _ => ps0) (hS.rd0 s0_.rd) hf12 (fun A13 c14 w k15 hS => ?_)
    refine wpS_quick 1 rfl ?_
    refine wpS_nil ?_
    refine QH_seq_k hK8 ?_
    refine wpC_ret ?_
    refine QH_ret rfl (RV.tmp rfl RV.nil) rfl ?_
    obtain rfl := Option.some.inj H
    have hS := hS.front 0 rfl
    replace hS := hS.cut 1
    exact ⟨A13, c14, rfl, k15, hS⟩
theorem c_tuple_Own (x0 : Tu) (A0_ : Option Addr) (c0_ : Nat) (w0 : World) (s0_ : SlI w0 enE A0_ c0_ x0.log) {r : Tu} (H : m_tuple_Own x0 = some r) : Calls Try.prog 42 #[.agg #[.int .i64 x0.snap.index, .int .i64 x0.snap.term, .int .i64 x0.snap.sum, .int .i64 x0.snap.level, .bool x0.snap.final, .slice A0_ x0.log.length c0_, .int .i64 x0.term, .int .i64 x0.vote]] w0 fun e w' => ∃ (A0 : Option Addr) (c0 : Nat), e = .returned (.agg #[.int .i64 r.snap.index, .int .i64 r.snap.term, .int .i64 r.snap.sum, .int .i64 r.snap.level, .bool r.snap.final, .slice A0 r.log.length c0, .int .i64 r.term, .int .i64 r.vote]) ∧ (r.log.length ≤ c0 ∧ c0 ≤ maxLen) ∧ St0 All w0 w' [.row (.slice A0 r.log.length c0) 47 3 r.log.length (encs enE r.log)] := by
  unfold m_tuple_Own at H
  refine gw_enter1 Try.func42 rfl Try.ntmps42 rfl ?_
  have hS := St0.start All w0
  refine wpC_seq_k (fun K hK1 => ?_)
  refine wpC_region ?_
  refine wpS_box rfl rfl rfl CellsOf.agg hS (fun b2 w hS hB => ?_)
  refine wpS_alloc rfl rfl zc_26 hS (fun b4 w hS hB => ?_)
  refine wpS_nil ?_
  refine QH_seq_k hK1 ?_
  refine wpC_seq_k (fun K hK6 => ?_)
  refine wpC_region ?_
  refine wpS_put rfl rfl rfl (yv_fieldAddr fo_26_1 rfl) ?_
  refine wpS_put rfl rfl rfl (yv_load_box sc_24 rfl (RW.here _) hS hs1 trivial sg5_1) ?_
  obtain ⟨r7, hm8, H⟩ := bind_some H
  refine wpS_call rfl rfl rfl rfl (by kernel_rfl) rfl (c_slices_Clone___api_Entry_api_Entry_ x0.log A0_ c0_ _ (SlI.of_rd s0_.k (hS.rd0 s0_.rd) (hS.blk0 s0_.blk)) hm8) ?_
  rintro e w ⟨A9, c10, rfl, k11, hN⟩; refine ⟨_, rfl, ?_⟩; have hB := hN.pure; have hS := hS.join hN; clear hN
  refine wpS_put rfl rfl rfl (yv_fieldAddr fo_26_1 rfl) ?_
  refine wpS_store rfl rfl rfl CellsOf.slice hS ps2 st5_1 (by kernel_rfl) rfl (fun w hS hB => ?_)
  refine wpS_nil ?_
  refine QH_seq_k hK6 ?_
  refine wpC_seq_k (fun K hK13 => ?_)
  refine wpC_region ?_
  refine wpS_put rfl rfl rfl (yv_load_boxA ag_26 rfl (RW.here _) hS hs2 trivial sg0_8) ?_
  refine wpS_store rfl rfl rfl CellsOf.agg hS ps1 st0_8 (by kernel_rfl) rfl (fun w hS hB => ?_)
  refine wpS_nil ?_
  refine QH_seq_k hK13 ?_
  refine wpC_ret ?_
  refine QH_ret rfl (RV.cell rfl (load_boxA ag_26 hS hs1 sg0_8) RV.nil) rfl ?_
  obtain rfl := Option.some.inj H
  have hS := hS.front 0 rfl
  replace hS := hS.cut 1
  exact ⟨A9, c10, rfl, k11, hS⟩
theorem c_tuple_Last (x0 : Tu) (A0_ : Option Addr) (c0_ : Nat) (w0 : World) (s0_ : SlI w0 enE A0_ c0_ x0.log) {r : Int} (H : m_tuple_Last x0 = some r) : Calls Try.prog 44 #[.agg #[.int .i64 x0.snap.index, .int .i64 x0.snap.term, .int .i64 x0.snap.sum, .int .i64 x0.snap.level, .bool x0.snap.final, .slice A0_ x0.log.length c0_, .int .i64 x0.term, .int .i64 x0.vote]] w0 fun e w' => e = .returned (.int .i64 r) ∧ St0 All w0 w' [] := by
  unfold m_tuple_Last at H
  refine gw_enter1 Try.func44 rfl Try.ntmps44 rfl ?_
  have hS := St0.start All w0
  refine wpC_seq_k (fun K hK1 => ?_)
  refine wpC_region ?_
  refine wpS_box rfl rfl rfl CellsOf.agg hS (fun b2 w hS hB => ?_)
  refine wpS_quick 1 rfl ?_
  refine wpS_nil ?_
  refine QH_seq_k hK1 ?_
  refine wpC_seq_k (fun K hK4 => ?_)
  refine wpC_region ?_
  refine wpS_put rfl rfl rfl (yv_fieldAddr fo_26_0 rfl) ?_
  refine wpS_put rfl rfl rfl (yv_fieldAddr fo_23_0 rfl) ?_
  refine wpS_put rfl rfl rfl (yv_load_box sc_3 rfl (RW.here _) hS hs0 trivial sg0_1) ?_
  refine wpS_put rfl rfl rfl (yv_fieldAddr fo_26_1 rfl) ?_
  refine wpS_put rfl rfl rfl (yv_load_box sc_24 rfl (RW.here _) hS hs0 trivial sg5_1) ?_
  refine wpS_put rfl rfl rfl (yv_len el_24 rfl) ?_
  refine wpS_put rfl rfl rfl (yx_add rfl rfl) ?_
  refine wpS_quick 1 rfl ?_
  refine wpS_nil ?_
  refine QH_seq_k hK4 ?_
  refine wpC_ret ?_
  refine QH_ret rfl (RV.tmp rfl RV.nil) rfl ?_
  obtain rfl := Option.some.inj H
  replace hS := hS.cut 0
  exact ⟨rfl, hS⟩
theorem c_math_bits_Mul64 (x0 : Int) (x1 : Int) (w0 : World) {r : Int × Int} (H : m_math_bits_Mul64 x0 x1 = some r) : Calls Try.prog 96 #[.int .u64 x0, .int .u64 x1] w0 fun e w' => e = .returned (.tuple #[.int .u64 r.1, .int .u64 r.2]) ∧ St0 All w0 w' [] := by
  unfold m_math_bits_Mul64 at H
  refine gw_enter2 Try.func96 rfl Try.ntmps96 rfl ?_
  have hS := St0.start All w0
  refine wpC_seq_k (fun K hK1 => ?_)
  refine wpC_region ?_
  refine wpS_quick 2 rfl ?_
  refine wpS_nil ?_
  refine QH_seq_k hK1 ?_
  refine wpC_seq_k (fun K hK2 => ?_)
  refine wpC_region ?_
  refine wpS_quick 1 rfl ?_
  refine wpS_put rfl rfl rfl (yx_and rfl rfl) ?_
  refine wpS_quick 1 rfl ?_
  refine wpS_nil ?_
  refine QH_seq_k hK2 ?_
  refine wpC_seq_k (fun K hK3 => ?_)
  refine wpC_region ?_
  refine wpS_quick 1 rfl ?_
  refine wpS_put rfl rfl rfl (yx_shr rfl rfl (by decide)) ?_
  refine wpS_quick 1 rfl ?_
  refine wpS_nil ?_
  refine QH_seq_k hK3 ?_
  refine wpC_seq_k (fun K hK4 => ?_)
  refine wpC_region ?_
  refine wpS_quick 1 rfl ?_
  refine wpS_put rfl rfl rfl (yx_and rfl rfl) ?_
  refine wpS_quick 1 rfl ?_
  refine wpS_nil ?_
  refine QH_seq_k hK4 ?_
  refine wpC_seq_k (fun K hK5 => ?_)
  refine wpC_region ?_
  refine wpS_quick 1 rfl ?_
  refine wpS_put rfl rfl rfl (yx_shr rfl rfl (by decide)) ?_
  refine wpS_quick 1 rfl ?_
  refine wpS_nil ?_
  refine QH_seq_k hK5 ?_
  refine wpC_seq_k (fun K hK6 => ?_)
  refine wpC_region ?_
  refine wpS_quick 2 rfl ?_
  refine wpS_put rfl rfl rfl (yx_mul rfl rfl) ?_
  refine wpS_quick 1 rfl ?_
  refine wpS_nil ?_
  refine QH_seq_k hK6 ?_
  refine wpC_seq_k (fun K hK7 => ?_)
  refine wpC_region ?_
  refine wpS_quick 2 rfl ?_
  refine wpS_put rfl rfl rfl (yx_mul rfl rfl) ?_
  refine wpS_quick 1 rfl ?_
  refine wpS_put rfl rfl rfl (yx_shr rfl rfl (by decide)) ?_
  refine wpS_put rfl rfl rfl (yx_add rfl rfl) ?_
  refine wpS_quick 1 rfl ?_
  refine wpS_nil ?_
  refine QH_seq_k hK7 ?_
  refine wpC_seq_k (fun K hK8 => ?_)
  refine wpC_region ?_
  refine wpS_quick 1 rfl ?_
  refine wpS_put rfl rfl rfl (yx_and rfl rfl) ?_
  refine wpS_quick 1 rfl ?_
  refine wpS_nil ?_
  refine QH_seq_k hK8 ?_
  refine wpC_seq_k (fun K hK9 => ?_)
  refine wpC_region ?_
  refine wpS_quick 1 rfl ?_
  refine wpS_put rfl rfl rfl (yx_shr rfl rfl (by decide)) ?_
  refine wpS_quick 1 rfl ?_
  refine wpS_nil ?_
  refine QH_seq_k hK9 ?_
  refine wpC_seq_k (fun K hK10 => ?_)
  refine wpC_region ?_
  refine wpS_quick 3 rfl ?_
  refine wpS_put rfl rfl rfl (yx_mul rfl rfl) ?_
  refine wpS_put rfl rfl rfl (yx_add rfl rfl) ?_
  refine wpS_quick 1 rfl ?_
  refine wpS_nil ?_
  refine QH_seq_k hK10 ?_
  refine wpC_seq_k (fun K hK11 => ?_)
  refine wpC_region ?_
  refine wpS_quick 2 rfl ?_
  refine wpS_put rfl rfl rfl (yx_mul rfl rfl) ?_
  refine wpS_quick 1 rfl ?_
  refine wpS_put rfl rfl rfl (yx_add rfl rfl) ?_
  refine wpS_quick 1 rfl ?_
  refine wpS_put rfl rfl rfl (yx_shr rfl rfl (by decide)) ?_
  refine wpS_put rfl rfl rfl (yx_add rfl rfl) ?_
  refine wpS_quick 1 rfl ?_
  refine wpS_nil ?_
  refine QH_seq_k hK11 ?_
  refine wpC_seq_k (fun K hK12 => ?_)
  refine wpC_region ?_
  refine wpS_quick 2 rfl ?_
  refine wpS_put rfl rfl rfl (yx_mul rfl rfl) ?_
  refine wpS_quick 1 rfl ?_
  refine wpS_nil ?_
  refine QH_seq_k hK12 ?_
  refine wpC_ret ?_
  refine QH_ret rfl (RV.tmp rfl (RV.tmp rfl RV.nil)) rfl ?_
  obtain rfl := Option.some.inj H
  replace hS := hS.cut 0
  exact ⟨rfl, hS⟩
theorem c_math_bits_Mul (x0 : Int) (x1 : Int) (w0 : World) {r : Int × Int} (H : m_math_bits_Mul x0 x1 = some r) : Calls Try.prog 80 #[.int .u64 x0, .int .u64 x1] w0 fun e w' => e = .returned (.tuple #[.int .u64 r.1, .int .u64 r.2]) ∧ St0 All w0 w' [] := by
  unfold m_math_bits_Mul at H
  refine gw_enter2 Try.func80 rfl Try.ntmps80 rfl ?_
  have hS := St0.start All w0
  refine wpC_seq_k (fun K hK1 => ?_)
  refine wpC_region ?_
  refine wpS_quick 2 rfl ?_
  refine wpS_nil ?_
  refine QH_seq_k hK1 ?_
  refine wpC_seq_k (fun K hK2 => ?_)
  refine wpC_cond_f rfl rfl ?_
  refine wpC_skip ?_
  refine QH_seq_k hK2 ?_
  refine wpC_seq_k (fun K hK3 => ?_)
  refine wpC_region ?_
  refine wpS_quick 2 rfl ?_
  obtain ⟨r4, hm5, H⟩ := bind_some H
  refine wpS_call rfl rfl rfl rfl (by kernel_rfl) rfl (c_math_bits_Mul64 x0 x1 _ hm5) ?_
  rintro e w ⟨rfl, hN⟩; refine ⟨_, rfl, ?_⟩; have hB := hN.pure; have hS := hS.join hN; clear hN
  refine wpS_quick 1 rfl ?_
  refine wpS_put rfl rfl rfl (yv_extract rfl rfl) ?_
  refine wpS_put rfl rfl rfl (yv_extract rfl rfl) ?_
  refine wpS_quick 2 rfl ?_
  refine wpS_nil ?_
  refine QH_seq_k hK3 ?_
  refine wpC_seq_k (fun K hK6 => ?_)
  refine wpC_region ?_
  refine wpS_quick 4 rfl ?_
  refine wpS_nil ?_
  refine QH_seq_k hK6 ?_
  refine wpC_ret ?_
  refine QH_ret rfl (RV.tmp rfl (RV.tmp rfl RV.nil)) rfl ?_
  obtain rfl := Option.some.inj H
  replace hS := hS.cut 0
  exact ⟨rfl, hS⟩
theorem c_slices_Repeat___int_int_ (x0 : List Int) (x1 : Int) (A0_ : Option Addr) (c0_ : Nat) (w0 : World) (s0_ : SlI w0 enI A0_ c0_ x0) {r : List Int} (H : m_slices_Repeat___int_int_ x0 x1 = some r) : Calls Try.prog 43 #[.slice A0_ x0.length c0_, .int .i64 x1] w0 fun e w' => ∃ (A0 : Option Addr) (c0 : Nat), e = .returned (.slice A0 r.length c0) ∧ (r.length ≤ c0 ∧ c0 ≤ maxLen) ∧ St0 All w0 w' [.row (.slice A0 r.length c0) 3 1 r.length (encs enI r)] := by
  unfold m_slices_Repeat___int_int_ at H
  refine gw_enter2 Try.func43 rfl Try.ntmps43 rfl ?_
  have hS := St0.start All w0
  refine wpC_seq_k (fun K hK1 => ?_)
  refine wpC_region ?_
  refine wpS_quick 1 rfl ?_
  refine wpS_nil ?_
  refine QH_seq_k hK1 ?_
  refine wpC_seq_k (fun K hK2 => ?_)
  refine wpC_seq_k (fun K hK3 => ?_)
  refine wpC_region ?_
  refine wpS_quick 1 rfl ?_
  refine wpS_put rfl rfl rfl (yv_lss rfl rfl) ?_
  refine wpS_nil ?_
  refine QH_seq_k hK3 ?_
  refine wpC_cond rfl (fun hb => ?_) (fun hb => ?_)
  · replace H := cond_t H hb
    cases H
  replace H := cond_f H hb
  refine wpC_skip ?_
  refine QH_seq_k hK2 ?_
  refine wpC_seq_k (fun K hK4 => ?_)
  refine wpC_region ?_
  refine wpS_quick 1 rfl ?_
  refine wpS_put rfl rfl rfl (yv_len el_30 rfl) ?_
  refine wpS_put rfl rfl rfl (yx_conv (k' := .u64) (by kernel_rfl) (by kernel_rfl) rfl) ?_
  refine wpS_quick 1 rfl ?_
  refine wpS_put rfl rfl rfl (yx_conv (k' := .u64) (by kernel_rfl) (by kernel_rfl) rfl) ?_
  obtain ⟨r5, hm6, H⟩ := bind_some H
  refine wpS_call rfl rfl rfl rfl (by kernel_rfl) rfl (c_math_bits_Mul (IntKind.wrap .u64 (x0.length : Int)) (IntKind.wrap .u64 x1) _ hm6) ?_
  rintro e w ⟨rfl, hN⟩; refine ⟨_, rfl, ?_⟩; have hB := hN.pure; have hS := hS.join hN; clear hN
  refine wpS_quick 1 rfl ?_
  refine wpS_put rfl rfl rfl (yv_extract rfl rfl) ?_
  refine wpS_put rfl rfl rfl (yv_extract rfl rfl) ?_
  refine wpS_quick 2 rfl ?_
  refine wpS_nil ?_
  refine QH_seq_k hK4 ?_
  refine wpC_seq_k (fun K hK7 => ?_)
  refine wpC_seq_k (fun K hK8 => ?_)
  refine wpC_region ?_
  refine wpS_quick 1 rfl ?_
  refine wpS_put rfl rfl rfl (yv_gtr rfl rfl) ?_
  refine wpS_quick 1 rfl ?_
  refine wpS_case 23 rfl (fun hb => ?_) (fun hb => ?_)
  · replace H := cond_t H hb
    refine wpS_quick 3 rfl ?_
    refine wpS_nil ?_
    refine QH_seq_k hK8 ?_
    refine wpC_cond_t rfl rfl ?_
    cases H
  replace H := cond_f H hb
  refine wpS_quick 1 rfl ?_
  refine wpS_put rfl rfl rfl (yv_gtr rfl rfl) ?_
  refine wpS_quick 1 rfl ?_
  refine wpS_nil ?_
  refine QH_seq_k hK8 ?_
  refine wpC_cond rfl (fun hb => ?_) (fun hb => ?_)
  · replace H := cond_t H hb
    cases H
  replace H := cond_f H hb
  refine wpC_skip ?_
  refine QH_seq_k hK7 ?_
  refine wpC_seq_k (fun K hK9 => ?_)
  refine wpC_region ?_
  refine wpS_quick 1 rfl ?_
  refine wpS_put rfl rfl rfl (yx_conv (k' := .i64) (by kernel_rfl) (by kernel_rfl) rfl) ?_
  obtain ⟨l10, hm11, H⟩ := bind_some H
  refine wpX_make he_enI em_30 rfl (by decide) rfl rfl rfl rfl hS hm11 (fun A12 c13 w k14 hS hB => ?_)
  refine wpS_quick 1 rfl ?_
  refine wpS_nil ?_
  refine QH_seq_k hK9 ?_
  refine wpC_seq_k (fun K hK16 => ?_)
  refine wpC_region ?_
  refine wpS_quick 2 rfl ?_
  refine wpX_copy (l := l10) (ys := x0) (k0 := 0) em_30 rfl rfl rfl rfl (.inr ⟨rfl, rfl⟩) rfl rfl k14.1 rfl (hS.rd0 s0_.rd) hS ps0 (fun w hS hB => ?_)
  refine wpS_quick 1 rfl ?_
  refine wpS_nil ?_
  refine QH_seq_k hK16 ?_
  refine wpC_seq_k (fun K hK17 => ?_)
  refine wpC_block ?_
  refine wpC_loop (X := Nat × Int × List Int) (fun x => (4, .slice none 0 0) :: (7, .slice A12 l10.length c13) :: (8, .int .i64 x.2.1) :: []) (fun x w => St0 All w0 w (.row (.slice A12 l10.length c13) 3 1 l10.length (encs enI x.2.2) :: []) ∧ (x.2.2.length ≤ c13 ∧ c13 ≤ maxLen) ∧ (x.2.2.length = l10.length) ∧ m_slices_Repeat___int_int__l1 l10 x.1 x.2.1 x.2.2 = some r) (fun x => x.1) (fuelN, ((min l10.length x0.length : Nat) : Int), (copyI l10 0 x0)) (by repeat (first | exact Sub.nil | refine Sub.cons rfl ?_)) ⟨hS, (k_len (copyI_len (Nat.zero_le _)) k14), ((copyI_len (Nat.zero_le _)).trans rfl), H⟩ ?_
  rintro ⟨n, v18, v19⟩ w ⟨hS, k20, hl21, H⟩
  dsimp only at hS k20 hl21 H ⊢
  obtain _ | n := n
  · have H0 : none = some r := H
    cases H0
  rw [m_slices_Repeat___int_int__l1] at H
  refine wpC_seq_k (fun K hK22 => ?_)
  refine wpC_seq_k (fun K hK23 => ?_)
  refine wpC_region ?_
  refine wpS_quick 2 rfl ?_
  refine wpS_put rfl rfl rfl (yv_len el_30 rfl) ?_
  refine wpS_put rfl rfl rfl (yv_lss rfl rfl) ?_
  refine wpS_nil ?_
  refine QH_seq_k hK23 ?_
  refine wpC_cond rfl (fun hb => ?_) (fun hb => ?_)
  rotate_left
  · replace H := cond_f H hb
    refine wpC_exit ?_
    refine QH_then_exit ?_
    refine QH_then_exit ?_
    refine QH_block_hit ?_
    refine QH_seq_k hK17 ?_
    refine wpC_seq_k (fun K hK28 => ?_)
    refine wpC_region ?_
    refine wpS_quick 2 rfl ?_
    refine wpS_nil ?_
    refine QH_seq_k hK28 ?_
    refine wpC_ret ?_
    refine QH_ret rfl (RV.tmp rfl RV.nil) rfl ?_
    obtain rfl := Option.some.inj H
    have hS := hS.front 0 rfl
    replace hS := hS.cut 1
    exact ⟨A12, c13, by rw [hl21]; rfl, k20, hS.eqv (by rw [hl21]; rfl)⟩
  replace H := cond_t H hb
  refine wpC_skip ?_
  refine QH_seq_k hK22 ?_
  refine wpC_block ?_
  refine wpC_draw 10 [7] (fun i b => (i = 7 → False)) ⟨by kernel_rfl, by kernel_rfl⟩ hS (fun w hS hB => ?_)
  refine wpR_batchG [true, true, true, false, true, true] [7] (fun _ => False) (by decide +kernel) (by intro j hj b hb; simp only [List.mem_cons, List.not_mem_nil, or_false] at hj; (try rcases hj with rfl | rfl | rfl | rfl | rfl) <;> simp_all) (by repeat (first | exact PF.body | exact PF.round | apply PF.then | apply PF.inBlock | apply PF.jump)) ?_
  refine LtK.put rfl rfl rfl (yv_move rfl) ?_
  refine LtK.put rfl rfl rfl (yv_move rfl) ?_
  refine LtK.put rfl rfl rfl (yv_move rfl) ?_
  refine LtK.put rfl rfl rfl (yv_move rfl) ?_
  refine LtK.put rfl rfl rfl (yv_move rfl) ?_
  refine LtK.nil ?_
  refine wpR_batch [false, false, false, true, false, false, true] (by decide +kernel) (by repeat (first | exact PF.body | exact PF.round | apply PF.then | apply PF.inBlock | apply PF.jump)) ?_
  obtain ⟨l24, hd25, H⟩ := bind_some H
  refine LtK.put rfl rfl rfl (yx_slice_l2 el_30 hl21 rfl rfl hd25) ?_
  obtain ⟨l26, ht27, H⟩ := bind_some H
  refine LtK.put rfl rfl rfl (yx_slice_h2 el_30 hl21 rfl rfl k20.1 ht27) ?_
  refine LtK.nil ?_
  refine wpR_seal [false, false, false, false, false, false, false, true] 7 ⟨by decide, by kernel_rfl, by kernel_rfl⟩ rfl rfl ?_
  try dsimp only [pickL]
  refine wpX_copy (l := v19) (ys := l26) (k0 := (Int.toNat v18)) em_30 rfl rfl rfl rfl (.inl rfl) ((dropI_len hd25).trans hl21) hl21 (Nat.le_trans (Nat.le_of_eq hl21.symm) k20.1) rfl (Rd.takeI he_enI (hS.row_rd hs0) ht27) hS ps0 (fun w hS hB => ?_)
  refine wpS_nil ?_
  refine QH_stepG (hB.sub (fun _ _ h => by simp at h)) ?_
  refine wpR_batch [false, false, false, false, false, false, false, false, true, true] (by decide +kernel) (by repeat (first | exact PF.body | exact PF.round | apply PF.then | apply PF.inBlock | apply PF.jump)) ?_
  refine LtK.put rfl rfl rfl (yx_add rfl rfl) ?_
  refine LtK.put rfl rfl rfl (yv_assign rfl) ?_
  refine LtK.nil ?_
  refine wpR_end (by kernel_rfl) ?_
  refine QH_block_normal ?_
  exact QH_again (n, (IntKind.wrap .i64 (v18 + ((min l24.length l26.length : Nat) : Int))), (copyI v19 (Int.toNat v18) l26)) (by repeat (first | exact Sub.nil | refine Sub.cons rfl ?_)) ⟨hS, (k_len (copyI_len (dropI_le hd25)) k20), ((copyI_len (dropI_le hd25)).trans hl21), H⟩ (Nat.lt_succ_self _)
theorem c_msg_New (x0 : Int) (x1 : Int) (x2 : Int) (x3 : Tu) (A0_ : Option Addr) (c0_ : Nat) (w0 : World) (s0_ : SlI w0 enE A0_ c0_ x3.log) {r : Co} (H : m_msg_New x0 x1 x2 x3 = some r) : Calls Try.prog 12 #[.int .i64 x0, .int .i64 x1, .int .i64 x2, .agg #[.int .i64 x3.snap.index, .int .i64 x3.snap.term, .int .i64 x3.snap.sum, .int .i64 x3.snap.level, .bool x3.snap.final, .slice A0_ x3.log.length c0_, .int .i64 x3.term, .int .i64 x3.vote]] w0 fun e w' => ∃ (A0 : Option Addr) (c0 : Nat) (A1 : Option Addr) (c1 : Nat) (A2 : Option Addr) (c2 : Nat) (A3 : Option Addr) (c3 : Nat) (A4 : Option Addr) (c4 : Nat), e = .returned (.agg #[.int .i64 r.id, .int .i64 r.n, .int .u8 r.role, .int .i64 r.binary, .int .i64 r.tuple.snap.index, .int .i64 r.tuple.snap.term, .int .i64 r.tuple.snap.sum, .int .i64 r.tuple.snap.level, .bool r.tuple.snap.final, .slice A0 r.tuple.log.length c0, .int .i64 r.tuple.term, .int .i64 r.tuple.vote, .int .i64 r.commit, .int .i64 r.applied.index, .int .i64 r.applied.term, .int .i64 r.applied.sum, .int .i64 r.applied.level, .bool r.applied.final, .slice A1 r.votes.length c1, .slice A2 r.next.length c2, .slice A3 r.mtch.length c3, .slice A4 r.caps.length c4]) ∧ (r.tuple.log.length ≤ c0 ∧ c0 ≤ maxLen) ∧ (r.votes.length ≤ c1 ∧ c1 ≤ maxLen) ∧ (r.next.length ≤ c2 ∧ c2 ≤ maxLen) ∧ (r.mtch.length ≤ c3 ∧ c3 ≤ maxLen) ∧ (r.caps.length ≤ c4 ∧ c4 ≤ maxLen) ∧ St0 All w0 w' [.row (.slice A0 r.tuple.log.length c0) 47 3 r.tuple.log.length (encs enE r.tuple.log), .row (.slice A1 r.votes.length c1) 4 1 r.votes.length (encs enO r.votes), .row (.slice A2 r.next.length c2) 3 1 r.next.length (encs enI r.next), .row (.slice A3 r.mtch.length c3) 3 1 r.mtch.length (encs enI r.mtch), .row (.slice A4 r.caps.length c4) 3 1 r.caps.length (encs enI r.caps)] := by
  unfold m_msg_New at H
  refine gw_enter4 Try.func12 rfl Try.ntmps12 rfl ?_
  have hS := St0.start All w0
  refine wpC_seq_k (fun K hK1 => ?_)
  refine wpC_region ?_
  refine wpS_box rfl rfl rfl CellsOf.agg hS (fun b2 w hS hB => ?_)
  refine wpS_alloc rfl rfl zc_32 hS (fun b4 w hS hB => ?_)
  refine wpS_nil ?_
  refine QH_seq_k hK1 ?_
  refine wpC_seq_k (fun K hK6 => ?_)
  refine wpC_seq_k (fun K hK7 => ?_)
  refine wpC_region ?_
  refine wpS_quick 1 rfl ?_
  refine wpS_put rfl rfl rfl (yv_gtr rfl rfl) ?_
  refine wpS_quick 1 rfl ?_
  refine wpS_case 12 rfl (fun hb => ?_) (fun hb => ?_)
  · replace H := cond_t H hb
    refine wpS_quick 5 rfl ?_
    refine wpS_nil ?_
    refine QH_seq_k hK7 ?_
    refine wpC_cond_t rfl rfl ?_
    refine wpC_seq_k (fun K hK8 => ?_)
    refine wpC_region ?_
    refine wpS_put rfl rfl rfl (yv_build (cells := [.int .i64 0, .int .i64 0, .int .u8 0, .int .i64 0, .int .i64 0, .int .i64 0, .int .i64 0, .int .i64 0, .bool false, .slice none 0 0, .int .i64 0, .int .i64 0, .int .i64 0, .int .i64 0, .int .i64 0, .int .i64 0, .int .i64 0, .bool false, .slice none 0 0, .slice none 0 0, .slice none 0 0, .slice none 0 0]) rfl (by kernel_rfl)) ?_
    refine wpS_store rfl rfl rfl CellsOf.agg hS ps0 st0_22 (by kernel_rfl) rfl (fun w hS hB => ?_)
    refine wpS_nil ?_
    refine QH_seq_k hK8 ?_
    refine wpC_ret ?_
    refine QH_then_ret ?_
    refine QH_ret rfl (RV.cell rfl (load_boxA ag_32 hS hs0 sg0_22) RV.nil) rfl ?_
    obtain rfl := Option.some.inj H
    have hS := hS.nilRow 3 1
    have hS := hS.nilRow 3 1
    have hS := hS.nilRow 3 1
    have hS := hS.nilRow 4 1
    have hS := hS.nilRow 47 3
    replace hS := hS.cut 5
    exact ⟨none, 0, none, 0, none, 0, none, 0, none, 0, rfl, ⟨Nat.le_refl _, Nat.zero_le _⟩, ⟨Nat.le_refl _, Nat.zero_le _⟩, ⟨Nat.le_refl _, Nat.zero_le _⟩, ⟨Nat.le_refl _, Nat.zero_le _⟩, ⟨Nat.le_refl _, Nat.zero_le _⟩, hS⟩
  replace H := cond_f H hb
  refine wpS_quick 2 rfl ?_
  obtain ⟨r9, hm10, H⟩ := bind_some H
  refine wpS_call rfl rfl rfl rfl (by kernel_rfl) rfl (c_msg_within x0 1 x1 _ hm10) ?_
  rintro e w ⟨rfl, hN⟩; refine ⟨_, rfl, ?_⟩; have hB := hN.pure; have hS := hS.join hN; clear hN
  refine wpS_put rfl rfl rfl (yv_not rfl) ?_
  refine wpS_quick 1 rfl ?_
  refine wpS_nil ?_
  refine QH_seq_k hK7 ?_
  refine wpC_cond rfl (fun hb => ?_) (fun hb => ?_)
  · replace H := cond_t H hb
    refine wpC_seq_k (fun K hK11 => ?_)
    refine wpC_region ?_
    refine wpS_put rfl rfl rfl (yv_build (cells := [.int .i64 0, .int .i64 0, .int .u8 0, .int .i64 0, .int .i64 0, .int .i64 0, .int .i64 0, .int .i64 0, .bool false, .slice none 0 0, .int .i64 0, .int .i64 0, .int .i64 0, .int .i64 0, .int .i64 0, .int .i64 0, .int .i64 0, .bool false, .slice none 0 0, .slice none 0 0, .slice none 0 0, .slice none 0 0]) rfl (by kernel_rfl)) ?_
    refine wpS_store rfl rfl rfl CellsOf.agg hS ps0 st0_22 (by kernel_rfl) rfl (fun w hS hB => ?_)
    refine wpS_nil ?_
    refine QH_seq_k hK11 ?_
    refine wpC_ret ?_
    refine QH_then_ret ?_
    refine QH_ret rfl (RV.cell rfl (load_boxA ag_32 hS hs0 sg0_22) RV.nil) rfl ?_
    obtain rfl := Option.some.inj H
    have hS := hS.nilRow 3 1
    have hS := hS.nilRow 3 1
    have hS := hS.nilRow 3 1
    have hS := hS.nilRow 4 1
    have hS := hS.nilRow 47 3
    replace hS := hS.cut 5
    exact ⟨none, 0, none, 0, none, 0, none, 0, none, 0, rfl, ⟨Nat.le_refl _, Nat.zero_le _⟩, ⟨Nat.le_refl _, Nat.zero_le _⟩, ⟨Nat.le_refl _, Nat.zero_le _⟩, ⟨Nat.le_refl _, Nat.zero_le _⟩, ⟨Nat.le_refl _, Nat.zero_le _⟩, hS⟩
  replace H := cond_f H hb
  refine wpC_skip ?_
  refine QH_seq_k hK6 ?_
  refine wpC_seq_k (fun K hK12 => ?_)
  refine wpC_draw 13 [12] (fun i b => (i = 12 → b = b4 ∨ b = b2)) ⟨by kernel_rfl, by kernel_rfl⟩ hS (fun w hS hB => ?_)
  refine wpRF_start [⟨11, 9, 32, [.int .i64 0, .int .i64 0, .int .u8 0, .int .i64 0, .int .i64 0, .int .i64 0, .int .i64 0, .int .i64 0, .bool false, .slice none 0 0, .int .i64 0, .int .i64 0, .int .i64 0, .int .i64 0, .int .i64 0, .int .i64 0, .int .i64 0, .bool false, .slice none 0 0, .slice none 0 0, .slice none 0 0, .slice none 0 0]⟩] (.cons rfl zc_32 rfl rfl rfl .nil) hS (fun hok => ?_)
  dsimp only [List.cons_append, List.nil_append]
  refine wpRF_batch [true, true, true, true, false, true, true, true, true, true] [] (fun _ => True) (by decide +kernel) (fun _ h => by cases h) (by repeat (first | exact PF.body | exact PF.round | apply PF.then | apply PF.inBlock | apply PF.jump)) (fun X Y tk ht w hS => ?_)
  refine LtK.put rfl rfl rfl (yv_move rfl) ?_
  refine LtK.put rfl rfl rfl (yv_move rfl) ?_
  refine LtK.put rfl rfl rfl (yv_move rfl) ?_
  refine LtK.put rfl rfl rfl (yv_load_boxA ag_26 rfl (RW.keepB _ _) hS hs1 trivial sg0_8) ?_
  refine LtK.put rfl rfl rfl (yv_fieldAddr fo_26_0 rfl) ?_
  refine LtK.put rfl rfl rfl (yv_fieldAddr fo_23_0 rfl) ?_
  refine LtK.put rfl rfl rfl (yv_load_box sc_3 rfl (RW.keepB _ _) hS hs1 trivial sg0_1) ?_
  refine LtK.put rfl rfl rfl (yv_fieldAddr fo_26_0 rfl) ?_
  refine LtK.put rfl rfl rfl (yv_load_boxA ag_23 rfl (RW.keepB _ _) hS hs1 trivial sg0_5) ?_
  refine LtK_F' ht hS (by repeat (first | exact App.nil | apply App.cons)) (by repeat (first | exact App.nil | apply App.cons)) ?_
  dsimp only [List.cons_append, List.nil_append]
  refine wpRF_call [false, false, false, false, true] 4 hok ⟨by decide, by decide +kernel, by decide, by decide⟩ rfl rfl (fun _ => rfl) (fun _ => rfl) rfl (hend_of (by decide +kernel)) (fun X Y tk ht w hS => ?_)
  try dsimp only [pickL]
  obtain ⟨r13, hm14, H⟩ := bind_some H
  refine wpS_call rfl rfl rfl rfl (by kernel_rfl) rfl (c_tuple_Own x3 A0_ c0_ _ (SlI.of_rd s0_.k (hS.rd0 s0_.rd) (hS.blk0 s0_.blk)) hm14) ?_
  rintro e w ⟨A15, c16, rfl, k17, hN⟩; refine ⟨_, rfl, ?_⟩; have hB := hN.pure; have hS := hS.join hN; clear hN
  refine wpS_nil ?_
  refine QH_stepF' ht hS hB (by repeat (first | exact App.nil | apply App.cons)) (by repeat (first | exact App.nil | apply App.cons)) ?_
  dsimp only [List.cons_append, List.nil_append]
  refine wpRF_batch [false, false, false, false, false, false, false, false, false, false, true] [] (fun _ => True) (by decide +kernel) (fun _ h => by cases h) (by repeat (first | exact PF.body | exact PF.round | apply PF.then | apply PF.inBlock | apply PF.jump)) (fun X Y tk ht w hS => ?_)
  refine LtK.put rfl rfl rfl (yv_build (cells := [.int .i64 x0, .int .i64 x1, .int .u8 0, .int .i64 x2, .int .i64 r13.snap.index, .int .i64 r13.snap.term, .int .i64 r13.snap.sum, .int .i64 r13.snap.level, .bool r13.snap.final, .slice A15 r13.log.length c16, .int .i64 r13.term, .int .i64 r13.vote, .int .i64 x3.snap.index, .int .i64 x3.snap.index, .int .i64 x3.snap.term, .int .i64 x3.snap.sum, .int .i64 x3.snap.level, .bool x3.snap.final, .slice none 0 0, .slice none 0 0, .slice none 0 0, .slice none 0 0]) rfl (by kernel_rfl)) ?_
  refine LtK_F' ht hS (by repeat (first | exact App.nil | apply App.cons)) (by repeat (first | exact App.nil | apply App.cons)) ?_
  dsimp only [List.cons_append, List.nil_append]
  refine wpRF_done hok (by decide) (by decide +kernel) (fun _ => rfl) (fun _ => rfl) rfl (fun tk htk w hS => ?_)
  obtain ⟨b19, tkb19, rfl, htk21⟩ := tk_cons htk
  obtain rfl := tk_nil htk21
  dsimp only [tkH, tkL, List.map] at hS ⊢
  refine wpR_seal [false, false, false, false, false, false, false, false, false, false, false, false, true] 12 ⟨by decide, by kernel_rfl, by kernel_rfl⟩ rfl rfl ?_
  try dsimp only [pickL]
  refine wpS_store rfl rfl rfl CellsOf.agg hS ps3 st0_22 (by kernel_rfl) rfl (fun w hS hB => ?_)
  refine wpS_nil ?_
  refine QH_stepG (hB.sub (fun b _ h => by have h0 : b = b4 ∨ b = b2 := (by simpa using h); rcases h0 with h0 | h0; (rw [h0]; exact hS.ne 1 3 rfl rfl rfl); (rw [h0]; exact hS.ne 2 3 rfl rfl rfl))) ?_
  refine wpR_end (by kernel_rfl) ?_
  refine QH_seq_k hK12 ?_
  refine wpC_seq_k (fun K hK22 => ?_)
  refine wpC_draw 12 [7, 9, 11] (fun i b => (i = 7 → b ≠ b19) ∧ (i = 9 → b ≠ b19) ∧ (i = 11 → b ≠ b19)) ⟨by kernel_rfl, by kernel_rfl⟩ hS (fun w hS hB => ?_)
  refine wpR_batch [true] (by decide +kernel) (by repeat (first | exact PF.body | exact PF.round | apply PF.then | apply PF.inBlock | apply PF.jump)) ?_
  refine LtK.put rfl rfl rfl (yv_move rfl) ?_
  refine LtK.nil ?_
  refine wpR_batchG [false, false, true, false, true] [7, 9] (fun b => b ≠ b19) (by decide +kernel) (by intro j hj b hb; simp only [List.mem_cons, List.not_mem_nil, or_false] at hj; (try rcases hj with rfl | rfl | rfl | rfl | rfl) <;> simp_all) (by repeat (first | exact PF.body | exact PF.round | apply PF.then | apply PF.inBlock | apply PF.jump)) ?_
  refine LtK.put rfl rfl rfl (yv_move rfl) ?_
  refine LtK.put rfl rfl rfl (yv_move rfl) ?_
  refine LtK.nil ?_
  obtain ⟨l23, hm24, H⟩ := bind_some H
  obtain ⟨l25, hm26, H⟩ := bind_some H
  obtain ⟨l27, hm28, H⟩ := bind_some H
  refine wpR_three [false, true] [false, false, false, true] [false, false, false, false, false, true] 1 3 5 ⟨by decide, by kernel_rfl, by kernel_rfl, by kernel_rfl, by kernel_rfl⟩ rfl rfl rfl rfl rfl rfl ?_ ?_ ?_
  · try dsimp only [pickL]
    refine wpX_make he_enO em_29 rfl (by decide) rfl rfl rfl rfl hS hm24 (fun A31 c32 w k33 hS hB => ?_)
    refine wpS_nil ?_
    refine QH_step hB ?_
    refine wpR_batch [false, false, false, false, false, false, true] (by decide +kernel) (by repeat (first | exact PF.body | exact PF.round | apply PF.then | apply PF.inBlock | apply PF.jump)) ?_
    refine LtK.put rfl rfl rfl (yv_fieldAddr fo_32_7 rfl) ?_
    refine LtK.nil ?_
    refine wpR_many [3, 5, 7] ⟨by decide, by kernel_rfl⟩ rfl (.call [false, false, false, true] 3 rfl rfl rfl ?_ (.call [false, false, false, false, false, true] 5 rfl rfl rfl ?_ (.put [false, false, false, false, false, false, false, true] 7 rfl rfl rfl ?_ .nil)))
    · try dsimp only [pickL]
      refine wpX_make he_enI em_30 rfl (by decide) rfl rfl rfl rfl hS hm26 (fun A37 c38 w k39 hS hB => ?_)
      refine wpS_nil ?_
      refine QH_step hB ?_
      refine wpR_many [5, 7] ⟨by decide, by kernel_rfl⟩ rfl (.call [false, false, false, false, false, true] 5 rfl rfl rfl ?_ (.put [false, false, false, false, false, false, false, true] 7 rfl rfl rfl ?_ .nil))
      · try dsimp only [pickL]
        refine wpX_make he_enI em_30 rfl (by decide) rfl rfl rfl rfl hS hm28 (fun A43 c44 w k45 hS hB => ?_)
        refine wpS_nil ?_
        refine QH_step hB ?_
        refine wpR_seal [false, false, false, false, false, false, false, true] 7 ⟨by decide, by kernel_rfl, by kernel_rfl⟩ rfl rfl ?_
        try dsimp only [pickL]
        refine wpS_store rfl rfl rfl CellsOf.slice hS ps6 st18_1 (by kernel_rfl) rfl (fun w hS hB => ?_)
        refine wpS_nil ?_
        refine QH_stepG (hB.sub (fun _ _ h => by simpa using h)) ?_
        refine wpR_batch [false, false, false, false, false, false, false, false, true] (by decide +kernel) (by repeat (first | exact PF.body | exact PF.round | apply PF.then | apply PF.inBlock | apply PF.jump)) ?_
        refine LtK.put rfl rfl rfl (yv_fieldAddr fo_32_9 rfl) ?_
        refine LtK.nil ?_
        refine wpR_seal [false, false, false, false, false, false, false, false, false, true] 9 ⟨by decide, by kernel_rfl, by kernel_rfl⟩ rfl rfl ?_
        try dsimp only [pickL]
        refine wpS_store rfl rfl rfl CellsOf.slice hS ps6 st20_1 (by kernel_rfl) rfl (fun w hS hB => ?_)
        refine wpS_nil ?_
        refine QH_stepG (hB.sub (fun _ _ h => by simpa using h)) ?_
        refine wpR_batch [false, false, false, false, false, false, false, false, false, false, true] (by decide +kernel) (by repeat (first | exact PF.body | exact PF.round | apply PF.then | apply PF.inBlock | apply PF.jump)) ?_
        refine LtK.put rfl rfl rfl (yv_fieldAddr fo_32_10 rfl) ?_
        refine LtK.nil ?_
        refine wpR_seal [false, false, false, false, false, false, false, false, false, false, false, true] 11 ⟨by decide, by kernel_rfl, by kernel_rfl⟩ rfl rfl ?_
        try dsimp only [pickL]
        refine wpS_store rfl rfl rfl CellsOf.slice hS ps6 st21_1 (by kernel_rfl) rfl (fun w hS hB => ?_)
        refine wpS_nil ?_
        refine QH_stepG (hB.sub (fun _ _ h => by simpa using h)) ?_
        refine wpR_end (by kernel_rfl) ?_
        refine QH_seq_k hK22 ?_
        refine wpC_seq_k (fun K hK47 => ?_)
        refine wpC_draw 15 [12, 14] (fun i b => (i = 12 → b ≠ b19) ∧ (i = 14 → False)) ⟨by kernel_rfl, by kernel_rfl⟩ hS (fun w hS hB => ?_)
        refine wpR_batch [true, true, false, false, true, false, false, false, true] (by decide +kernel) (by repeat (first | exact PF.body | exact PF.round | apply PF.then | apply PF.inBlock | apply PF.jump)) ?_
        refine LtK.put rfl rfl rfl (yv_fieldAddr fo_32_10 rfl) ?_
        refine LtK.put rfl rfl rfl (yv_load_box sc_30 rfl (RW.below _) hS hs6 trivial sg21_1) ?_
        refine LtK.put rfl rfl rfl (yv_load_boxA ag_26 rfl (RW.below _) hS hs5 trivial sg0_8) ?_
        refine LtK.put rfl rfl rfl (yv_move rfl) ?_
        refine LtK.nil ?_
        refine wpR_batchG [false, false, true, true, false, false, false, false, false, false, true] [12] (fun b => b ≠ b19) (by decide +kernel) (by intro j hj b hb; simp only [List.mem_cons, List.not_mem_nil, or_false] at hj; (try rcases hj with rfl | rfl | rfl | rfl | rfl) <;> simp_all) (by repeat (first | exact PF.body | exact PF.round | apply PF.then | apply PF.inBlock | apply PF.jump)) ?_
        refine LtK.put rfl rfl rfl (yv_move rfl) ?_
        refine LtK.put rfl rfl rfl (yx_sub rfl rfl) ?_
        refine LtK.put rfl rfl rfl (yv_move rfl) ?_
        refine LtK.nil ?_
        refine wpR_call [false, false, false, false, false, true] 5 ⟨by decide, by kernel_rfl, by kernel_rfl⟩ rfl rfl ?_
        try dsimp only [pickL]
        obtain ⟨r48, hm49, H⟩ := bind_some H
        refine wpS_call rfl rfl rfl rfl (by kernel_rfl) rfl (c_tuple_Last x3 A0_ c0_ _ (SlI.of_rd s0_.k (hS.rd0 s0_.rd) (hS.blk0 s0_.blk)) hm49) ?_
        rintro e w ⟨rfl, hN⟩; refine ⟨_, rfl, ?_⟩; have hB := hN.pure; have hS := hS.join hN; clear hN
        refine wpS_nil ?_
        refine QH_step hB ?_
        refine wpR_batch [false, false, false, false, false, false, true] (by decide +kernel) (by repeat (first | exact PF.body | exact PF.round | apply PF.then | apply PF.inBlock | apply PF.jump)) ?_
        refine LtK.put rfl rfl rfl (yx_add rfl rfl) ?_
        refine LtK.nil ?_
        refine wpR_call [false, false, false, false, false, false, false, true] 7 ⟨by decide, by kernel_rfl, by kernel_rfl⟩ rfl rfl ?_
        try dsimp only [pickL]
        refine wpS_sliceM (ps := [(0, .tmp 45)]) [.int .i64 (IntKind.wrap .i64 (r48 + 1))] el_30 zc_3 rfl rfl rfl rfl rfl (by kernel_rfl) hS (fun b50 w hS hB => ?_)
        refine wpS_nil ?_
        refine QH_step hB ?_
        refine wpR_call [false, false, false, false, false, false, false, false, false, true] 9 ⟨by decide, by kernel_rfl, by kernel_rfl⟩ rfl rfl ?_
        try dsimp only [pickL]
        obtain ⟨r52, hm53, H⟩ := bind_some H
        refine wpS_call rfl rfl rfl rfl (by kernel_rfl) rfl (c_slices_Repeat___int_int_ ([(IntKind.wrap .i64 (r48 + 1))] : List Int) x1 (some ⟨b50, 0, none⟩) 1 _ (SlI.of_rd ⟨Nat.le_refl 1, by decide⟩ (hS.box_rd hs0) (hS.box_blk hs0)) hm53) ?_
        rintro e w ⟨A54, c55, rfl, k56, hN⟩; refine ⟨_, rfl, ?_⟩; have hB := hN.pure; have hS := hS.join hN; clear hN
        refine wpS_nil ?_
        refine QH_step hB ?_
        refine wpR_batch [false, false, false, false, false, false, false, false, false, false, false, true] (by decide +kernel) (by repeat (first | exact PF.body | exact PF.round | apply PF.then | apply PF.inBlock | apply PF.jump)) ?_
        refine LtK.put rfl rfl rfl (yv_fieldAddr fo_32_8 rfl) ?_
        refine LtK.nil ?_
        refine wpR_seal [false, false, false, false, false, false, false, false, false, false, false, false, true] 12 ⟨by decide, by kernel_rfl, by kernel_rfl⟩ rfl rfl ?_
        try dsimp only [pickL]
        refine wpS_store rfl rfl rfl CellsOf.slice hS ps8 st19_1 (by kernel_rfl) rfl (fun w hS hB => ?_)
        refine wpS_nil ?_
        refine QH_stepG (hB.sub (fun _ _ h => by simpa using h)) ?_
        refine wpR_batch [false, false, false, false, false, false, false, false, false, false, false, false, false, true] (by decide +kernel) (by repeat (first | exact PF.body | exact PF.round | apply PF.then | apply PF.inBlock | apply PF.jump)) ?_
        obtain ⟨e58, hi60, H⟩ := bind_some H
        obtain ⟨j59, hi60a, hi60b, hi60c⟩ := idx_some hi60
        refine LtK.put rfl rfl rfl (yx_idx el_30 rfl rfl hi60a hi60c (Rd.el (hS.row_rd hs2) he_enI hi60b)) ?_
        refine LtK.nil ?_
        refine wpR_seal [false, false, false, false, false, false, false, false, false, false, false, false, false, false, true] 14 ⟨by decide, by kernel_rfl, by kernel_rfl⟩ rfl rfl ?_
        try dsimp only [pickL]
        refine wpX_storeR2 (a' := x2) (zs := (setI l27 (IntKind.wrap .i64 (x0 - 1)) x2)) he_enI rfl rfl rfl CellsOf.int hS ps2 (Rd.el (hS.row_rd hs2) he_enI hi60b) hi60a hi60b rfl st0_1 (by kernel_rfl) rfl (fun w hS hB => ?_)
        refine wpS_nil ?_
        refine QH_stepG (hB.sub (fun _ _ h => by simp at h)) ?_
        refine wpR_end (by kernel_rfl) ?_
        refine QH_seq_k hK47 ?_
        refine wpC_seq_k (fun K hK61 => ?_)
        refine wpC_region ?_
        refine wpS_put rfl rfl rfl (yv_load_boxA ag_32 rfl (RW.here _) hS hs8 trivial sg0_22) ?_
        refine wpS_store rfl rfl rfl CellsOf.agg hS ps6 st0_22 (by kernel_rfl) rfl (fun w hS hB => ?_)
        refine wpS_nil ?_
        refine QH_seq_k hK61 ?_
        refine wpC_ret ?_
        refine QH_ret rfl (RV.cell rfl (load_boxA ag_32 hS hs6 sg0_22) RV.nil) rfl ?_
        obtain rfl := Option.some.inj H
        have hS := hS.front 2 rfl
        have hS := hS.front 3 rfl
        have hS := hS.front 2 rfl
        have hS := hS.front 4 rfl
        have hS := hS.front 5 rfl
        replace hS := hS.cut 5
        exact ⟨A15, c16, A31, c32, A54, c55, A37, c38, A43, c44, by rw [(setI_len rfl)]; rfl, k17, k33, k56, k39, (k_set k45), hS.eqv (by rw [(setI_len rfl)]; rfl)⟩
      · try dsimp only [pickL]
        refine wpS_store rfl rfl rfl CellsOf.slice hS ps5 st18_1 (by kernel_rfl) rfl (fun w hS hB => ?_)
        refine wpS_nil ?_
        refine QH_stepG (hB.sub (fun _ _ h => by simpa using h)) ?_
        refine wpR_batch [false, false, false, false, false, false, false, false, true] (by decide +kernel) (by repeat (first | exact PF.body | exact PF.round | apply PF.then | apply PF.inBlock | apply PF.jump)) ?_
        refine LtK.put rfl rfl rfl (yv_fieldAddr fo_32_9 rfl) ?_
        refine LtK.nil ?_
        refine wpR_many [5, 9] ⟨by decide, by kernel_rfl⟩ rfl (.call [false, false, false, false, false, true] 5 rfl rfl rfl ?_ (.put [false, false, false, false, false, false, false, false, false, true] 9 rfl rfl rfl ?_ .nil))
        · try dsimp only [pickL]
          refine wpX_make he_enI em_30 rfl (by decide) rfl rfl rfl rfl hS hm28 (fun A43 c44 w k45 hS hB => ?_)
          refine wpS_nil ?_
          refine QH_step hB ?_
          refine wpR_seal [false, false, false, false, false, false, false, false, false, true] 9 ⟨by decide, by kernel_rfl, by kernel_rfl⟩ rfl rfl ?_
          try dsimp only [pickL]
          refine wpS_store rfl rfl rfl CellsOf.slice hS ps6 st20_1 (by kernel_rfl) rfl (fun w hS hB => ?_)
          refine wpS_nil ?_
          refine QH_stepG (hB.sub (fun _ _ h => by simpa using h)) ?_
          refine wpR_batch [false, false, false, false, false, false, false, false, false, false, true] (by decide +kernel) (by repeat (first | exact PF.body | exact PF.round | apply PF.then | apply PF.inBlock | apply PF.jump)) ?_
          refine LtK.put rfl rfl rfl (yv_fieldAddr fo_32_10 rfl) ?_
          refine LtK.nil ?_
          refine wpR_seal [false, false, false, false, false, false, false, false, false, false, false, true] 11 ⟨by decide, by kernel_rfl, by kernel_rfl⟩ rfl rfl ?_
          try dsimp only [pickL]
          refine wpS_store rfl rfl rfl CellsOf.slice hS ps6 st21_1 (by kernel_rfl) rfl (fun w hS hB => ?_)
          refine wpS_nil ?_
          refine QH_stepG (hB.sub (fun _ _ h => by simpa using h)) ?_
          refine wpR_end (by kernel_rfl) ?_
          refine QH_seq_k hK22 ?_
          refine wpC_seq_k (fun K hK47 => ?_)
          refine wpC_draw 15 [12, 14] (fun i b => (i = 12 → b ≠ b19) ∧ (i = 14 → False)) ⟨by kernel_rfl, by kernel_rfl⟩ hS (fun w hS hB => ?_)
          refine wpR_batch [true, true, false, false, true, false, false, false, true] (by decide +kernel) (by repeat (first | exact PF.body | exact PF.round | apply PF.then | apply PF.inBlock | apply PF.jump)) ?_
          refine LtK.put rfl rfl rfl (yv_fieldAddr fo_32_10 rfl) ?_
          refine LtK.put rfl rfl rfl (yv_load_box sc_30 rfl (RW.below _) hS hs6 trivial sg21_1) ?_
          refine LtK.put rfl rfl rfl (yv_load_boxA ag_26 rfl (RW.below _) hS hs5 trivial sg0_8) ?_
          refine LtK.put rfl rfl rfl (yv_move rfl) ?_
          refine LtK.nil ?_
          refine wpR_batchG [false, false, true, true, false, false, false, false, false, false, true] [12] (fun b => b ≠ b19) (by decide +kernel) (by intro j hj b hb; simp only [List.mem_cons, List.not_mem_nil, or_false] at hj; (try rcases hj with rfl | rfl | rfl | rfl | rfl) <;> simp_all) (by repeat (first | exact PF.body | exact PF.round | apply PF.then | apply PF.inBlock | apply PF.jump)) ?_
          refine LtK.put rfl rfl rfl (yv_move rfl) ?_
          refine LtK.put rfl rfl rfl (yx_sub rfl rfl) ?_
          refine LtK.put rfl rfl rfl (yv_move rfl) ?_
          refine LtK.nil ?_
          refine wpR_call [false, false, false, false, false, true] 5 ⟨by decide, by kernel_rfl, by kernel_rfl⟩ rfl rfl ?_
          try dsimp only [pickL]
          obtain ⟨r48, hm49, H⟩ := bind_some H
          refine wpS_call rfl rfl rfl rfl (by kernel_rfl) rfl (c_tuple_Last x3 A0_ c0_ _ (SlI.of_rd s0_.k (hS.rd0 s0_.rd) (hS.blk0 s0_.blk)) hm49) ?_
          rintro e w ⟨rfl, hN⟩; refine ⟨_, rfl, ?_⟩; have hB := hN.pure; have hS := hS.join hN; clear hN
          refine wpS_nil ?_
          refine QH_step hB ?_
          refine wpR_batch [false, false, false, false, false, false, true] (by decide +kernel) (by repeat (first | exact PF.body | exact PF.round | apply PF.then | apply PF.inBlock | apply PF.jump)) ?_
          refine LtK.put rfl rfl rfl (yx_add rfl rfl) ?_
          refine LtK.nil ?_
          refine wpR_call [false, false, false, false, false, false, false, true] 7 ⟨by decide, by kernel_rfl, by kernel_rfl⟩ rfl rfl ?_
          try dsimp only [pickL]
          refine wpS_sliceM (ps := [(0, .tmp 45)]) [.int .i64 (IntKind.wrap .i64 (r48 + 1))] el_30 zc_3 rfl rfl rfl rfl rfl (by kernel_rfl) hS (fun b50 w hS hB => ?_)
          refine wpS_nil ?_
          refine QH_step hB ?_
          refine wpR_call [false, false, false, false, false, false, false, false, false, true] 9 ⟨by decide, by kernel_rfl, by kernel_rfl⟩ rfl rfl ?_
          try dsimp only [pickL]
          obtain ⟨r52, hm53, H⟩ := bind_some H
          refine wpS_call rfl rfl rfl rfl (by kernel_rfl) rfl (c_slices_Repeat___int_int_ ([(IntKind.wrap .i64 (r48 + 1))] : List Int) x1 (some ⟨b50, 0, none⟩) 1 _ (SlI.of_rd ⟨Nat.le_refl 1, by decide⟩ (hS.box_rd hs0) (hS.box_blk hs0)) hm53) ?_
          rintro e w ⟨A54, c55, rfl, k56, hN⟩; refine ⟨_, rfl, ?_⟩; have hB := hN.pure; have hS := hS.join hN; clear hN
          refine wpS_nil ?_
          refine QH_step hB ?_
          refine wpR_batch [false, false, false, false, false, false, false, false, false, false, false, true] (by decide +kernel) (by repeat (first | exact PF.body | exact PF.round | apply PF.then | apply PF.inBlock | apply PF.jump)) ?_
          refine LtK.put rfl rfl rfl (yv_fieldAddr fo_32_8 rfl) ?_
          refine LtK.nil ?_
          refine wpR_seal [false, false, false, false, false, false, false, false, false, false, false, false, true] 12 ⟨by decide, by kernel_rfl, by kernel_rfl⟩ rfl rfl ?_
          try dsimp only [pickL]
          refine wpS_store rfl rfl rfl CellsOf.slice hS ps8 st19_1 (by kernel_rfl) rfl (fun w hS hB => ?_)
          refine wpS_nil ?_
          refine QH_stepG (hB.sub (fun _ _ h => by simpa using h)) ?_
          refine wpR_batch [false, false, false, false, false, false, false, false, false, false, false, false, false, true] (by decide +kernel) (by repeat (first | exact PF.body | exact PF.round | apply PF.then | apply PF.inBlock | apply PF.jump)) ?_
          obtain ⟨e58, hi60, H⟩ := bind_some H
          obtain ⟨j59, hi60a, hi60b, hi60c⟩ := idx_some hi60
          refine LtK.put rfl rfl rfl (yx_idx el_30 rfl rfl hi60a hi60c (Rd.el (hS.row_rd hs2) he_enI hi60b)) ?_
          refine LtK.nil ?_
          refine wpR_seal [false, false, false, false, false, false, false, false, false, false, false, false, false, false, true] 14 ⟨by decide, by kernel_rfl, by kernel_rfl⟩ rfl rfl ?_
          try dsimp only [pickL]
          refine wpX_storeR2 (a' := x2) (zs := (setI l27 (IntKind.wrap .i64 (x0 - 1)) x2)) he_enI rfl rfl rfl CellsOf.int hS ps2 (Rd.el (hS.row_rd hs2) he_enI hi60b) hi60a hi60b rfl st0_1 (by kernel_rfl) rfl (fun w hS hB => ?_)
          refine wpS_nil ?_
          refine QH_stepG (hB.sub (fun _ _ h => by simp at h)) ?_
          refine wpR_end (by kernel_rfl) ?_
          refine QH_seq_k hK47 ?_
          refine wpC_seq_k (fun K hK61 => ?_)
          refine wpC_region ?_
          refine wpS_put rfl rfl rfl (yv_load_boxA ag_32 rfl (RW.here _) hS hs8 trivial sg0_22) ?_
          refine wpS_store rfl rfl rfl CellsOf.agg hS ps6 st0_22 (by kernel_rfl) rfl (fun w hS hB => ?_)
          refine wpS_nil ?_
          refine QH_seq_k hK61 ?_
          refine wpC_ret ?_
          refine QH_ret rfl (RV.cell rfl (load_boxA ag_32 hS hs6 sg0_22) RV.nil) rfl ?_
          obtain rfl := Option.some.inj H
          have hS := hS.front 2 rfl
          have hS := hS.front 3 rfl
          have hS := hS.front 2 rfl
          have hS := hS.front 4 rfl
          have hS := hS.front 5 rfl
          replace hS := hS.cut 5
          exact ⟨A15, c16, A31, c32, A54, c55, A37, c38, A43, c44, by rw [(setI_len rfl)]; rfl, k17, k33, k56, k39, (k_set k45), hS.eqv (by rw [(setI_len rfl)]; rfl)⟩
        · try dsimp only [pickL]
          refine wpS_store rfl rfl rfl CellsOf.slice hS ps5 st20_1 (by kernel_rfl) rfl (fun w hS hB => ?_)
          refine wpS_nil ?_
          refine QH_stepG (hB.sub (fun _ _ h => by simpa using h)) ?_
          refine wpR_call [false, false, false, false, false, true] 5 ⟨by decide, by kernel_rfl, by kernel_rfl⟩ rfl rfl ?_
          try dsimp only [pickL]
          refine wpX_make he_enI em_30 rfl (by decide) rfl rfl rfl rfl hS hm28 (fun A43 c44 w k45 hS hB => ?_)
          refine wpS_nil ?_
          refine QH_step hB ?_
          refine wpR_batch [false, false, false, false, false, false, false, false, false, false, true] (by decide +kernel) (by repeat (first | exact PF.body | exact PF.round | apply PF.then | apply PF.inBlock | apply PF.jump)) ?_
          refine LtK.put rfl rfl rfl (yv_fieldAddr fo_32_10 rfl) ?_
          refine LtK.nil ?_
          refine wpR_seal [false, false, false, false, false, false, false, false, false, false, false, true] 11 ⟨by decide, by kernel_rfl, by kernel_rfl⟩ rfl rfl ?_
          try dsimp only [pickL]
          refine wpS_store rfl rfl rfl CellsOf.slice hS ps6 st21_1 (by kernel_rfl) rfl (fun w hS hB => ?_)
          refine wpS_nil ?_
          refine QH_stepG (hB.sub (fun _ _ h => by simpa using h)) ?_
          refine wpR_end (by kernel_rfl) ?_
          refine QH_seq_k hK22 ?_
          refine wpC_seq_k (fun K hK47 => ?_)
          refine wpC_draw 15 [12, 14] (fun i b => (i = 12 → b ≠ b19) ∧ (i = 14 → False)) ⟨by kernel_rfl, by kernel_rfl⟩ hS (fun w hS hB => ?_)
          refine wpR_batch [true, true, false, false, true, false, false, false, true] (by decide +kernel) (by repeat (first | exact PF.body | exact PF.round | apply PF.then | apply PF.inBlock | apply PF.jump)) ?_
          refine LtK.put rfl rfl rfl (yv_fieldAddr fo_32_10 rfl) ?_
          refine LtK.put rfl rfl rfl (yv_load_box sc_30 rfl (RW.below _) hS hs6 trivial sg21_1) ?_
          refine LtK.put rfl rfl rfl (yv_load_boxA ag_26 rfl (RW.below _) hS hs5 trivial sg0_8) ?_
          refine LtK.put rfl rfl rfl (yv_move rfl) ?_
          refine LtK.nil ?_
          refine wpR_batchG [false, false, true, true, false, false, false, false, false, false, true] [12] (fun b => b ≠ b19) (by decide +kernel) (by intro j hj b hb; simp only [List.mem_cons, List.not_mem_nil, or_false] at hj; (try rcases hj with rfl | rfl | rfl | rfl | rfl) <;> simp_all) (by repeat (first | exact PF.body | exact PF.round | apply PF.then | apply PF.inBlock | apply PF.jump)) ?_
          refine LtK.put rfl rfl rfl (yv_move rfl) ?_
          refine LtK.put rfl rfl rfl (yx_sub rfl rfl) ?_
          refine LtK.put rfl rfl rfl (yv_move rfl) ?_
          refine LtK.nil ?_
          refine wpR_call [false, false, false, false, false, true] 5 ⟨by decide, by kernel_rfl, by kernel_rfl⟩ rfl rfl ?_
          try dsimp only [pickL]
          obtain ⟨r48, hm49, H⟩ := bind_some H
          refine wpS_call rfl rfl rfl rfl (by kernel_rfl) rfl (c_tuple_Last x3 A0_ c0_ _ (SlI.of_rd s0_.k (hS.rd0 s0_.rd) (hS.blk0 s0_.blk)) hm49) ?_
          rintro e w ⟨rfl, hN⟩; refine ⟨_, rfl, ?_⟩; have hB := hN.pure; have hS := hS.join hN; clear hN
          refine wpS_nil ?_
          refine QH_step hB ?_
          refine wpR_batch [false, false, false, false, false, false, true] (by decide +kernel) (by repeat (first | exact PF.body | exact PF.round | apply PF.then | apply PF.inBlock | apply PF.jump)) ?_
          refine LtK.put rfl rfl rfl (yx_add rfl rfl) ?_
          refine LtK.nil ?_
          refine wpR_call [false, false, false, false, false, false, false, true] 7 ⟨by decide, by kernel_rfl, by kernel_rfl⟩ rfl rfl ?_
          try dsimp only [pickL]
          refine wpS_sliceM (ps := [(0, .tmp 45)]) [.int .i64 (IntKind.wrap .i64 (r48 + 1))] el_30 zc_3 rfl rfl rfl rfl rfl (by kernel_rfl) hS (fun b50 w hS hB => ?_)
          refine wpS_nil ?_
          refine QH_step hB ?_
          refine wpR_call [false, false, false, false, false, false, false, false, false, true] 9 ⟨by decide, by kernel_rfl, by kernel_rfl⟩ rfl rfl ?_
          try dsimp only [pickL]
          obtain ⟨r52, hm53, H⟩ := bind_some H
          refine wpS_call rfl rfl rfl rfl (by kernel_rfl) rfl (c_slices_Repeat___int_int_ ([(IntKind.wrap .i64 (r48 + 1))] : List Int) x1 (some ⟨b50, 0, none⟩) 1 _ (SlI.of_rd ⟨Nat.le_refl 1, by decide⟩ (hS.box_rd hs0) (hS.box_blk hs0)) hm53) ?_
          rintro e w ⟨A54, c55, rfl, k56, hN⟩; refine ⟨_, rfl, ?_⟩; have hB := hN.pure; have hS := hS.join hN; clear hN
          refine wpS_nil ?_
          refine QH_step hB ?_
          refine wpR_batch [false, false, false, false, false, false, false, false, false, false, false, true] (by decide +kernel) (by repeat (first | exact PF.body | exact PF.round | apply PF.then | apply PF.inBlock | apply PF.jump)) ?_
          refine LtK.put rfl rfl rfl (yv_fieldAddr fo_32_8 rfl) ?_
          refine LtK.nil ?_
          refine wpR_seal [false, false, false, false, false, false, false, false, false, false, false, false, true] 12 ⟨by decide, by kernel_rfl, by kernel_rfl⟩ rfl rfl ?_
          try dsimp only [pickL]
          refine wpS_store rfl rfl rfl CellsOf.slice hS ps8 st19_1 (by kernel_rfl) rfl (fun w hS hB => ?_)
          refine wpS_nil ?_
          refine QH_stepG (hB.sub (fun _ _ h => by simpa using h)) ?_
          refine wpR_batch [false, false, false, false, false, false, false, false, false, false, false, false, false, true] (by decide +kernel) (by repeat (first | exact PF.body | exact PF.round | apply PF.then | apply PF.inBlock | apply PF.jump)) ?_
          obtain ⟨e58, hi60, H⟩ := bind_some H
          obtain ⟨j59, hi60a, hi60b, hi60c⟩ := idx_some hi60
          refine LtK.put rfl rfl rfl (yx_idx el_30 rfl rfl hi60a hi60c (Rd.el (hS.row_rd hs2) he_enI hi60b)) ?_
          refine LtK.nil ?_
          refine wpR_seal [false, false, false, false, false, false, false, false, false, false, false, false, false, false, true] 14 ⟨by decide, by kernel_rfl, by kernel_rfl⟩ rfl rfl ?_
          try dsimp only [pickL]
          refine wpX_storeR2 (a' := x2) (zs := (setI l27 (IntKind.wrap .i64 (x0 - 1)) x2)) he_enI rfl rfl rfl CellsOf.int hS ps2 (Rd.el (hS.row_rd hs2) he_enI hi60b) hi60a hi60b rfl st0_1 (by kernel_rfl) rfl (fun w hS hB => ?_)
          refine wpS_nil ?_
          refine QH_stepG (hB.sub (fun _ _ h => by simp at h)) ?_
          refine wpR_end (by kernel_rfl) ?_
          refine QH_seq_k hK47 ?_
          refine wpC_seq_k (fun K hK61 => ?_)
          refine wpC_region ?_
          refine wpS_put rfl rfl rfl (yv_load_boxA ag_32 rfl (RW.here _) hS hs8 trivial sg0_22) ?_
          refine wpS_store rfl rfl rfl CellsOf.agg hS ps6 st0_22 (by kernel_rfl) rfl (fun w hS hB => ?_)
          refine wpS_nil ?_
          refine QH_seq_k hK61 ?_
          refine wpC_ret ?_
          refine QH_ret rfl (RV.cell rfl (load_boxA ag_32 hS hs6 sg0_22) RV.nil) rfl ?_
          obtain rfl := Option.some.inj H
          have hS := hS.front 2 rfl
          have hS := hS.front 3 rfl
          have hS := hS.front 2 rfl
          have hS := hS.front 4 rfl
          have hS := hS.front 5 rfl
          replace hS := hS.cut 5
          exact ⟨A15, c16, A31, c32, A54, c55, A37, c38, A43, c44, by rw [(setI_len rfl)]; rfl, k17, k33, k56, k39, (k_set k45), hS.eqv (by rw [(setI_len rfl)]; rfl)⟩
    · try dsimp only [pickL]
      refine wpX_make he_enI em_30 rfl (by decide) rfl rfl rfl rfl hS hm28 (fun A37 c38 w k39 hS hB => ?_)
      refine wpS_nil ?_
      refine QH_step hB ?_
      refine wpR_many [3, 7] ⟨by decide, by kernel_rfl⟩ rfl (.call [false, false, false, true] 3 rfl rfl rfl ?_ (.put [false, false, false, false, false, false, false, true] 7 rfl rfl rfl ?_ .nil))
      · try dsimp only [pickL]
        refine wpX_make he_enI em_30 rfl (by decide) rfl rfl rfl rfl hS hm26 (fun A43 c44 w k45 hS hB => ?_)
        refine wpS_nil ?_
        refine QH_step hB ?_
        refine wpR_seal [false, false, false, false, false, false, false, true] 7 ⟨by decide, by kernel_rfl, by kernel_rfl⟩ rfl rfl ?_
        try dsimp only [pickL]
        refine wpS_store rfl rfl rfl CellsOf.slice hS ps6 st18_1 (by kernel_rfl) rfl (fun w hS hB => ?_)
        refine wpS_nil ?_
        refine QH_stepG (hB.sub (fun _ _ h => by simpa using h)) ?_
        refine wpR_batch [false, false, false, false, false, false, false, false, true] (by decide +kernel) (by repeat (first | exact PF.body | exact PF.round | apply PF.then | apply PF.inBlock | apply PF.jump)) ?_
        refine LtK.put rfl rfl rfl (yv_fieldAddr fo_32_9 rfl) ?_
        refine LtK.nil ?_
        refine wpR_seal [false, false, false, false, false, false, false, false, false, true] 9 ⟨by decide, by kernel_rfl, by kernel_rfl⟩ rfl rfl ?_
        try dsimp only [pickL]
        refine wpS_store rfl rfl rfl CellsOf.slice hS ps6 st20_1 (by kernel_rfl) rfl (fun w hS hB => ?_)
        refine wpS_nil ?_
        refine QH_stepG (hB.sub (fun _ _ h => by simpa using h)) ?_
        refine wpR_batch [false, false, false, false, false, false, false, false, false, false, true] (by decide +kernel) (by repeat (first | exact PF.body | exact PF.round | apply PF.then | apply PF.inBlock | apply PF.jump)) ?_
        refine LtK.put rfl rfl rfl (yv_fieldAddr fo_32_10 rfl) ?_
        refine LtK.nil ?_
        refine wpR_seal [false, false, false, false, false, false, false, false, false, false, false, true] 11 ⟨by decide, by kernel_rfl, by kernel_rfl⟩ rfl rfl ?_
        try dsimp only [pickL]
        refine wpS_store rfl rfl rfl CellsOf.slice hS ps6 st21_1 (by kernel_rfl) rfl (fun w hS hB => ?_)
        refine wpS_nil ?_
        refine QH_stepG (hB.sub (fun _ _ h => by simpa using h)) ?_
        refine wpR_end (by kernel_rfl) ?_
        refine QH_seq_k hK22 ?_
        refine wpC_seq_k (fun K hK47 => ?_)
        refine wpC_draw 15 [12, 14] (fun i b => (i = 12 → b ≠ b19) ∧ (i = 14 → False)) ⟨by kernel_rfl, by kernel_rfl⟩ hS (fun w hS hB => ?_)
        refine wpR_batch [true, true, false, false, true, false, false, false, true] (by decide +kernel) (by repeat (first | exact PF.body | exact PF.round | apply PF.then | apply PF.inBlock | apply PF.jump)) ?_
        refine LtK.put rfl rfl rfl (yv_fieldAddr fo_32_10 rfl) ?_
        refine LtK.put rfl rfl rfl (yv_load_box sc_30 rfl (RW.below _) hS hs6 trivial sg21_1) ?_
        refine LtK.put rfl rfl rfl (yv_load_boxA ag_26 rfl (RW.below _) hS hs5 trivial sg0_8) ?_
        refine LtK.put rfl rfl rfl (yv_move rfl) ?_
        refine LtK.nil ?_
        refine wpR_batchG [false, false, true, true, false, false, false, false, false, false, true] [12] (fun b => b ≠ b19) (by decide +kernel) (by intro j hj b hb; simp only [List.mem_cons, List.not_mem_nil, or_false] at hj; (try rcases hj with rfl | rfl | rfl | rfl | rfl) <;> simp_all) (by repeat (first | exact PF.body | exact PF.round | apply PF.then | apply PF.inBlock | apply PF.jump)) ?_
        refine LtK.put rfl rfl rfl (yv_move rfl) ?_
        refine LtK.put rfl rfl rfl (yx_sub rfl rfl) ?_
        refine LtK.put rfl rfl rfl (yv_move rfl) ?_
        refine LtK.nil ?_
        refine wpR_call [false, false, false, false, false, true] 5 ⟨by decide, by kernel_rfl, by kernel_rfl⟩ rfl rfl ?_
        try dsimp only [pickL]
        obtain ⟨r48, hm49, H⟩ := bind_some H
        refine wpS_call rfl rfl rfl rfl (by kernel_rfl) rfl (c_tuple_Last x3 A0_ c0_ _ (SlI.of_rd s0_.k (hS.rd0 s0_.rd) (hS.blk0 s0_.blk)) hm49) ?_
        rintro e w ⟨rfl, hN⟩; refine ⟨_, rfl, ?_⟩; have hB := hN.pure; have hS := hS.join hN; clear hN
        refine wpS_nil ?_
        refine QH_step hB ?_
        refine wpR_batch [false, false, false, false, false, false, true] (by decide +kernel) (by repeat (first | exact PF.body | exact PF.round | apply PF.then | apply PF.inBlock | apply PF.jump)) ?_
        refine LtK.put rfl rfl rfl (yx_add rfl rfl) ?_
        refine LtK.nil ?_
        refine wpR_call [false, false, false, false, false, false, false, true] 7 ⟨by decide, by kernel_rfl, by kernel_rfl⟩ rfl rfl ?_
        try dsimp only [pickL]
        refine wpS_sliceM (ps := [(0, .tmp 45)]) [.int .i64 (IntKind.wrap .i64 (r48 + 1))] el_30 zc_3 rfl rfl rfl rfl rfl (by kernel_rfl) hS (fun b50 w hS hB => ?_)
        refine wpS_nil ?_
        refine QH_step hB ?_
        refine wpR_call [false, false, false, false, false, false, false, false, false, true] 9 ⟨by decide, by kernel_rfl, by kernel_rfl⟩ rfl rfl ?_
        try dsimp only [pickL]
        obtain ⟨r52, hm53, H⟩ := bind_some H
        refine wpS_call rfl rfl rfl rfl (by kernel_rfl) rfl (c_slices_Repeat___int_int_ ([(IntKind.wrap .i64 (r48 + 1))] : List Int) x1 (some ⟨b50, 0, none⟩) 1 _ (SlI.of_rd ⟨Nat.le_refl 1, by decide⟩ (hS.box_rd hs0) (hS.box_blk hs0)) hm53) ?_
        rintro e w ⟨A54, c55, rfl, k56, hN⟩; refine ⟨_, rfl, ?_⟩; have hB := hN.pure; have hS := hS.join hN; clear hN
        refine wpS_nil ?_
        refine QH_step hB ?_
        refine wpR_batch [false, false, false, false, false, false, false, false, false, false, false, true] (by decide +kernel) (by repeat (first | exact PF.body | exact PF.round | apply PF.then | apply PF.inBlock | apply PF.jump)) ?_
        refine LtK.put rfl rfl rfl (yv_fieldAddr fo_32_8 rfl) ?_
        refine LtK.nil ?_
        refine wpR_seal [false, false, false, false, false, false, false, false, false, false, false, false, true] 12 ⟨by decide, by kernel_rfl, by kernel_rfl⟩ rfl rfl ?_
        try dsimp only [pickL]
        refine wpS_store rfl rfl rfl CellsOf.slice hS ps8 st19_1 (by kernel_rfl) rfl (fun w hS hB => ?_)
        refine wpS_nil ?_
        refine QH_stepG (hB.sub (fun _ _ h => by simpa using h)) ?_
        refine wpR_batch [false, false, false, false, false, false, false, false, false, false, false, false, false, true] (by decide +kernel) (by repeat (first | exact PF.body | exact PF.round | apply PF.then | apply PF.inBlock | apply PF.jump)) ?_
        obtain ⟨e58, hi60, H⟩ := bind_some H
        obtain ⟨j59, hi60a, hi60b, hi60c⟩ := idx_some hi60
        refine LtK.put rfl rfl rfl (yx_idx el_30 rfl rfl hi60a hi60c (Rd.el (hS.row_rd hs3) he_enI hi60b)) ?_
        refine LtK.nil ?_
        refine wpR_seal [false, false, false, false, false, false, false, false, false, false, false, false, false, false, true] 14 ⟨by decide, by kernel_rfl, by kernel_rfl⟩ rfl rfl ?_
        try dsimp only [pickL]
        refine wpX_storeR2 (a' := x2) (zs := (setI l27 (IntKind.wrap .i64 (x0 - 1)) x2)) he_enI rfl rfl rfl CellsOf.int hS ps3 (Rd.el (hS.row_rd hs3) he_enI hi60b) hi60a hi60b rfl st0_1 (by kernel_rfl) rfl (fun w hS hB => ?_)
        refine wpS_nil ?_
        refine QH_stepG (hB.sub (fun _ _ h => by simp at h)) ?_
        refine wpR_end (by kernel_rfl) ?_
        refine QH_seq_k hK47 ?_
        refine wpC_seq_k (fun K hK61 => ?_)
        refine wpC_region ?_
        refine wpS_put rfl rfl rfl (yv_load_boxA ag_32 rfl (RW.here _) hS hs8 trivial sg0_22) ?_
        refine wpS_store rfl rfl rfl CellsOf.agg hS ps6 st0_22 (by kernel_rfl) rfl (fun w hS hB => ?_)
        refine wpS_nil ?_
        refine QH_seq_k hK61 ?_
        refine wpC_ret ?_
        refine QH_ret rfl (RV.cell rfl (load_boxA ag_32 hS hs6 sg0_22) RV.nil) rfl ?_
        obtain rfl := Option.some.inj H
        have hS := hS.front 3 rfl
        have hS := hS.front 3 rfl
        have hS := hS.front 2 rfl
        have hS := hS.front 4 rfl
        have hS := hS.front 5 rfl
        replace hS := hS.cut 5
        exact ⟨A15, c16, A31, c32, A54, c55, A43, c44, A37, c38, by rw [(setI_len rfl)]; rfl, k17, k33, k56, k45, (k_set k39), hS.eqv (by rw [(setI_len rfl)]; rfl)⟩
      · try dsimp only [pickL]
        refine wpS_store rfl rfl rfl CellsOf.slice hS ps5 st18_1 (by kernel_rfl) rfl (fun w hS hB => ?_)
        refine wpS_nil ?_
        refine QH_stepG (hB.sub (fun _ _ h => by simpa using h)) ?_
        refine wpR_call [false, false, false, true] 3 ⟨by decide, by kernel_rfl, by kernel_rfl⟩ rfl rfl ?_
        try dsimp only [pickL]
        refine wpX_make he_enI em_30 rfl (by decide) rfl rfl rfl rfl hS hm26 (fun A43 c44 w k45 hS hB => ?_)
        refine wpS_nil ?_
        refine QH_step hB ?_
        refine wpR_batch [false, false, false, false, false, false, false, false, true] (by decide +kernel) (by repeat (first | exact PF.body | exact PF.round | apply PF.then | apply PF.inBlock | apply PF.jump)) ?_
        refine LtK.put rfl rfl rfl (yv_fieldAddr fo_32_9 rfl) ?_
        refine LtK.nil ?_
        refine wpR_seal [false, false, false, false, false, false, false, false, false, true] 9 ⟨by decide, by kernel_rfl, by kernel_rfl⟩ rfl rfl ?_
        try dsimp only [pickL]
        refine wpS_store rfl rfl rfl CellsOf.slice hS ps6 st20_1 (by kernel_rfl) rfl (fun w hS hB => ?_)
        refine wpS_nil ?_
        refine QH_stepG (hB.sub (fun _ _ h => by simpa using h)) ?_
        refine wpR_batch [false, false, false, false, false, false, false, false, false, false, true] (by decide +kernel) (by repeat (first | exact PF.body | exact PF.round | apply PF.then | apply PF.inBlock | apply PF.jump)) ?_
        refine LtK.put rfl rfl rfl (yv_fieldAddr fo_32_10 rfl) ?_
        refine LtK.nil ?_
        refine wpR_seal [false, false, false, false, false, false, false, false, false, false, false, true] 11 ⟨by decide, by kernel_rfl, by kernel_rfl⟩ rfl rfl ?_
        try dsimp only [pickL]
        refine wpS_store rfl rfl rfl CellsOf.slice hS ps6 st21_1 (by kernel_rfl) rfl (fun w hS hB => ?_)
        refine wpS_nil ?_
        refine QH_stepG (hB.sub (fun _ _ h => by simpa using h)) ?_
        refine wpR_end (by kernel_rfl) ?_
        refine QH_seq_k hK22 ?_
        refine wpC_seq_k (fun K hK47 => ?_)
        refine wpC_draw 15 [12, 14] (fun i b => (i = 12 → b ≠ b19) ∧ (i = 14 → False)) ⟨by kernel_rfl, by kernel_rfl⟩ hS (fun w hS hB => ?_)
        refine wpR_batch [true, true, false, false, true, false, false, false, true] (by decide +kernel) (by repeat (first | exact PF.body | exact PF.round | apply PF.then | apply PF.inBlock | apply PF.jump)) ?_
        refine LtK.put rfl rfl rfl (yv_fieldAddr fo_32_10 rfl) ?_
        refine LtK.put rfl rfl rfl (yv_load_box sc_30 rfl (RW.below _) hS hs6 trivial sg21_1) ?_
        refine LtK.put rfl rfl rfl (yv_load_boxA ag_26 rfl (RW.below _) hS hs5 trivial sg0_8) ?_
        refine LtK.put rfl rfl rfl (yv_move rfl) ?_
        refine LtK.nil ?_
        refine wpR_batchG [false, false, true, true, false, false, false, false, false, false, true] [12] (fun b => b ≠ b19) (by decide +kernel) (by intro j hj b hb; simp only [List.mem_cons, List.not_mem_nil, or_false] at hj; (try rcases hj with rfl | rfl | rfl | rfl | rfl) <;> simp_all) (by repeat (first | exact PF.body | exact PF.round | apply PF.then | apply PF.inBlock | apply PF.jump)) ?_
        refine LtK.put rfl rfl rfl (yv_move rfl) ?_
        refine LtK.put rfl rfl rfl (yx_sub rfl rfl) ?_
        refine LtK.put rfl rfl rfl (yv_move rfl) ?_
        refine LtK.nil ?_
        refine wpR_call [false, false, false, false, false, true] 5 ⟨by decide, by kernel_rfl, by kernel_rfl⟩ rfl rfl ?_
        try dsimp only [pickL]
        obtain ⟨r48, hm49, H⟩ := bind_some H
        refine wpS_call rfl rfl rfl rfl (by kernel_rfl) rfl (c_tuple_Last x3 A0_ c0_ _ (SlI.of_rd s0_.k (hS.rd0 s0_.rd) (hS.blk0 s0_.blk)) hm49) ?_
        rintro e w ⟨rfl, hN⟩; refine ⟨_, rfl, ?_⟩; have hB := hN.pure; have hS := hS.join hN; clear hN
        refine wpS_nil ?_
        refine QH_step hB ?_
        refine wpR_batch [false, false, false, false, false, false, true] (by decide +kernel) (by repeat (first | exact PF.body | exact PF.round | apply PF.then | apply PF.inBlock | apply PF.jump)) ?_
        refine LtK.put rfl rfl rfl (yx_add rfl rfl) ?_
        refine LtK.nil ?_
        refine wpR_call [false, false, false, false, false, false, false, true] 7 ⟨by decide, by kernel_rfl, by kernel_rfl⟩ rfl rfl ?_
        try dsimp only [pickL]
        refine wpS_sliceM (ps := [(0, .tmp 45)]) [.int .i64 (IntKind.wrap .i64 (r48 + 1))] el_30 zc_3 rfl rfl rfl rfl rfl (by kernel_rfl) hS (fun b50 w hS hB => ?_)
        refine wpS_nil ?_
        refine QH_step hB ?_
        refine wpR_call [false, false, false, false, false, false, false, false, false, true] 9 ⟨by decide, by kernel_rfl, by kernel_rfl⟩ rfl rfl ?_
        try dsimp only [pickL]
        obtain ⟨r52, hm53, H⟩ := bind_some H
        refine wpS_call rfl rfl rfl rfl (by kernel_rfl) rfl (c_slices_Repeat___int_int_ ([(IntKind.wrap .i64 (r48 + 1))] : List Int) x1 (some ⟨b50, 0, none⟩) 1 _ (SlI.of_rd ⟨Nat.le_refl 1, by decide⟩ (hS.box_rd hs0) (hS.box_blk hs0)) hm53) ?_
        rintro e w ⟨A54, c55, rfl, k56, hN⟩; refine ⟨_, rfl, ?_⟩; have hB := hN.pure; have hS := hS.join hN; clear hN
        refine wpS_nil ?_
        refine QH_step hB ?_
        refine wpR_batch [false, false, false, false, false, false, false, false, false, false, false, true] (by decide +kernel) (by repeat (first | exact PF.body | exact PF.round | apply PF.then | apply PF.inBlock | apply PF.jump)) ?_
        refine LtK.put rfl rfl rfl (yv_fieldAddr fo_32_8 rfl) ?_
        refine LtK.nil ?_
        refine wpR_seal [false, false, false, false, false, false, false, false, false, false, false, false, true] 12 ⟨by decide, by kernel_rfl, by kernel_rfl⟩ rfl rfl ?_
        try dsimp only [pickL]
        refine wpS_store rfl rfl rfl CellsOf.slice hS ps8 st19_1 (by kernel_rfl) rfl (fun w hS hB => ?_)
        refine wpS_nil ?_
        refine QH_stepG (hB.sub (fun _ _ h => by simpa using h)) ?_
        refine wpR_batch [false, false, false, false, false, false, false, false, false, false, false, false, false, true] (by decide +kernel) (by repeat (first | exact PF.body | exact PF.round | apply PF.then | apply PF.inBlock | apply PF.jump)) ?_
        obtain ⟨e58, hi60, H⟩ := bind_some H
        obtain ⟨j59, hi60a, hi60b, hi60c⟩ := idx_some hi60
        refine LtK.put rfl rfl rfl (yx_idx el_30 rfl rfl hi60a hi60c (Rd.el (hS.row_rd hs3) he_enI hi60b)) ?_
        refine LtK.nil ?_
        refine wpR_seal [false, false, false, false, false, false, false, false, false, false, false, false, false, false, true] 14 ⟨by decide, by kernel_rfl, by kernel_rfl⟩ rfl rfl ?_
        try dsimp only [pickL]
        refine wpX_storeR2 (a' := x2) (zs := (setI l27 (IntKind.wrap .i64 (x0 - 1)) x2)) he_enI rfl rfl rfl CellsOf.int hS ps3 (Rd.el (hS.row_rd hs3) he_enI hi60b) hi60a hi60b rfl st0_1 (by kernel_rfl) rfl (fun w hS hB => ?_)
        refine wpS_nil ?_
        refine QH_stepG (hB.sub (fun _ _ h => by simp at h)) ?_
        refine wpR_end (by kernel_rfl) ?_
        refine QH_seq_k hK47 ?_
        refine wpC_seq_k (fun K hK61 => ?_)
        refine wpC_region ?_
        refine wpS_put rfl rfl rfl (yv_load_boxA ag_32 rfl (RW.here _) hS hs8 trivial sg0_22) ?_
        refine wpS_store rfl rfl rfl CellsOf.agg hS ps6 st0_22 (by kernel_rfl) rfl (fun w hS hB => ?_)
        refine wpS_nil ?_
        refine QH_seq_k hK61 ?_
        refine wpC_ret ?_
        refine QH_ret rfl (RV.cell rfl (load_boxA ag_32 hS hs6 sg0_22) RV.nil) rfl ?_
        obtain rfl := Option.some.inj H
        have hS := hS.front 3 rfl
        have hS := hS.front 3 rfl
        have hS := hS.front 2 rfl
        have hS := hS.front 4 rfl
        have hS := hS.front 5 rfl
        replace hS := hS.cut 5
        exact ⟨A15, c16, A31, c32, A54, c55, A43, c44, A37, c38, by rw [(setI_len rfl)]; rfl, k17, k33, k56, k45, (k_set k39), hS.eqv (by rw [(setI_len rfl)]; rfl)⟩
    · try dsimp only [pickL]
      refine wpS_store rfl rfl rfl CellsOf.slice hS ps4 st18_1 (by kernel_rfl) rfl (fun w hS hB => ?_)
      refine wpS_nil ?_
      refine QH_stepG (hB.sub (fun _ _ h => by simpa using h)) ?_
      refine wpR_two [false, false, false, true] [false, false, false, false, false, true] 3 5 ⟨by decide, by kernel_rfl, by kernel_rfl, by kernel_rfl⟩ rfl rfl rfl rfl ?_ ?_
      · try dsimp only [pickL]
        refine wpX_make he_enI em_30 rfl (by decide) rfl rfl rfl rfl hS hm26 (fun A37 c38 w k39 hS hB => ?_)
        refine wpS_nil ?_
        refine QH_step hB ?_
        refine wpR_batch [false, false, false, false, false, false, false, false, true] (by decide +kernel) (by repeat (first | exact PF.body | exact PF.round | apply PF.then | apply PF.inBlock | apply PF.jump)) ?_
        refine LtK.put rfl rfl rfl (yv_fieldAddr fo_32_9 rfl) ?_
        refine LtK.nil ?_
        refine wpR_many [5, 9] ⟨by decide, by kernel_rfl⟩ rfl (.call [false, false, false, false, false, true] 5 rfl rfl rfl ?_ (.put [false, false, false, false, false, false, false, false, false, true] 9 rfl rfl rfl ?_ .nil))
        · try dsimp only [pickL]
          refine wpX_make he_enI em_30 rfl (by decide) rfl rfl rfl rfl hS hm28 (fun A43 c44 w k45 hS hB => ?_)
          refine wpS_nil ?_
          refine QH_step hB ?_
          refine wpR_seal [false, false, false, false, false, false, false, false, false, true] 9 ⟨by decide, by kernel_rfl, by kernel_rfl⟩ rfl rfl ?_
          try dsimp only [pickL]
          refine wpS_store rfl rfl rfl CellsOf.slice hS ps6 st20_1 (by kernel_rfl) rfl (fun w hS hB => ?_)
          refine wpS_nil ?_
          refine QH_stepG (hB.sub (fun _ _ h => by simpa using h)) ?_
          refine wpR_batch [false, false, false, false, false, false, false, false, false, false, true] (by decide +kernel) (by repeat (first | exact PF.body | exact PF.round | apply PF.then | apply PF.inBlock | apply PF.jump)) ?_
          refine LtK.put rfl rfl rfl (yv_fieldAddr fo_32_10 rfl) ?_
          refine LtK.nil ?_
          refine wpR_seal [false, false, false, false, false, false, false, false, false, false, false, true] 11 ⟨by decide, by kernel_rfl, by kernel_rfl⟩ rfl rfl ?_
          try dsimp only [pickL]
          refine wpS_store rfl rfl rfl CellsOf.slice hS ps6 st21_1 (by kernel_rfl) rfl (fun w hS hB => ?_)
          refine wpS_nil ?_
          refine QH_stepG (hB.sub (fun _ _ h => by simpa using h)) ?_
          refine wpR_end (by kernel_rfl) ?_
          refine QH_seq_k hK22 ?_
          refine wpC_seq_k (fun K hK47 => ?_)
          refine wpC_draw 15 [12, 14] (fun i b => (i = 12 → b ≠ b19) ∧ (i = 14 → False)) ⟨by kernel_rfl, by kernel_rfl⟩ hS (fun w hS hB => ?_)
          refine wpR_batch [true, true, false, false, true, false, false, false, true] (by decide +kernel) (by repeat (first | exact PF.body | exact PF.round | apply PF.then | apply PF.inBlock | apply PF.jump)) ?_
          refine LtK.put rfl rfl rfl (yv_fieldAddr fo_32_10 rfl) ?_
          refine LtK.put rfl rfl rfl (yv_load_box sc_30 rfl (RW.below _) hS hs6 trivial sg21_1) ?_
          refine LtK.put rfl rfl rfl (yv_load_boxA ag_26 rfl (RW.below _) hS hs5 trivial sg0_8) ?_
          refine LtK.put rfl rfl rfl (yv_move rfl) ?_
          refine LtK.nil ?_
          refine wpR_batchG [false, false, true, true, false, false, false, false, false, false, true] [12] (fun b => b ≠ b19) (by decide +kernel) (by intro j hj b hb; simp only [List.mem_cons, List.not_mem_nil, or_false] at hj; (try rcases hj with rfl | rfl | rfl | rfl | rfl) <;> simp_all) (by repeat (first | exact PF.body | exact PF.round | apply PF.then | apply PF.inBlock | apply PF.jump)) ?_
          refine LtK.put rfl rfl rfl (yv_move rfl) ?_
          refine LtK.put rfl rfl rfl (yx_sub rfl rfl) ?_
          refine LtK.put rfl rfl rfl (yv_move rfl) ?_
          refine LtK.nil ?_
          refine wpR_call [false, false, false, false, false, true] 5 ⟨by decide, by kernel_rfl, by kernel_rfl⟩ rfl rfl ?_
          try dsimp only [pickL]
          obtain ⟨r48, hm49, H⟩ := bind_some H
          refine wpS_call rfl rfl rfl rfl (by kernel_rfl) rfl (c_tuple_Last x3 A0_ c0_ _ (SlI.of_rd s0_.k (hS.rd0 s0_.rd) (hS.blk0 s0_.blk)) hm49) ?_
          rintro e w ⟨rfl, hN⟩; refine ⟨_, rfl, ?_⟩; have hB := hN.pure; have hS := hS.join hN; clear hN
          refine wpS_nil ?_
          refine QH_step hB ?_
          refine wpR_batch [false, false, false, false, false, false, true] (by decide +kernel) (by repeat (first | exact PF.body | exact PF.round | apply PF.then | apply PF.inBlock | apply PF.jump)) ?_
          refine LtK.put rfl rfl rfl (yx_add rfl rfl) ?_
          refine LtK.nil ?_
          refine wpR_call [false, false, false, false, false, false, false, true] 7 ⟨by decide, by kernel_rfl, by kernel_rfl⟩ rfl rfl ?_
          try dsimp only [pickL]
          refine wpS_sliceM (ps := [(0, .tmp 45)]) [.int .i64 (IntKind.wrap .i64 (r48 + 1))] el_30 zc_3 rfl rfl rfl rfl rfl (by kernel_rfl) hS (fun b50 w hS hB => ?_)
          refine wpS_nil ?_
          refine QH_step hB ?_
          refine wpR_call [false, false, false, false, false, false, false, false, false, true] 9 ⟨by decide, by kernel_rfl, by kernel_rfl⟩ rfl rfl ?_
          try dsimp only [pickL]
          obtain ⟨r52, hm53, H⟩ := bind_some H
          refine wpS_call rfl rfl rfl rfl (by kernel_rfl) rfl (c_slices_Repeat___int_int_ ([(IntKind.wrap .i64 (r48 + 1))] : List Int) x1 (some ⟨b50, 0, none⟩) 1 _ (SlI.of_rd ⟨Nat.le_refl 1, by decide⟩ (hS.box_rd hs0) (hS.box_blk hs0)) hm53) ?_
          rintro e w ⟨A54, c55, rfl, k56, hN⟩; refine ⟨_, rfl, ?_⟩; have hB := hN.pure; have hS := hS.join hN; clear hN
          refine wpS_nil ?_
          refine QH_step hB ?_
          refine wpR_batch [false, false, false, false, false, false, false, false, false, false, false, true] (by decide +kernel) (by repeat (first | exact PF.body | exact PF.round | apply PF.then | apply PF.inBlock | apply PF.jump)) ?_
          refine LtK.put rfl rfl rfl (yv_fieldAddr fo_32_8 rfl) ?_
          refine LtK.nil ?_
          refine wpR_seal [false, false, false, false, false, false, false, false, false, false, false, false, true] 12 ⟨by decide, by kernel_rfl, by kernel_rfl⟩ rfl rfl ?_
          try dsimp only [pickL]
          refine wpS_store rfl rfl rfl CellsOf.slice hS ps8 st19_1 (by kernel_rfl) rfl (fun w hS hB => ?_)
          refine wpS_nil ?_
          refine QH_stepG (hB.sub (fun _ _ h => by simpa using h)) ?_
          refine wpR_batch [false, false, false, false, false, false, false, false, false, false, false, false, false, true] (by decide +kernel) (by repeat (first | exact PF.body | exact PF.round | apply PF.then | apply PF.inBlock | apply PF.jump)) ?_
          obtain ⟨e58, hi60, H⟩ := bind_some H
          obtain ⟨j59, hi60a, hi60b, hi60c⟩ := idx_some hi60
          refine LtK.put rfl rfl rfl (yx_idx el_30 rfl rfl hi60a hi60c (Rd.el (hS.row_rd hs2) he_enI hi60b)) ?_
          refine LtK.nil ?_
          refine wpR_seal [false, false, false, false, false, false, false, false, false, false, false, false, false, false, true] 14 ⟨by decide, by kernel_rfl, by kernel_rfl⟩ rfl rfl ?_
          try dsimp only [pickL]
          refine wpX_storeR2 (a' := x2) (zs := (setI l27 (IntKind.wrap .i64 (x0 - 1)) x2)) he_enI rfl rfl rfl CellsOf.int hS ps2 (Rd.el (hS.row_rd hs2) he_enI hi60b) hi60a hi60b rfl st0_1 (by kernel_rfl) rfl (fun w hS hB => ?_)
          refine wpS_nil ?_
          refine QH_stepG (hB.sub (fun _ _ h => by simp at h)) ?_
          refine wpR_end (by kernel_rfl) ?_
          refine QH_seq_k hK47 ?_
          refine wpC_seq_k (fun K hK61 => ?_)
          refine wpC_region ?_
          refine wpS_put rfl rfl rfl (yv_load_boxA ag_32 rfl (RW.here _) hS hs8 trivial sg0_22) ?_
          refine wpS_store rfl rfl rfl CellsOf.agg hS ps6 st0_22 (by kernel_rfl) rfl (fun w hS hB => ?_)
          refine wpS_nil ?_
          refine QH_seq_k hK61 ?_
          refine wpC_ret ?_
          refine QH_ret rfl (RV.cell rfl (load_boxA ag_32 hS hs6 sg0_22) RV.nil) rfl ?_
          obtain rfl := Option.some.inj H
          have hS := hS.front 2 rfl
          have hS := hS.front 3 rfl
          have hS := hS.front 2 rfl
          have hS := hS.front 4 rfl
          have hS := hS.front 5 rfl
          replace hS := hS.cut 5
          exact ⟨A15, c16, A31, c32, A54, c55, A37, c38, A43, c44, by rw [(setI_len rfl)]; rfl, k17, k33, k56, k39, (k_set k45), hS.eqv (by rw [(setI_len rfl)]; rfl)⟩
        · try dsimp only [pickL]
          refine wpS_store rfl rfl rfl CellsOf.slice hS ps5 st20_1 (by kernel_rfl) rfl (fun w hS hB => ?_)
          refine wpS_nil ?_
          refine QH_stepG (hB.sub (fun _ _ h => by simpa using h)) ?_
          refine wpR_call [false, false, false, false, false, true] 5 ⟨by decide, by kernel_rfl, by kernel_rfl⟩ rfl rfl ?_
          try dsimp only [pickL]
          refine wpX_make he_enI em_30 rfl (by decide) rfl rfl rfl rfl hS hm28 (fun A43 c44 w k45 hS hB => ?_)
          refine wpS_nil ?_
          refine QH_step hB ?_
          refine wpR_batch [false, false, false, false, false, false, false, false, false, false, true] (by decide +kernel) (by repeat (first | exact PF.body | exact PF.round | apply PF.then | apply PF.inBlock | apply PF.jump)) ?_
          refine LtK.put rfl rfl rfl (yv_fieldAddr fo_32_10 rfl) ?_
          refine LtK.nil ?_
          refine wpR_seal [false, false, false, false, false, false, false, false, false, false, false, true] 11 ⟨by decide, by kernel_rfl, by kernel_rfl⟩ rfl rfl ?_
          try dsimp only [pickL]
          refine wpS_store rfl rfl rfl CellsOf.slice hS ps6 st21_1 (by kernel_rfl) rfl (fun w hS hB => ?_)
          refine wpS_nil ?_
          refine QH_stepG (hB.sub (fun _ _ h => by simpa using h)) ?_
          refine wpR_end (by kernel_rfl) ?_
          refine QH_seq_k hK22 ?_
          refine wpC_seq_k (fun K hK47 => ?_)
          refine wpC_draw 15 [12, 14] (fun i b => (i = 12 → b ≠ b19) ∧ (i = 14 → False)) ⟨by kernel_rfl, by kernel_rfl⟩ hS (fun w hS hB => ?_)
          refine wpR_batch [true, true, false, false, true, false, false, false, true] (by decide +kernel) (by repeat (first | exact PF.body | exact PF.round | apply PF.then | apply PF.inBlock | apply PF.jump)) ?_
          refine LtK.put rfl rfl rfl (yv_fieldAddr fo_32_10 rfl) ?_
          refine LtK.put rfl rfl rfl (yv_load_box sc_30 rfl (RW.below _) hS hs6 trivial sg21_1) ?_
          refine LtK.put rfl rfl rfl (yv_load_boxA ag_26 rfl (RW.below _) hS hs5 trivial sg0_8) ?_
          refine LtK.put rfl rfl rfl (yv_move rfl) ?_
          refine LtK.nil ?_
          refine wpR_batchG [false, false, true, true, false, false, false, false, false, false, true] [12] (fun b => b ≠ b19) (by decide +kernel) (by intro j hj b hb; simp only [List.mem_cons, List.not_mem_nil, or_false] at hj; (try rcases hj with rfl | rfl | rfl | rfl | rfl) <;> simp_all) (by repeat (first | exact PF.body | exact PF.round | apply PF.then | apply PF.inBlock | apply PF.jump)) ?_
          refine LtK.put rfl rfl rfl (yv_move rfl) ?_
          refine LtK.put rfl rfl rfl (yx_sub rfl rfl) ?_
          refine LtK.put rfl rfl rfl (yv_move rfl) ?_
          refine LtK.nil ?_
          refine wpR_call [false, false, false, false, false, true] 5 ⟨by decide, by kernel_rfl, by kernel_rfl⟩ rfl rfl ?_
          try dsimp only [pickL]
          obtain ⟨r48, hm49, H⟩ := bind_some H
          refine wpS_call rfl rfl rfl rfl (by kernel_rfl) rfl (c_tuple_Last x3 A0_ c0_ _ (SlI.of_rd s0_.k (hS.rd0 s0_.rd) (hS.blk0 s0_.blk)) hm49) ?_
          rintro e w ⟨rfl, hN⟩; refine ⟨_, rfl, ?_⟩; have hB := hN.pure; have hS := hS.join hN; clear hN
          refine wpS_nil ?_
          refine QH_step hB ?_
          refine wpR_batch [false, false, false, false, false, false, true] (by decide +kernel) (by repeat (first | exact PF.body | exact PF.round | apply PF.then | apply PF.inBlock | apply PF.jump)) ?_
          refine LtK.put rfl rfl rfl (yx_add rfl rfl) ?_
          refine LtK.nil ?_
          refine wpR_call [false, false, false, false, false, false, false, true] 7 ⟨by decide, by kernel_rfl, by kernel_rfl⟩ rfl rfl ?_
          try dsimp only [pickL]
          refine wpS_sliceM (ps := [(0, .tmp 45)]) [.int .i64 (IntKind.wrap .i64 (r48 + 1))] el_30 zc_3 rfl rfl rfl rfl rfl (by kernel_rfl) hS (fun b50 w hS hB => ?_)
          refine wpS_nil ?_
          refine QH_step hB ?_
          refine wpR_call [false, false, false, false, false, false, false, false, false, true] 9 ⟨by decide, by kernel_rfl, by kernel_rfl⟩ rfl rfl ?_
          try dsimp only [pickL]
          obtain ⟨r52, hm53, H⟩ := bind_some H
          refine wpS_call rfl rfl rfl rfl (by kernel_rfl) rfl (c_slices_Repeat___int_int_ ([(IntKind.wrap .i64 (r48 + 1))] : List Int) x1 (some ⟨b50, 0, none⟩) 1 _ (SlI.of_rd ⟨Nat.le_refl 1, by decide⟩ (hS.box_rd hs0) (hS.box_blk hs0)) hm53) ?_
          rintro e w ⟨A54, c55, rfl, k56, hN⟩; refine ⟨_, rfl, ?_⟩; have hB := hN.pure; have hS := hS.join hN; clear hN
          refine wpS_nil ?_
          refine QH_step hB ?_
          refine wpR_batch [false, false, false, false, false, false, false, false, false, false, false, true] (by decide +kernel) (by repeat (first | exact PF.body | exact PF.round | apply PF.then | apply PF.inBlock | apply PF.jump)) ?_
          refine LtK.put rfl rfl rfl (yv_fieldAddr fo_32_8 rfl) ?_
          refine LtK.nil ?_
          refine wpR_seal [false, false, false, false, false, false, false, false, false, false, false, false, true] 12 ⟨by decide, by kernel_rfl, by kernel_rfl⟩ rfl rfl ?_
          try dsimp only [pickL]
          refine wpS_store rfl rfl rfl CellsOf.slice hS ps8 st19_1 (by kernel_rfl) rfl (fun w hS hB => ?_)
          refine wpS_nil ?_
          refine QH_stepG (hB.sub (fun _ _ h => by simpa using h)) ?_
          refine wpR_batch [false, false, false, false, false, false, false, false, false, false, false, false, false, true] (by decide +kernel) (by repeat (first | exact PF.body | exact PF.round | apply PF.then | apply PF.inBlock | apply PF.jump)) ?_
          obtain ⟨e58, hi60, H⟩ := bind_some H
          obtain ⟨j59, hi60a, hi60b, hi60c⟩ := idx_some hi60
          refine LtK.put rfl rfl rfl (yx_idx el_30 rfl rfl hi60a hi60c (Rd.el (hS.row_rd hs2) he_enI hi60b)) ?_
          refine LtK.nil ?_
          refine wpR_seal [false, false, false, false, false, false, false, false, false, false, false, false, false, false, true] 14 ⟨by decide, by kernel_rfl, by kernel_rfl⟩ rfl rfl ?_
          try dsimp only [pickL]
          refine wpX_storeR2 (a' := x2) (zs := (setI l27 (IntKind.wrap .i64 (x0 - 1)) x2)) he_enI rfl rfl rfl CellsOf.int hS ps2 (Rd.el (hS.row_rd hs2) he_enI hi60b) hi60a hi60b rfl st0_1 (by kernel_rfl) rfl (fun w hS hB => ?_)
          refine wpS_nil ?_
          refine QH_stepG (hB.sub (fun _ _ h => by simp at h)) ?_
          refine wpR_end (by kernel_rfl) ?_
          refine QH_seq_k hK47 ?_
          refine wpC_seq_k (fun K hK61 => ?_)
          refine wpC_region ?_
          refine wpS_put rfl rfl rfl (yv_load_boxA ag_32 rfl (RW.here _) hS hs8 trivial sg0_22) ?_
          refine wpS_store rfl rfl rfl CellsOf.agg hS ps6 st0_22 (by kernel_rfl) rfl (fun w hS hB => ?_)
          refine wpS_nil ?_
          refine QH_seq_k hK61 ?_
          refine wpC_ret ?_
          refine QH_ret rfl (RV.cell rfl (load_boxA ag_32 hS hs6 sg0_22) RV.nil) rfl ?_
          obtain rfl := Option.some.inj H
          have hS := hS.front 2 rfl
          have hS := hS.front 3 rfl
          have hS := hS.front 2 rfl
          have hS := hS.front 4 rfl
          have hS := hS.front 5 rfl
          replace hS := hS.cut 5
          exact ⟨A15, c16, A31, c32, A54, c55, A37, c38, A43, c44, by rw [(setI_len rfl)]; rfl, k17, k33, k56, k39, (k_set k45), hS.eqv (by rw [(setI_len rfl)]; rfl)⟩
      · try dsimp only [pickL]
        refine wpX_make he_enI em_30 rfl (by decide) rfl rfl rfl rfl hS hm28 (fun A37 c38 w k39 hS hB => ?_)
        refine wpS_nil ?_
        refine QH_step hB ?_
        refine wpR_call [false, false, false, true] 3 ⟨by decide, by kernel_rfl, by kernel_rfl⟩ rfl rfl ?_
        try dsimp only [pickL]
        refine wpX_make he_enI em_30 rfl (by decide) rfl rfl rfl rfl hS hm26 (fun A43 c44 w k45 hS hB => ?_)
        refine wpS_nil ?_
        refine QH_step hB ?_
        refine wpR_batch [false, false, false, false, false, false, false, false, true] (by decide +kernel) (by repeat (first | exact PF.body | exact PF.round | apply PF.then | apply PF.inBlock | apply PF.jump)) ?_
        refine LtK.put rfl rfl rfl (yv_fieldAddr fo_32_9 rfl) ?_
        refine LtK.nil ?_
        refine wpR_seal [false, false, false, false, false, false, false, false, false, true] 9 ⟨by decide, by kernel_rfl, by kernel_rfl⟩ rfl rfl ?_
        try dsimp only [pickL]
        refine wpS_store rfl rfl rfl CellsOf.slice hS ps6 st20_1 (by kernel_rfl) rfl (fun w hS hB => ?_)
        refine wpS_nil ?_
        refine QH_stepG (hB.sub (fun _ _ h => by simpa using h)) ?_
        refine wpR_batch [false, false, false, false, false, false, false, false, false, false, true] (by decide +kernel) (by repeat (first | exact PF.body | exact PF.round | apply PF.then | apply PF.inBlock | apply PF.jump)) ?_
        refine LtK.put rfl rfl rfl (yv_fieldAddr fo_32_10 rfl) ?_
        refine LtK.nil ?_
        refine wpR_seal [false, false, false, false, false, false, false, false, false, false, false, true] 11 ⟨by decide, by kernel_rfl, by kernel_rfl⟩ rfl rfl ?_
        try dsimp only [pickL]
        refine wpS_store rfl rfl rfl CellsOf.slice hS ps6 st21_1 (by kernel_rfl) rfl (fun w hS hB => ?_)
        refine wpS_nil ?_
        refine QH_stepG (hB.sub (fun _ _ h => by simpa using h)) ?_
        refine wpR_end (by kernel_rfl) ?_
        refine QH_seq_k hK22 ?_
        refine wpC_seq_k (fun K hK47 => ?_)
        refine wpC_draw 15 [12, 14] (fun i b => (i = 12 → b ≠ b19) ∧ (i = 14 → False)) ⟨by kernel_rfl, by kernel_rfl⟩ hS (fun w hS hB => ?_)
        refine wpR_batch [true, true, false, false, true, false, false, false, true] (by decide +kernel) (by repeat (first | exact PF.body | exact PF.round | apply PF.then | apply PF.inBlock | apply PF.jump)) ?_
        refine LtK.put rfl rfl rfl (yv_fieldAddr fo_32_10 rfl) ?_
        refine LtK.put rfl rfl rfl (yv_load_box sc_30 rfl (RW.below _) hS hs6 trivial sg21_1) ?_
        refine LtK.put rfl rfl rfl (yv_load_boxA ag_26 rfl (RW.below _) hS hs5 trivial sg0_8) ?_
        refine LtK.put rfl rfl rfl (yv_move rfl) ?_
        refine LtK.nil ?_
        refine wpR_batchG [false, false, true, true, false, false, false, false, false, false, true] [12] (fun b => b ≠ b19) (by decide +kernel) (by intro j hj b hb; simp only [List.mem_cons, List.not_mem_nil, or_false] at hj; (try rcases hj with rfl | rfl | rfl | rfl | rfl) <;> simp_all) (by repeat (first | exact PF.body | exact PF.round | apply PF.then | apply PF.inBlock | apply PF.jump)) ?_
        refine LtK.put rfl rfl rfl (yv_move rfl) ?_
        refine LtK.put rfl rfl rfl (yx_sub rfl rfl) ?_
        refine LtK.put rfl rfl rfl (yv_move rfl) ?_
        refine LtK.nil ?_
        refine wpR_call [false, false, false, false, false, true] 5 ⟨by decide, by kernel_rfl, by kernel_rfl⟩ rfl rfl ?_
        try dsimp only [pickL]
        obtain ⟨r48, hm49, H⟩ := bind_some H
        refine wpS_call rfl rfl rfl rfl (by kernel_rfl) rfl (c_tuple_Last x3 A0_ c0_ _ (SlI.of_rd s0_.k (hS.rd0 s0_.rd) (hS.blk0 s0_.blk)) hm49) ?_
        rintro e w ⟨rfl, hN⟩; refine ⟨_, rfl, ?_⟩; have hB := hN.pure; have hS := hS.join hN; clear hN
        refine wpS_nil ?_
        refine QH_step hB ?_
        refine wpR_batch [false, false, false, false, false, false, true] (by decide +kernel) (by repeat (first | exact PF.body | exact PF.round | apply PF.then | apply PF.inBlock | apply PF.jump)) ?_
        refine LtK.put rfl rfl rfl (yx_add rfl rfl) ?_
        refine LtK.nil ?_
        refine wpR_call [false, false, false, false, false, false, false, true] 7 ⟨by decide, by kernel_rfl, by kernel_rfl⟩ rfl rfl ?_
        try dsimp only [pickL]
        refine wpS_sliceM (ps := [(0, .tmp 45)]) [.int .i64 (IntKind.wrap .i64 (r48 + 1))] el_30 zc_3 rfl rfl rfl rfl rfl (by kernel_rfl) hS (fun b50 w hS hB => ?_)
        refine wpS_nil ?_
        refine QH_step hB ?_
        refine wpR_call [false, false, false, false, false, false, false, false, false, true] 9 ⟨by decide, by kernel_rfl, by kernel_rfl⟩ rfl rfl ?_
        try dsimp only [pickL]
        obtain ⟨r52, hm53, H⟩ := bind_some H
        refine wpS_call rfl rfl rfl rfl (by kernel_rfl) rfl (c_slices_Repeat___int_int_ ([(IntKind.wrap .i64 (r48 + 1))] : List Int) x1 (some ⟨b50, 0, none⟩) 1 _ (SlI.of_rd ⟨Nat.le_refl 1, by decide⟩ (hS.box_rd hs0) (hS.box_blk hs0)) hm53) ?_
        rintro e w ⟨A54, c55, rfl, k56, hN⟩; refine ⟨_, rfl, ?_⟩; have hB := hN.pure; have hS := hS.join hN; clear hN
        refine wpS_nil ?_
        refine QH_step hB ?_
        refine wpR_batch [false, false, false, false, false, false, false, false, false, false, false, true] (by decide +kernel) (by repeat (first | exact PF.body | exact PF.round | apply PF.then | apply PF.inBlock | apply PF.jump)) ?_
        refine LtK.put rfl rfl rfl (yv_fieldAddr fo_32_8 rfl) ?_
        refine LtK.nil ?_
        refine wpR_seal [false, false, false, false, false, false, false, false, false, false, false, false, true] 12 ⟨by decide, by kernel_rfl, by kernel_rfl⟩ rfl rfl ?_
        try dsimp only [pickL]
        refine wpS_store rfl rfl rfl CellsOf.slice hS ps8 st19_1 (by kernel_rfl) rfl (fun w hS hB => ?_)
        refine wpS_nil ?_
        refine QH_stepG (hB.sub (fun _ _ h => by simpa using h)) ?_
        refine wpR_batch [false, false, false, false, false, false, false, false, false, false, false, false, false, true] (by decide +kernel) (by repeat (first | exact PF.body | exact PF.round | apply PF.then | apply PF.inBlock | apply PF.jump)) ?_
        obtain ⟨e58, hi60, H⟩ := bind_some H
        obtain ⟨j59, hi60a, hi60b, hi60c⟩ := idx_some hi60
        refine LtK.put rfl rfl rfl (yx_idx el_30 rfl rfl hi60a hi60c (Rd.el (hS.row_rd hs3) he_enI hi60b)) ?_
        refine LtK.nil ?_
        refine wpR_seal [false, false, false, false, false, false, false, false, false, false, false, false, false, false, true] 14 ⟨by decide, by kernel_rfl, by kernel_rfl⟩ rfl rfl ?_
        try dsimp only [pickL]
        refine wpX_storeR2 (a' := x2) (zs := (setI l27 (IntKind.wrap .i64 (x0 - 1)) x2)) he_enI rfl rfl rfl CellsOf.int hS ps3 (Rd.el (hS.row_rd hs3) he_enI hi60b) hi60a hi60b rfl st0_1 (by kernel_rfl) rfl (fun w hS hB => ?_)
        refine wpS_nil ?_
        refine QH_stepG (hB.sub (fun _ _ h => by simp at h)) ?_
        refine wpR_end (by kernel_rfl) ?_
        refine QH_seq_k hK47 ?_
        refine wpC_seq_k (fun K hK61 => ?_)
        refine wpC_region ?_
        refine wpS_put rfl rfl rfl (yv_load_boxA ag_32 rfl (RW.here _) hS hs8 trivial sg0_22) ?_
        refine wpS_store rfl rfl rfl CellsOf.agg hS ps6 st0_22 (by kernel_rfl) rfl (fun w hS hB => ?_)
        refine wpS_nil ?_
        refine QH_seq_k hK61 ?_
        refine wpC_ret ?_
        refine QH_ret rfl (RV.cell rfl (load_boxA ag_32 hS hs6 sg0_22) RV.nil) rfl ?_
        obtain rfl := Option.some.inj H
        have hS := hS.front 3 rfl
        have hS := hS.front 3 rfl
        have hS := hS.front 2 rfl
        have hS := hS.front 4 rfl
        have hS := hS.front 5 rfl
        replace hS := hS.cut 5
        exact ⟨A15, c16, A31, c32, A54, c55, A43, c44, A37, c38, by rw [(setI_len rfl)]; rfl, k17, k33, k56, k45, (k_set k39), hS.eqv (by rw [(setI_len rfl)]; rfl)⟩
  · try dsimp only [pickL]
    refine wpX_make he_enI em_30 rfl (by decide) rfl rfl rfl rfl hS hm26 (fun A31 c32 w k33 hS hB => ?_)
    refine wpS_nil ?_
    refine QH_step hB ?_
    refine wpR_two [false, true] [false, false, false, false, false, true] 1 5 ⟨by decide, by kernel_rfl, by kernel_rfl, by kernel_rfl⟩ rfl rfl rfl rfl ?_ ?_
    · try dsimp only [pickL]
      refine wpX_make he_enO em_29 rfl (by decide) rfl rfl rfl rfl hS hm24 (fun A37 c38 w k39 hS hB => ?_)
      refine wpS_nil ?_
      refine QH_step hB ?_
      refine wpR_batch [false, false, false, false, false, false, true] (by decide +kernel) (by repeat (first | exact PF.body | exact PF.round | apply PF.then | apply PF.inBlock | apply PF.jump)) ?_
      refine LtK.put rfl rfl rfl (yv_fieldAddr fo_32_7 rfl) ?_
      refine LtK.nil ?_
      refine wpR_many [5, 7] ⟨by decide, by kernel_rfl⟩ rfl (.call [false, false, false, false, false, true] 5 rfl rfl rfl ?_ (.put [false, false, false, false, false, false, false, true] 7 rfl rfl rfl ?_ .nil))
      · try dsimp only [pickL]
        refine wpX_make he_enI em_30 rfl (by decide) rfl rfl rfl rfl hS hm28 (fun A43 c44 w k45 hS hB => ?_)
        refine wpS_nil ?_
        refine QH_step hB ?_
        refine wpR_seal [false, false, false, false, false, false, false, true] 7 ⟨by decide, by kernel_rfl, by kernel_rfl⟩ rfl rfl ?_
        try dsimp only [pickL]
        refine wpS_store rfl rfl rfl CellsOf.slice hS ps6 st18_1 (by kernel_rfl) rfl (fun w hS hB => ?_)
        refine wpS_nil ?_
        refine QH_stepG (hB.sub (fun _ _ h => by simpa using h)) ?_
        refine wpR_batch [false, false, false, false, false, false, false, false, true] (by decide +kernel) (by repeat (first | exact PF.body | exact PF.round | apply PF.then | apply PF.inBlock | apply PF.jump)) ?_
        refine LtK.put rfl rfl rfl (yv_fieldAddr fo_32_9 rfl) ?_
        refine LtK.nil ?_
        refine wpR_seal [false, false, false, false, false, false, false, false, false, true] 9 ⟨by decide, by kernel_rfl, by kernel_rfl⟩ rfl rfl ?_
        try dsimp only [pickL]
        refine wpS_store rfl rfl rfl CellsOf.slice hS ps6 st20_1 (by kernel_rfl) rfl (fun w hS hB => ?_)
        refine wpS_nil ?_
        refine QH_stepG (hB.sub (fun _ _ h => by simpa using h)) ?_
        refine wpR_batch [false, false, false, false, false, false, false, false, false, false, true] (by decide +kernel) (by repeat (first | exact PF.body | exact PF.round | apply PF.then | apply PF.inBlock | apply PF.jump)) ?_
        refine LtK.put rfl rfl rfl (yv_fieldAddr fo_32_10 rfl) ?_
        refine LtK.nil ?_
        refine wpR_seal [false, false, false, false, false, false, false, false, false, false, false, true] 11 ⟨by decide, by kernel_rfl, by kernel_rfl⟩ rfl rfl ?_
        try dsimp only [pickL]
        refine wpS_store rfl rfl rfl CellsOf.slice hS ps6 st21_1 (by kernel_rfl) rfl (fun w hS hB => ?_)
        refine wpS_nil ?_
        refine QH_stepG (hB.sub (fun _ _ h => by simpa using h)) ?_
        refine wpR_end (by kernel_rfl) ?_
        refine QH_seq_k hK22 ?_
        refine wpC_seq_k (fun K hK47 => ?_)
        refine wpC_draw 15 [12, 14] (fun i b => (i = 12 → b ≠ b19) ∧ (i = 14 → False)) ⟨by kernel_rfl, by kernel_rfl⟩ hS (fun w hS hB => ?_)
        refine wpR_batch [true, true, false, false, true, false, false, false, true] (by decide +kernel) (by repeat (first | exact PF.body | exact PF.round | apply PF.then | apply PF.inBlock | apply PF.jump)) ?_
        refine LtK.put rfl rfl rfl (yv_fieldAddr fo_32_10 rfl) ?_
        refine LtK.put rfl rfl rfl (yv_load_box sc_30 rfl (RW.below _) hS hs6 trivial sg21_1) ?_
        refine LtK.put rfl rfl rfl (yv_load_boxA ag_26 rfl (RW.below _) hS hs5 trivial sg0_8) ?_
        refine LtK.put rfl rfl rfl (yv_move rfl) ?_
        refine LtK.nil ?_
        refine wpR_batchG [false, false, true, true, false, false, false, false, false, false, true] [12] (fun b => b ≠ b19) (by decide +kernel) (by intro j hj b hb; simp only [List.mem_cons, List.not_mem_nil, or_false] at hj; (try rcases hj with rfl | rfl | rfl | rfl | rfl) <;> simp_all) (by repeat (first | exact PF.body | exact PF.round | apply PF.then | apply PF.inBlock | apply PF.jump)) ?_
        refine LtK.put rfl rfl rfl (yv_move rfl) ?_
        refine LtK.put rfl rfl rfl (yx_sub rfl rfl) ?_
        refine LtK.put rfl rfl rfl (yv_move rfl) ?_
        refine LtK.nil ?_
        refine wpR_call [false, false, false, false, false, true] 5 ⟨by decide, by kernel_rfl, by kernel_rfl⟩ rfl rfl ?_
        try dsimp only [pickL]
        obtain ⟨r48, hm49, H⟩ := bind_some H
        refine wpS_call rfl rfl rfl rfl (by kernel_rfl) rfl (c_tuple_Last x3 A0_ c0_ _ (SlI.of_rd s0_.k (hS.rd0 s0_.rd) (hS.blk0 s0_.blk)) hm49) ?_
        rintro e w ⟨rfl, hN⟩; refine ⟨_, rfl, ?_⟩; have hB := hN.pure; have hS := hS.join hN; clear hN
        refine wpS_nil ?_
        refine QH_step hB ?_
        refine wpR_batch [false, false, false, false, false, false, true] (by decide +kernel) (by repeat (first | exact PF.body | exact PF.round | apply PF.then | apply PF.inBlock | apply PF.jump)) ?_
        refine LtK.put rfl rfl rfl (yx_add rfl rfl) ?_
        refine LtK.nil ?_
        refine wpR_call [false, false, false, false, false, false, false, true] 7 ⟨by decide, by kernel_rfl, by kernel_rfl⟩ rfl rfl ?_
        try dsimp only [pickL]
        refine wpS_sliceM (ps := [(0, .tmp 45)]) [.int .i64 (IntKind.wrap .i64 (r48 + 1))] el_30 zc_3 rfl rfl rfl rfl rfl (by kernel_rfl) hS (fun b50 w hS hB => ?_)
        refine wpS_nil ?_
        refine QH_step hB ?_
        refine wpR_call [false, false, false, false, false, false, false, false, false, true] 9 ⟨by decide, by kernel_rfl, by kernel_rfl⟩ rfl rfl ?_
        try dsimp only [pickL]
        obtain ⟨r52, hm53, H⟩ := bind_some H
        refine wpS_call rfl rfl rfl rfl (by kernel_rfl) rfl (c_slices_Repeat___int_int_ ([(IntKind.wrap .i64 (r48 + 1))] : List Int) x1 (some ⟨b50, 0, none⟩) 1 _ (SlI.of_rd ⟨Nat.le_refl 1, by decide⟩ (hS.box_rd hs0) (hS.box_blk hs0)) hm53) ?_
        rintro e w ⟨A54, c55, rfl, k56, hN⟩; refine ⟨_, rfl, ?_⟩; have hB := hN.pure; have hS := hS.join hN; clear hN
        refine wpS_nil ?_
        refine QH_step hB ?_
        refine wpR_batch [false, false, false, false, false, false, false, false, false, false, false, true] (by decide +kernel) (by repeat (first | exact PF.body | exact PF.round | apply PF.then | apply PF.inBlock | apply PF.jump)) ?_
        refine LtK.put rfl rfl rfl (yv_fieldAddr fo_32_8 rfl) ?_
        refine LtK.nil ?_
        refine wpR_seal [false, false, false, false, false, false, false, false, false, false, false, false, true] 12 ⟨by decide, by kernel_rfl, by kernel_rfl⟩ rfl rfl ?_
        try dsimp only [pickL]
        refine wpS_store rfl rfl rfl CellsOf.slice hS ps8 st19_1 (by kernel_rfl) rfl (fun w hS hB => ?_)
        refine wpS_nil ?_
        refine QH_stepG (hB.sub (fun _ _ h => by simpa using h)) ?_
        refine wpR_batch [false, false, false, false, false, false, false, false, false, false, false, false, false, true] (by decide +kernel) (by repeat (first | exact PF.body | exact PF.round | apply PF.then | apply PF.inBlock | apply PF.jump)) ?_
        obtain ⟨e58, hi60, H⟩ := bind_some H
        obtain ⟨j59, hi60a, hi60b, hi60c⟩ := idx_some hi60
        refine LtK.put rfl rfl rfl (yx_idx el_30 rfl rfl hi60a hi60c (Rd.el (hS.row_rd hs2) he_enI hi60b)) ?_
        refine LtK.nil ?_
        refine wpR_seal [false, false, false, false, false, false, false, false, false, false, false, false, false, false, true] 14 ⟨by decide, by kernel_rfl, by kernel_rfl⟩ rfl rfl ?_
        try dsimp only [pickL]
        refine wpX_storeR2 (a' := x2) (zs := (setI l27 (IntKind.wrap .i64 (x0 - 1)) x2)) he_enI rfl rfl rfl CellsOf.int hS ps2 (Rd.el (hS.row_rd hs2) he_enI hi60b) hi60a hi60b rfl st0_1 (by kernel_rfl) rfl (fun w hS hB => ?_)
        refine wpS_nil ?_
        refine QH_stepG (hB.sub (fun _ _ h => by simp at h)) ?_
        refine wpR_end (by kernel_rfl) ?_
        refine QH_seq_k hK47 ?_
        refine wpC_seq_k (fun K hK61 => ?_)
        refine wpC_region ?_
        refine wpS_put rfl rfl rfl (yv_load_boxA ag_32 rfl (RW.here _) hS hs8 trivial sg0_22) ?_
        refine wpS_store rfl rfl rfl CellsOf.agg hS ps6 st0_22 (by kernel_rfl) rfl (fun w hS hB => ?_)
        refine wpS_nil ?_
        refine QH_seq_k hK61 ?_
        refine wpC_ret ?_
        refine QH_ret rfl (RV.cell rfl (load_boxA ag_32 hS hs6 sg0_22) RV.nil) rfl ?_
        obtain rfl := Option.some.inj H
        have hS := hS.front 2 rfl
        have hS := hS.front 4 rfl
        have hS := hS.front 2 rfl
        have hS := hS.front 4 rfl
        have hS := hS.front 5 rfl
        replace hS := hS.cut 5
        exact ⟨A15, c16, A37, c38, A54, c55, A31, c32, A43, c44, by rw [(setI_len rfl)]; rfl, k17, k39, k56, k33, (k_set k45), hS.eqv (by rw [(setI_len rfl)]; rfl)⟩
      · try dsimp only [pickL]
        refine wpS_store rfl rfl rfl CellsOf.slice hS ps5 st18_1 (by kernel_rfl) rfl (fun w hS hB => ?_)
        refine wpS_nil ?_
        refine QH_stepG (hB.sub (fun _ _ h => by simpa using h)) ?_
        refine wpR_batch [false, false, false, false, false, false, false, false, true] (by decide +kernel) (by repeat (first | exact PF.body | exact PF.round | apply PF.then | apply PF.inBlock | apply PF.jump)) ?_
        refine LtK.put rfl rfl rfl (yv_fieldAddr fo_32_9 rfl) ?_
        refine LtK.nil ?_
        refine wpR_many [5, 9] ⟨by decide, by kernel_rfl⟩ rfl (.call [false, false, false, false, false, true] 5 rfl rfl rfl ?_ (.put [false, false, false, false, false, false, false, false, false, true] 9 rfl rfl rfl ?_ .nil))
        · try dsimp only [pickL]
          refine wpX_make he_enI em_30 rfl (by decide) rfl rfl rfl rfl hS hm28 (fun A43 c44 w k45 hS hB => ?_)
          refine wpS_nil ?_
          refine QH_step hB ?_
          refine wpR_seal [false, false, false, false, false, false, false, false, false, true] 9 ⟨by decide, by kernel_rfl, by kernel_rfl⟩ rfl rfl ?_
          try dsimp only [pickL]
          refine wpS_store rfl rfl rfl CellsOf.slice hS ps6 st20_1 (by kernel_rfl) rfl (fun w hS hB => ?_)
          refine wpS_nil ?_
          refine QH_stepG (hB.sub (fun _ _ h => by simpa using h)) ?_
          refine wpR_batch [false, false, false, false, false, false, false, false, false, false, true] (by decide +kernel) (by repeat (first | exact PF.body | exact PF.round | apply PF.then | apply PF.inBlock | apply PF.jump)) ?_
          refine LtK.put rfl rfl rfl (yv_fieldAddr fo_32_10 rfl) ?_
          refine LtK.nil ?_
          refine wpR_seal [false, false, false, false, false, false, false, false, false, false, false, true] 11 ⟨by decide, by kernel_rfl, by kernel_rfl⟩ rfl rfl ?_
          try dsimp only [pickL]
          refine wpS_store rfl rfl rfl CellsOf.slice hS ps6 st21_1 (by kernel_rfl) rfl (fun w hS hB => ?_)
          refine wpS_nil ?_
          refine QH_stepG (hB.sub (fun _ _ h => by simpa using h)) ?_
          refine wpR_end (by kernel_rfl) ?_
          refine QH_seq_k hK22 ?_
          refine wpC_seq_k (fun K hK47 => ?_)
          refine wpC_draw 15 [12, 14] (fun i b => (i = 12 → b ≠ b19) ∧ (i = 14 → False)) ⟨by kernel_rfl, by kernel_rfl⟩ hS (fun w hS hB => ?_)
          refine wpR_batch [true, true, false, false, true, false, false, false, true] (by decide +kernel) (by repeat (first | exact PF.body | exact PF.round | apply PF.then | apply PF.inBlock | apply PF.jump)) ?_
          refine LtK.put rfl rfl rfl (yv_fieldAddr fo_32_10 rfl) ?_
          refine LtK.put rfl rfl rfl (yv_load_box sc_30 rfl (RW.below _) hS hs6 trivial sg21_1) ?_
          refine LtK.put rfl rfl rfl (yv_load_boxA ag_26 rfl (RW.below _) hS hs5 trivial sg0_8) ?_
          refine LtK.put rfl rfl rfl (yv_move rfl) ?_
          refine LtK.nil ?_
          refine wpR_batchG [false, false, true, true, false, false, false, false, false, false, true] [12] (fun b => b ≠ b19) (by decide +kernel) (by intro j hj b hb; simp only [List.mem_cons, List.not_mem_nil, or_false] at hj; (try rcases hj with rfl | rfl | rfl | rfl | rfl) <;> simp_all) (by repeat (first | exact PF.body | exact PF.round | apply PF.then | apply PF.inBlock | apply PF.jump)) ?_
          refine LtK.put rfl rfl rfl (yv_move rfl) ?_
          refine LtK.put rfl rfl rfl (yx_sub rfl rfl) ?_
          refine LtK.put rfl rfl rfl (yv_move rfl) ?_
          refine LtK.nil ?_
          refine wpR_call [false, false, false, false, false, true] 5 ⟨by decide, by kernel_rfl, by kernel_rfl⟩ rfl rfl ?_
          try dsimp only [pickL]
          obtain ⟨r48, hm49, H⟩ := bind_some H
          refine wpS_call rfl rfl rfl rfl (by kernel_rfl) rfl (c_tuple_Last x3 A0_ c0_ _ (SlI.of_rd s0_.k (hS.rd0 s0_.rd) (hS.blk0 s0_.blk)) hm49) ?_
          rintro e w ⟨rfl, hN⟩; refine ⟨_, rfl, ?_⟩; have hB := hN.pure; have hS := hS.join hN; clear hN
          refine wpS_nil ?_
          refine QH_step hB ?_
          refine wpR_batch [false, false, false, false, false, false, true] (by decide +kernel) (by repeat (first | exact PF.body | exact PF.round | apply PF.then | apply PF.inBlock | apply PF.jump)) ?_
          refine LtK.put rfl rfl rfl (yx_add rfl rfl) ?_
          refine LtK.nil ?_
          refine wpR_call [false, false, false, false, false, false, false, true] 7 ⟨by decide, by kernel_rfl, by kernel_rfl⟩ rfl rfl ?_
          try dsimp only [pickL]
          refine wpS_sliceM (ps := [(0, .tmp 45)]) [.int .i64 (IntKind.wrap .i64 (r48 + 1))] el_30 zc_3 rfl rfl rfl rfl rfl (by kernel_rfl) hS (fun b50 w hS hB => ?_)
          refine wpS_nil ?_
          refine QH_step hB ?_
          refine wpR_call [false, false, false, false, false, false, false, false, false, true] 9 ⟨by decide, by kernel_rfl, by kernel_rfl⟩ rfl rfl ?_
          try dsimp only [pickL]
          obtain ⟨r52, hm53, H⟩ := bind_some H
          refine wpS_call rfl rfl rfl rfl (by kernel_rfl) rfl (c_slices_Repeat___int_int_ ([(IntKind.wrap .i64 (r48 + 1))] : List Int) x1 (some ⟨b50, 0, none⟩) 1 _ (SlI.of_rd ⟨Nat.le_refl 1, by decide⟩ (hS.box_rd hs0) (hS.box_blk hs0)) hm53) ?_
          rintro e w ⟨A54, c55, rfl, k56, hN⟩; refine ⟨_, rfl, ?_⟩; have hB := hN.pure; have hS := hS.join hN; clear hN
          refine wpS_nil ?_
          refine QH_step hB ?_
          refine wpR_batch [false, false, false, false, false, false, false, false, false, false, false, true] (by decide +kernel) (by repeat (first | exact PF.body | exact PF.round | apply PF.then | apply PF.inBlock | apply PF.jump)) ?_
          refine LtK.put rfl rfl rfl (yv_fieldAddr fo_32_8 rfl) ?_
          refine LtK.nil ?_
          refine wpR_seal [false, false, false, false, false, false, false, false, false, false, false, false, true] 12 ⟨by decide, by kernel_rfl, by kernel_rfl⟩ rfl rfl ?_
          try dsimp only [pickL]
          refine wpS_store rfl rfl rfl CellsOf.slice hS ps8 st19_1 (by kernel_rfl) rfl (fun w hS hB => ?_)
          refine wpS_nil ?_
          refine QH_stepG (hB.sub (fun _ _ h => by simpa using h)) ?_
          refine wpR_batch [false, false, false, false, false, false, false, false, false, false, false, false, false, true] (by decide +kernel) (by repeat (first | exact PF.body | exact PF.round | apply PF.then | apply PF.inBlock | apply PF.jump)) ?_
          obtain ⟨e58, hi60, H⟩ := bind_some H
          obtain ⟨j59, hi60a, hi60b, hi60c⟩ := idx_some hi60
          refine LtK.put rfl rfl rfl (yx_idx el_30 rfl rfl hi60a hi60c (Rd.el (hS.row_rd hs2) he_enI hi60b)) ?_
          refine LtK.nil ?_
          refine wpR_seal [false, false, false, false, false, false, false, false, false, false, false, false, false, false, true] 14 ⟨by decide, by kernel_rfl, by kernel_rfl⟩ rfl rfl ?_
          try dsimp only [pickL]
          refine wpX_storeR2 (a' := x2) (zs := (setI l27 (IntKind.wrap .i64 (x0 - 1)) x2)) he_enI rfl rfl rfl CellsOf.int hS ps2 (Rd.el (hS.row_rd hs2) he_enI hi60b) hi60a hi60b rfl st0_1 (by kernel_rfl) rfl (fun w hS hB => ?_)
          refine wpS_nil ?_
          refine QH_stepG (hB.sub (fun _ _ h => by simp at h)) ?_
          refine wpR_end (by kernel_rfl) ?_
          refine QH_seq_k hK47 ?_
          refine wpC_seq_k (fun K hK61 => ?_)
          refine wpC_region ?_
          refine wpS_put rfl rfl rfl (yv_load_boxA ag_32 rfl (RW.here _) hS hs8 trivial sg0_22) ?_
          refine wpS_store rfl rfl rfl CellsOf.agg hS ps6 st0_22 (by kernel_rfl) rfl (fun w hS hB => ?_)
          refine wpS_nil ?_
          refine QH_seq_k hK61 ?_
          refine wpC_ret ?_
          refine QH_ret rfl (RV.cell rfl (load_boxA ag_32 hS hs6 sg0_22) RV.nil) rfl ?_
          obtain rfl := Option.some.inj H
          have hS := hS.front 2 rfl
          have hS := hS.front 4 rfl
          have hS := hS.front 2 rfl
          have hS := hS.front 4 rfl
          have hS := hS.front 5 rfl
          replace hS := hS.cut 5
          exact ⟨A15, c16, A37, c38, A54, c55, A31, c32, A43, c44, by rw [(setI_len rfl)]; rfl, k17, k39, k56, k33, (k_set k45), hS.eqv (by rw [(setI_len rfl)]; rfl)⟩
        · try dsimp only [pickL]
          refine wpS_store rfl rfl rfl CellsOf.slice hS ps5 st20_1 (by kernel_rfl) rfl (fun w hS hB => ?_)
          refine wpS_nil ?_
          refine QH_stepG (hB.sub (fun _ _ h => by simpa using h)) ?_
          refine wpR_call [false, false, false, false, false, true] 5 ⟨by decide, by kernel_rfl, by kernel_rfl⟩ rfl rfl ?_
          try dsimp only [pickL]
          refine wpX_make he_enI em_30 rfl (by decide) rfl rfl rfl rfl hS hm28 (fun A43 c44 w k45 hS hB => ?_)
          refine wpS_nil ?_
          refine QH_step hB ?_
          refine wpR_batch [false, false, false, false, false, false, false, false, false, false, true] (by decide +kernel) (by repeat (first | exact PF.body | exact PF.round | apply PF.then | apply PF.inBlock | apply PF.jump)) ?_
          refine LtK.put rfl rfl rfl (yv_fieldAddr fo_32_10 rfl) ?_
          refine LtK.nil ?_
          refine wpR_seal [false, false, false, false, false, false, false, false, false, false, false, true] 11 ⟨by decide, by kernel_rfl, by kernel_rfl⟩ rfl rfl ?_
          try dsimp only [pickL]
          refine wpS_store rfl rfl rfl CellsOf.slice hS ps6 st21_1 (by kernel_rfl) rfl (fun w hS hB => ?_)
          refine wpS_nil ?_
          refine QH_stepG (hB.sub (fun _ _ h => by simpa using h)) ?_
          refine wpR_end (by kernel_rfl) ?_
          refine QH_seq_k hK22 ?_
          refine wpC_seq_k (fun K hK47 => ?_)
          refine wpC_draw 15 [12, 14] (fun i b => (i = 12 → b ≠ b19) ∧ (i = 14 → False)) ⟨by kernel_rfl, by kernel_rfl⟩ hS (fun w hS hB => ?_)
          refine wpR_batch [true, true, false, false, true, false, false, false, true] (by decide +kernel) (by repeat (first | exact PF.body | exact PF.round | apply PF.then | apply PF.inBlock | apply PF.jump)) ?_
          refine LtK.put rfl rfl rfl (yv_fieldAddr fo_32_10 rfl) ?_
          refine LtK.put rfl rfl rfl (yv_load_box sc_30 rfl (RW.below _) hS hs6 trivial sg21_1) ?_
          refine LtK.put rfl rfl rfl (yv_load_boxA ag_26 rfl (RW.below _) hS hs5 trivial sg0_8) ?_
          refine LtK.put rfl rfl rfl (yv_move rfl) ?_
          refine LtK.nil ?_
          refine wpR_batchG [false, false, true, true, false, false, false, false, false, false, true] [12] (fun b => b ≠ b19) (by decide +kernel) (by intro j hj b hb; simp only [List.mem_cons, List.not_mem_nil, or_false] at hj; (try rcases hj with rfl | rfl | rfl | rfl | rfl) <;> simp_all) (by repeat (first | exact PF.body | exact PF.round | apply PF.then | apply PF.inBlock | apply PF.jump)) ?_
          refine LtK.put rfl rfl rfl (yv_move rfl) ?_
          refine LtK.put rfl rfl rfl (yx_sub rfl rfl) ?_
          refine LtK.put rfl rfl rfl (yv_move rfl) ?_
          refine LtK.nil ?_
          refine wpR_call [false, false, false, false, false, true] 5 ⟨by decide, by kernel_rfl, by kernel_rfl⟩ rfl rfl ?_
          try dsimp only [pickL]
          obtain ⟨r48, hm49, H⟩ := bind_some H
          refine wpS_call rfl rfl rfl rfl (by kernel_rfl) rfl (c_tuple_Last x3 A0_ c0_ _ (SlI.of_rd s0_.k (hS.rd0 s0_.rd) (hS.blk0 s0_.blk)) hm49) ?_
          rintro e w ⟨rfl, hN⟩; refine ⟨_, rfl, ?_⟩; have hB := hN.pure; have hS := hS.join hN; clear hN
          refine wpS_nil ?_
          refine QH_step hB ?_
          refine wpR_batch [false, false, false, false, false, false, true] (by decide +kernel) (by repeat (first | exact PF.body | exact PF.round | apply PF.then | apply PF.inBlock | apply PF.jump)) ?_
          refine LtK.put rfl rfl rfl (yx_add rfl rfl) ?_
          refine LtK.nil ?_
          refine wpR_call [false, false, false, false, false, false, false, true] 7 ⟨by decide, by kernel_rfl, by kernel_rfl⟩ rfl rfl ?_
          try dsimp only [pickL]
          refine wpS_sliceM (ps := [(0, .tmp 45)]) [.int .i64 (IntKind.wrap .i64 (r48 + 1))] el_30 zc_3 rfl rfl rfl rfl rfl (by kernel_rfl) hS (fun b50 w hS hB => ?_)
          refine wpS_nil ?_
          refine QH_step hB ?_
          refine wpR_call [false, false, false, false, false, false, false, false, false, true] 9 ⟨by decide, by kernel_rfl, by kernel_rfl⟩ rfl rfl ?_
          try dsimp only [pickL]
          obtain ⟨r52, hm53, H⟩ := bind_some H
          refine wpS_call rfl rfl rfl rfl (by kernel_rfl) rfl (c_slices_Repeat___int_int_ ([(IntKind.wrap .i64 (r48 + 1))] : List Int) x1 (some ⟨b50, 0, none⟩) 1 _ (SlI.of_rd ⟨Nat.le_refl 1, by decide⟩ (hS.box_rd hs0) (hS.box_blk hs0)) hm53) ?_
          rintro e w ⟨A54, c55, rfl, k56, hN⟩; refine ⟨_, rfl, ?_⟩; have hB := hN.pure; have hS := hS.join hN; clear hN
          refine wpS_nil ?_
          refine QH_step hB ?_
          refine wpR_batch [false, false, false, false, false, false, false, false, false, false, false, true] (by decide +kernel) (by repeat (first | exact PF.body | exact PF.round | apply PF.then | apply PF.inBlock | apply PF.jump)) ?_
          refine LtK.put rfl rfl rfl (yv_fieldAddr fo_32_8 rfl) ?_
          refine LtK.nil ?_
          refine wpR_seal [false, false, false, false, false, false, false, false, false, false, false, false, true] 12 ⟨by decide, by kernel_rfl, by kernel_rfl⟩ rfl rfl ?_
          try dsimp only [pickL]
          refine wpS_store rfl rfl rfl CellsOf.slice hS ps8 st19_1 (by kernel_rfl) rfl (fun w hS hB => ?_)
          refine wpS_nil ?_
          refine QH_stepG (hB.sub (fun _ _ h => by simpa using h)) ?_
          refine wpR_batch [false, false, false, false, false, false, false, false, false, false, false, false, false, true] (by decide +kernel) (by repeat (first | exact PF.body | exact PF.round | apply PF.then | apply PF.inBlock | apply PF.jump)) ?_
          obtain ⟨e58, hi60, H⟩ := bind_some H
          obtain ⟨j59, hi60a, hi60b, hi60c⟩ := idx_some hi60
          refine LtK.put rfl rfl rfl (yx_idx el_30 rfl rfl hi60a hi60c (Rd.el (hS.row_rd hs2) he_enI hi60b)) ?_
          refine LtK.nil ?_
          refine wpR_seal [false, false, false, false, false, false, false, false, false, false, false, false, false, false, true] 14 ⟨by decide, by kernel_rfl, by kernel_rfl⟩ rfl rfl ?_
          try dsimp only [pickL]
          refine wpX_storeR2 (a' := x2) (zs := (setI l27 (IntKind.wrap .i64 (x0 - 1)) x2)) he_enI rfl rfl rfl CellsOf.int hS ps2 (Rd.el (hS.row_rd hs2) he_enI hi60b) hi60a hi60b rfl st0_1 (by kernel_rfl) rfl (fun w hS hB => ?_)
          refine wpS_nil ?_
          refine QH_stepG (hB.sub (fun _ _ h => by simp at h)) ?_
          refine wpR_end (by kernel_rfl) ?_
          refine QH_seq_k hK47 ?_
          refine wpC_seq_k (fun K hK61 => ?_)
          refine wpC_region ?_
          refine wpS_put rfl rfl rfl (yv_load_boxA ag_32 rfl (RW.here _) hS hs8 trivial sg0_22) ?_
          refine wpS_store rfl rfl rfl CellsOf.agg hS ps6 st0_22 (by kernel_rfl) rfl (fun w hS hB => ?_)
          refine wpS_nil ?_
          refine QH_seq_k hK61 ?_
          refine wpC_ret ?_
          refine QH_ret rfl (RV.cell rfl (load_boxA ag_32 hS hs6 sg0_22) RV.nil) rfl ?_
          obtain rfl := Option.some.inj H
          have hS := hS.front 2 rfl
          have hS := hS.front 4 rfl
          have hS := hS.front 2 rfl
          have hS := hS.front 4 rfl
          have hS := hS.front 5 rfl
          replace hS := hS.cut 5
          exact ⟨A15, c16, A37, c38, A54, c55, A31, c32, A43, c44, by rw [(setI_len rfl)]; rfl, k17, k39, k56, k33, (k_set k45), hS.eqv (by rw [(setI_len rfl)]; rfl)⟩
    · try dsimp only [pickL]
      refine wpX_make he_enI em_30 rfl (by decide) rfl rfl rfl rfl hS hm28 (fun A37 c38 w k39 hS hB => ?_)
      refine wpS_nil ?_
      refine QH_step hB ?_
      refine wpR_call [false, true] 1 ⟨by decide, by kernel_rfl, by kernel_rfl⟩ rfl rfl ?_
      try dsimp only [pickL]
      refine wpX_make he_enO em_29 rfl (by decide) rfl rfl rfl rfl hS hm24 (fun A43 c44 w k45 hS hB => ?_)
      refine wpS_nil ?_
      refine QH_step hB ?_
      refine wpR_batch [false, false, false, false, false, false, true] (by decide +kernel) (by repeat (first | exact PF.body | exact PF.round | apply PF.then | apply PF.inBlock | apply PF.jump)) ?_
      refine LtK.put rfl rfl rfl (yv_fieldAddr fo_32_7 rfl) ?_
      refine LtK.nil ?_
      refine wpR_seal [false, false, false, false, false, false, false, true] 7 ⟨by decide, by kernel_rfl, by kernel_rfl⟩ rfl rfl ?_
      try dsimp only [pickL]
      refine wpS_store rfl rfl rfl CellsOf.slice hS ps6 st18_1 (by kernel_rfl) rfl (fun w hS hB => ?_)
      refine wpS_nil ?_
      refine QH_stepG (hB.sub (fun _ _ h => by simpa using h)) ?_
      refine wpR_batch [false, false, false, false, false, false, false, false, true] (by decide +kernel) (by repeat (first | exact PF.body | exact PF.round | apply PF.then | apply PF.inBlock | apply PF.jump)) ?_
      refine LtK.put rfl rfl rfl (yv_fieldAddr fo_32_9 rfl) ?_
      refine LtK.nil ?_
      refine wpR_seal [false, false, false, false, false, false, false, false, false, true] 9 ⟨by decide, by kernel_rfl, by kernel_rfl⟩ rfl rfl ?_
      try dsimp only [pickL]
      refine wpS_store rfl rfl rfl CellsOf.slice hS ps6 st20_1 (by kernel_rfl) rfl (fun w hS hB => ?_)
      refine wpS_nil ?_
      refine QH_stepG (hB.sub (fun _ _ h => by simpa using h)) ?_
      refine wpR_batch [false, false, false, false, false, false, false, false, false, false, true] (by decide +kernel) (by repeat (first | exact PF.body | exact PF.round | apply PF.then | apply PF.inBlock | apply PF.jump)) ?_
      refine LtK.put rfl rfl rfl (yv_fieldAddr fo_32_10 rfl) ?_
      refine LtK.nil ?_
      refine wpR_seal [false, false, false, false, false, false, false, false, false, false, false, true] 11 ⟨by decide, by kernel_rfl, by kernel_rfl⟩ rfl rfl ?_
      try dsimp only [pickL]
      refine wpS_store rfl rfl rfl CellsOf.slice hS ps6 st21_1 (by kernel_rfl) rfl (fun w hS hB => ?_)
      refine wpS_nil ?_
      refine QH_stepG (hB.sub (fun _ _ h => by simpa using h)) ?_
      refine wpR_end (by kernel_rfl) ?_
      refine QH_seq_k hK22 ?_
      refine wpC_seq_k (fun K hK47 => ?_)
      refine wpC_draw 15 [12, 14] (fun i b => (i = 12 → b ≠ b19) ∧ (i = 14 → False)) ⟨by kernel_rfl, by kernel_rfl⟩ hS (fun w hS hB => ?_)
      refine wpR_batch [true, true, false, false, true, false, false, false, true] (by decide +kernel) (by repeat (first | exact PF.body | exact PF.round | apply PF.then | apply PF.inBlock | apply PF.jump)) ?_
      refine LtK.put rfl rfl rfl (yv_fieldAddr fo_32_10 rfl) ?_
      refine LtK.put rfl rfl rfl (yv_load_box sc_30 rfl (RW.below _) hS hs6 trivial sg21_1) ?_
      refine LtK.put rfl rfl rfl (yv_load_boxA ag_26 rfl (RW.below _) hS hs5 trivial sg0_8) ?_
      refine LtK.put rfl rfl rfl (yv_move rfl) ?_
      refine LtK.nil ?_
      refine wpR_batchG [false, false, true, true, false, false, false, false, false, false, true] [12] (fun b => b ≠ b19) (by decide +kernel) (by intro j hj b hb; simp only [List.mem_cons, List.not_mem_nil, or_false] at hj; (try rcases hj with rfl | rfl | rfl | rfl | rfl) <;> simp_all) (by repeat (first | exact PF.body | exact PF.round | apply PF.then | apply PF.inBlock | apply PF.jump)) ?_
      refine LtK.put rfl rfl rfl (yv_move rfl) ?_
      refine LtK.put rfl rfl rfl (yx_sub rfl rfl) ?_
      refine LtK.put rfl rfl rfl (yv_move rfl) ?_
      refine LtK.nil ?_
      refine wpR_call [false, false, false, false, false, true] 5 ⟨by decide, by kernel_rfl, by kernel_rfl⟩ rfl rfl ?_
      try dsimp only [pickL]
      obtain ⟨r48, hm49, H⟩ := bind_some H
      refine wpS_call rfl rfl rfl rfl (by kernel_rfl) rfl (c_tuple_Last x3 A0_ c0_ _ (SlI.of_rd s0_.k (hS.rd0 s0_.rd) (hS.blk0 s0_.blk)) hm49) ?_
      rintro e w ⟨rfl, hN⟩; refine ⟨_, rfl, ?_⟩; have hB := hN.pure; have hS := hS.join hN; clear hN
      refine wpS_nil ?_
      refine QH_step hB ?_
      refine wpR_batch [false, false, false, false, false, false, true] (by decide +kernel) (by repeat (first | exact PF.body | exact PF.round | apply PF.then | apply PF.inBlock | apply PF.jump)) ?_
      refine LtK.put rfl rfl rfl (yx_add rfl rfl) ?_
      refine LtK.nil ?_
      refine wpR_call [false, false, false, false, false, false, false, true] 7 ⟨by decide, by kernel_rfl, by kernel_rfl⟩ rfl rfl ?_
      try dsimp only [pickL]
      refine wpS_sliceM (ps := [(0, .tmp 45)]) [.int .i64 (IntKind.wrap .i64 (r48 + 1))] el_30 zc_3 rfl rfl rfl rfl rfl (by kernel_rfl) hS (fun b50 w hS hB => ?_)
      refine wpS_nil ?_
      refine QH_step hB ?_
      refine wpR_call [false, false, false, false, false, false, false, false, false, true] 9 ⟨by decide, by kernel_rfl, by kernel_rfl⟩ rfl rfl ?_
      try dsimp only [pickL]
      obtain ⟨r52, hm53, H⟩ := bind_some H
      refine wpS_call rfl rfl rfl rfl (by kernel_rfl) rfl (c_slices_Repeat___int_int_ ([(IntKind.wrap .i64 (r48 + 1))] : List Int) x1 (some ⟨b50, 0, none⟩) 1 _ (SlI.of_rd ⟨Nat.le_refl 1, by decide⟩ (hS.box_rd hs0) (hS.box_blk hs0)) hm53) ?_
      rintro e w ⟨A54, c55, rfl, k56, hN⟩; refine ⟨_, rfl, ?_⟩; have hB := hN.pure; have hS := hS.join hN; clear hN
      refine wpS_nil ?_
      refine QH_step hB ?_
      refine wpR_batch [false, false, false, false, false, false, false, false, false, false, false, true] (by decide +kernel) (by repeat (first | exact PF.body | exact PF.round | apply PF.then | apply PF.inBlock | apply PF.jump)) ?_
      refine LtK.put rfl rfl rfl (yv_fieldAddr fo_32_8 rfl) ?_
      refine LtK.nil ?_
      refine wpR_seal [false, false, false, false, false, false, false, false, false, false, false, false, true] 12 ⟨by decide, by kernel_rfl, by kernel_rfl⟩ rfl rfl ?_
      try dsimp only [pickL]
      refine wpS_store rfl rfl rfl CellsOf.slice hS ps8 st19_1 (by kernel_rfl) rfl (fun w hS hB => ?_)
      refine wpS_nil ?_
      refine QH_stepG (hB.sub (fun _ _ h => by simpa using h)) ?_
      refine wpR_batch [false, false, false, false, false, false, false, false, false, false, false, false, false, true] (by decide +kernel) (by repeat (first | exact PF.body | exact PF.round | apply PF.then | apply PF.inBlock | apply PF.jump)) ?_
      obtain ⟨e58, hi60, H⟩ := bind_some H
      obtain ⟨j59, hi60a, hi60b, hi60c⟩ := idx_some hi60
      refine LtK.put rfl rfl rfl (yx_idx el_30 rfl rfl hi60a hi60c (Rd.el (hS.row_rd hs3) he_enI hi60b)) ?_
      refine LtK.nil ?_
      refine wpR_seal [false, false, false, false, false, false, false, false, false, false, false, false, false, false, true] 14 ⟨by decide, by kernel_rfl, by kernel_rfl⟩ rfl rfl ?_
      try dsimp only [pickL]
      refine wpX_storeR2 (a' := x2) (zs := (setI l27 (IntKind.wrap .i64 (x0 - 1)) x2)) he_enI rfl rfl rfl CellsOf.int hS ps3 (Rd.el (hS.row_rd hs3) he_enI hi60b) hi60a hi60b rfl st0_1 (by kernel_rfl) rfl (fun w hS hB => ?_)
      refine wpS_nil ?_
      refine QH_stepG (hB.sub (fun _ _ h => by simp at h)) ?_
      refine wpR_end (by kernel_rfl) ?_
      refine QH_seq_k hK47 ?_
      refine wpC_seq_k (fun K hK61 => ?_)
      refine wpC_region ?_
      refine wpS_put rfl rfl rfl (yv_load_boxA ag_32 rfl (RW.here _) hS hs8 trivial sg0_22) ?_
      refine wpS_store rfl rfl rfl CellsOf.agg hS ps6 st0_22 (by kernel_rfl) rfl (fun w hS hB => ?_)
      refine wpS_nil ?_
      refine QH_seq_k hK61 ?_
      refine wpC_ret ?_
      refine QH_ret rfl (RV.cell rfl (load_boxA ag_32 hS hs6 sg0_22) RV.nil) rfl ?_
      obtain rfl := Option.some.inj H
      have hS := hS.front 3 rfl
      have hS := hS.front 4 rfl
      have hS := hS.front 2 rfl
      have hS := hS.front 4 rfl
      have hS := hS.front 5 rfl
      replace hS := hS.cut 5
      exact ⟨A15, c16, A43, c44, A54, c55, A31, c32, A37, c38, by rw [(setI_len rfl)]; rfl, k17, k45, k56, k33, (k_set k39), hS.eqv (by rw [(setI_len rfl)]; rfl)⟩
  · try dsimp only [pickL]
    refine wpX_make he_enI em_30 rfl (by decide) rfl rfl rfl rfl hS hm28 (fun A31 c32 w k33 hS hB => ?_)
    refine wpS_nil ?_
    refine QH_step hB ?_
    refine wpR_two [false, true] [false, false, false, true] 1 3 ⟨by decide, by kernel_rfl, by kernel_rfl, by kernel_rfl⟩ rfl rfl rfl rfl ?_ ?_
    · try dsimp only [pickL]
      refine wpX_make he_enO em_29 rfl (by decide) rfl rfl rfl rfl hS hm24 (fun A37 c38 w k39 hS hB => ?_)
      refine wpS_nil ?_
      refine QH_step hB ?_
      refine wpR_batch [false, false, false, false, false, false, true] (by decide +kernel) (by repeat (first | exact PF.body | exact PF.round | apply PF.then | apply PF.inBlock | apply PF.jump)) ?_
      refine LtK.put rfl rfl rfl (yv_fieldAddr fo_32_7 rfl) ?_
      refine LtK.nil ?_
      refine wpR_many [3, 7] ⟨by decide, by kernel_rfl⟩ rfl (.call [false, false, false, true] 3 rfl rfl rfl ?_ (.put [false, false, false, false, false, false, false, true] 7 rfl rfl rfl ?_ .nil))
      · try dsimp only [pickL]
        refine wpX_make he_enI em_30 rfl (by decide) rfl rfl rfl rfl hS hm26 (fun A43 c44 w k45 hS hB => ?_)
        refine wpS_nil ?_
        refine QH_step hB ?_
        refine wpR_seal [false, false, false, false, false, false, false, true] 7 ⟨by decide, by kernel_rfl, by kernel_rfl⟩ rfl rfl ?_
        try dsimp only [pickL]
        refine wpS_store rfl rfl rfl CellsOf.slice hS ps6 st18_1 (by kernel_rfl) rfl (fun w hS hB => ?_)
        refine wpS_nil ?_
        refine QH_stepG (hB.sub (fun _ _ h => by simpa using h)) ?_
        refine wpR_batch [false, false, false, false, false, false, false, false, true] (by decide +kernel) (by repeat (first | exact PF.body | exact PF.round | apply PF.then | apply PF.inBlock | apply PF.jump)) ?_
        refine LtK.put rfl rfl rfl (yv_fieldAddr fo_32_9 rfl) ?_
        refine LtK.nil ?_
        refine wpR_seal [false, false, false, false, false, false, false, false, false, true] 9 ⟨by decide, by kernel_rfl, by kernel_rfl⟩ rfl rfl ?_
        try dsimp only [pickL]
        refine wpS_store rfl rfl rfl CellsOf.slice hS ps6 st20_1 (by kernel_rfl) rfl (fun w hS hB => ?_)
        refine wpS_nil ?_
        refine QH_stepG (hB.sub (fun _ _ h => by simpa using h)) ?_
        refine wpR_batch [false, false, false, false, false, false, false, false, false, false, true] (by decide +kernel) (by repeat (first | exact PF.body | exact PF.round | apply PF.then | apply PF.inBlock | apply PF.jump)) ?_
        refine LtK.put rfl rfl rfl (yv_fieldAddr fo_32_10 rfl) ?_
        refine LtK.nil ?_
        refine wpR_seal [false, false, false, false, false, false, false, false, false, false, false, true] 11 ⟨by decide, by kernel_rfl, by kernel_rfl⟩ rfl rfl ?_
        try dsimp only [pickL]
        refine wpS_store rfl rfl rfl CellsOf.slice hS ps6 st21_1 (by kernel_rfl) rfl (fun w hS hB => ?_)
        refine wpS_nil ?_
        refine QH_stepG (hB.sub (fun _ _ h => by simpa using h)) ?_
        refine wpR_end (by kernel_rfl) ?_
        refine QH_seq_k hK22 ?_
        refine wpC_seq_k (fun K hK47 => ?_)
        refine wpC_draw 15 [12, 14] (fun i b => (i = 12 → b ≠ b19) ∧ (i = 14 → False)) ⟨by kernel_rfl, by kernel_rfl⟩ hS (fun w hS hB => ?_)
        refine wpR_batch [true, true, false, false, true, false, false, false, true] (by decide +kernel) (by repeat (first | exact PF.body | exact PF.round | apply PF.then | apply PF.inBlock | apply PF.jump)) ?_
        refine LtK.put rfl rfl rfl (yv_fieldAddr fo_32_10 rfl) ?_
        refine LtK.put rfl rfl rfl (yv_load_box sc_30 rfl (RW.below _) hS hs6 trivial sg21_1) ?_
        refine LtK.put rfl rfl rfl (yv_load_boxA ag_26 rfl (RW.below _) hS hs5 trivial sg0_8) ?_
        refine LtK.put rfl rfl rfl (yv_move rfl) ?_
        refine LtK.nil ?_
        refine wpR_batchG [false, false, true, true, false, false, false, false, false, false, true] [12] (fun b => b ≠ b19) (by decide +kernel) (by intro j hj b hb; simp only [List.mem_cons, List.not_mem_nil, or_false] at hj; (try rcases hj with rfl | rfl | rfl | rfl | rfl) <;> simp_all) (by repeat (first | exact PF.body | exact PF.round | apply PF.then | apply PF.inBlock | apply PF.jump)) ?_
        refine LtK.put rfl rfl rfl (yv_move rfl) ?_
        refine LtK.put rfl rfl rfl (yx_sub rfl rfl) ?_
        refine LtK.put rfl rfl rfl (yv_move rfl) ?_
        refine LtK.nil ?_
        refine wpR_call [false, false, false, false, false, true] 5 ⟨by decide, by kernel_rfl, by kernel_rfl⟩ rfl rfl ?_
        try dsimp only [pickL]
        obtain ⟨r48, hm49, H⟩ := bind_some H
        refine wpS_call rfl rfl rfl rfl (by kernel_rfl) rfl (c_tuple_Last x3 A0_ c0_ _ (SlI.of_rd s0_.k (hS.rd0 s0_.rd) (hS.blk0 s0_.blk)) hm49) ?_
        rintro e w ⟨rfl, hN⟩; refine ⟨_, rfl, ?_⟩; have hB := hN.pure; have hS := hS.join hN; clear hN
        refine wpS_nil ?_
        refine QH_step hB ?_
        refine wpR_batch [false, false, false, false, false, false, true] (by decide +kernel) (by repeat (first | exact PF.body | exact PF.round | apply PF.then | apply PF.inBlock | apply PF.jump)) ?_
        refine LtK.put rfl rfl rfl (yx_add rfl rfl) ?_
        refine LtK.nil ?_
        refine wpR_call [false, false, false, false, false, false, false, true] 7 ⟨by decide, by kernel_rfl, by kernel_rfl⟩ rfl rfl ?_
        try dsimp only [pickL]
        refine wpS_sliceM (ps := [(0, .tmp 45)]) [.int .i64 (IntKind.wrap .i64 (r48 + 1))] el_30 zc_3 rfl rfl rfl rfl rfl (by kernel_rfl) hS (fun b50 w hS hB => ?_)
        refine wpS_nil ?_
        refine QH_step hB ?_
        refine wpR_call [false, false, false, false, false, false, false, false, false, true] 9 ⟨by decide, by kernel_rfl, by kernel_rfl⟩ rfl rfl ?_
        try dsimp only [pickL]
        obtain ⟨r52, hm53, H⟩ := bind_some H
        refine wpS_call rfl rfl rfl rfl (by kernel_rfl) rfl (c_slices_Repeat___int_int_ ([(IntKind.wrap .i64 (r48 + 1))] : List Int) x1 (some ⟨b50, 0, none⟩) 1 _ (SlI.of_rd ⟨Nat.le_refl 1, by decide⟩ (hS.box_rd hs0) (hS.box_blk hs0)) hm53) ?_
        rintro e w ⟨A54, c55, rfl, k56, hN⟩; refine ⟨_, rfl, ?_⟩; have hB := hN.pure; have hS := hS.join hN; clear hN
        refine wpS_nil ?_
        refine QH_step hB ?_
        refine wpR_batch [false, false, false, false, false, false, false, false, false, false, false, true] (by decide +kernel) (by repeat (first | exact PF.body | exact PF.round | apply PF.then | apply PF.inBlock | apply PF.jump)) ?_
        refine LtK.put rfl rfl rfl (yv_fieldAddr fo_32_8 rfl) ?_
        refine LtK.nil ?_
        refine wpR_seal [false, false, false, false, false, false, false, false, false, false, false, false, true] 12 ⟨by decide, by kernel_rfl, by kernel_rfl⟩ rfl rfl ?_
        try dsimp only [pickL]
        refine wpS_store rfl rfl rfl CellsOf.slice hS ps8 st19_1 (by kernel_rfl) rfl (fun w hS hB => ?_)
        refine wpS_nil ?_
        refine QH_stepG (hB.sub (fun _ _ h => by simpa using h)) ?_
        refine wpR_batch [false, false, false, false, false, false, false, false, false, false, false, false, false, true] (by decide +kernel) (by repeat (first | exact PF.body | exact PF.round | apply PF.then | apply PF.inBlock | apply PF.jump)) ?_
        obtain ⟨e58, hi60, H⟩ := bind_some H
        obtain ⟨j59, hi60a, hi60b, hi60c⟩ := idx_some hi60
        refine LtK.put rfl rfl rfl (yx_idx el_30 rfl rfl hi60a hi60c (Rd.el (hS.row_rd hs4) he_enI hi60b)) ?_
        refine LtK.nil ?_
        refine wpR_seal [false, false, false, false, false, false, false, false, false, false, false, false, false, false, true] 14 ⟨by decide, by kernel_rfl, by kernel_rfl⟩ rfl rfl ?_
        try dsimp only [pickL]
        refine wpX_storeR2 (a' := x2) (zs := (setI l27 (IntKind.wrap .i64 (x0 - 1)) x2)) he_enI rfl rfl rfl CellsOf.int hS ps4 (Rd.el (hS.row_rd hs4) he_enI hi60b) hi60a hi60b rfl st0_1 (by kernel_rfl) rfl (fun w hS hB => ?_)
        refine wpS_nil ?_
        refine QH_stepG (hB.sub (fun _ _ h => by simp at h)) ?_
        refine wpR_end (by kernel_rfl) ?_
        refine QH_seq_k hK47 ?_
        refine wpC_seq_k (fun K hK61 => ?_)
        refine wpC_region ?_
        refine wpS_put rfl rfl rfl (yv_load_boxA ag_32 rfl (RW.here _) hS hs8 trivial sg0_22) ?_
        refine wpS_store rfl rfl rfl CellsOf.agg hS ps6 st0_22 (by kernel_rfl) rfl (fun w hS hB => ?_)
        refine wpS_nil ?_
        refine QH_seq_k hK61 ?_
        refine wpC_ret ?_
        refine QH_ret rfl (RV.cell rfl (load_boxA ag_32 hS hs6 sg0_22) RV.nil) rfl ?_
        obtain rfl := Option.some.inj H
        have hS := hS.front 4 rfl
        have hS := hS.front 3 rfl
        have hS := hS.front 2 rfl
        have hS := hS.front 4 rfl
        have hS := hS.front 5 rfl
        replace hS := hS.cut 5
        exact ⟨A15, c16, A37, c38, A54, c55, A43, c44, A31, c32, by rw [(setI_len rfl)]; rfl, k17, k39, k56, k45, (k_set k33), hS.eqv (by rw [(setI_len rfl)]; rfl)⟩
      · try dsimp only [pickL]
        refine wpS_store rfl rfl rfl CellsOf.slice hS ps5 st18_1 (by kernel_rfl) rfl (fun w hS hB => ?_)
        refine wpS_nil ?_
        refine QH_stepG (hB.sub (fun _ _ h => by simpa using h)) ?_
        refine wpR_call [false, false, false, true] 3 ⟨by decide, by kernel_rfl, by kernel_rfl⟩ rfl rfl ?_
        try dsimp only [pickL]
        refine wpX_make he_enI em_30 rfl (by decide) rfl rfl rfl rfl hS hm26 (fun A43 c44 w k45 hS hB => ?_)
        refine wpS_nil ?_
        refine QH_step hB ?_
        refine wpR_batch [false, false, false, false, false, false, false, false, true] (by decide +kernel) (by repeat (first | exact PF.body | exact PF.round | apply PF.then | apply PF.inBlock | apply PF.jump)) ?_
        refine LtK.put rfl rfl rfl (yv_fieldAddr fo_32_9 rfl) ?_
        refine LtK.nil ?_
        refine wpR_seal [false, false, false, false, false, false, false, false, false, true] 9 ⟨by decide, by kernel_rfl, by kernel_rfl⟩ rfl rfl ?_
        try dsimp only [pickL]
        refine wpS_store rfl rfl rfl CellsOf.slice hS ps6 st20_1 (by kernel_rfl) rfl (fun w hS hB => ?_)
        refine wpS_nil ?_
        refine QH_stepG (hB.sub (fun _ _ h => by simpa using h)) ?_
        refine wpR_batch [false, false, false, false, false, false, false, false, false, false, true] (by decide +kernel) (by repeat (first | exact PF.body | exact PF.round | apply PF.then | apply PF.inBlock | apply PF.jump)) ?_
        refine LtK.put rfl rfl rfl (yv_fieldAddr fo_32_10 rfl) ?_
        refine LtK.nil ?_
        refine wpR_seal [false, false, false, false, false, false, false, false, false, false, false, true] 11 ⟨by decide, by kernel_rfl, by kernel_rfl⟩ rfl rfl ?_
        try dsimp only [pickL]
        refine wpS_store rfl rfl rfl CellsOf.slice hS ps6 st21_1 (by kernel_rfl) rfl (fun w hS hB => ?_)
        refine wpS_nil ?_
        refine QH_stepG (hB.sub (fun _ _ h => by simpa using h)) ?_
        refine wpR_end (by kernel_rfl) ?_
        refine QH_seq_k hK22 ?_
        refine wpC_seq_k (fun K hK47 => ?_)
        refine wpC_draw 15 [12, 14] (fun i b => (i = 12 → b ≠ b19) ∧ (i = 14 → False)) ⟨by kernel_rfl, by kernel_rfl⟩ hS (fun w hS hB => ?_)
        refine wpR_batch [true, true, false, false, true, false, false, false, true] (by decide +kernel) (by repeat (first | exact PF.body | exact PF.round | apply PF.then | apply PF.inBlock | apply PF.jump)) ?_
        refine LtK.put rfl rfl rfl (yv_fieldAddr fo_32_10 rfl) ?_
        refine LtK.put rfl rfl rfl (yv_load_box sc_30 rfl (RW.below _) hS hs6 trivial sg21_1) ?_
        refine LtK.put rfl rfl rfl (yv_load_boxA ag_26 rfl (RW.below _) hS hs5 trivial sg0_8) ?_
        refine LtK.put rfl rfl rfl (yv_move rfl) ?_
        refine LtK.nil ?_
        refine wpR_batchG [false, false, true, true, false, false, false, false, false, false, true] [12] (fun b => b ≠ b19) (by decide +kernel) (by intro j hj b hb; simp only [List.mem_cons, List.not_mem_nil, or_false] at hj; (try rcases hj with rfl | rfl | rfl | rfl | rfl) <;> simp_all) (by repeat (first | exact PF.body | exact PF.round | apply PF.then | apply PF.inBlock | apply PF.jump)) ?_
        refine LtK.put rfl rfl rfl (yv_move rfl) ?_
        refine LtK.put rfl rfl rfl (yx_sub rfl rfl) ?_
        refine LtK.put rfl rfl rfl (yv_move rfl) ?_
        refine LtK.nil ?_
        refine wpR_call [false, false, false, false, false, true] 5 ⟨by decide, by kernel_rfl, by kernel_rfl⟩ rfl rfl ?_
        try dsimp only [pickL]
        obtain ⟨r48, hm49, H⟩ := bind_some H
        refine wpS_call rfl rfl rfl rfl (by kernel_rfl) rfl (c_tuple_Last x3 A0_ c0_ _ (SlI.of_rd s0_.k (hS.rd0 s0_.rd) (hS.blk0 s0_.blk)) hm49) ?_
        rintro e w ⟨rfl, hN⟩; refine ⟨_, rfl, ?_⟩; have hB := hN.pure; have hS := hS.join hN; clear hN
        refine wpS_nil ?_
        refine QH_step hB ?_
        refine wpR_batch [false, false, false, false, false, false, true] (by decide +kernel) (by repeat (first | exact PF.body | exact PF.round | apply PF.then | apply PF.inBlock | apply PF.jump)) ?_
        refine LtK.put rfl rfl rfl (yx_add rfl rfl) ?_
        refine LtK.nil ?_
        refine wpR_call [false, false, false, false, false, false, false, true] 7 ⟨by decide, by kernel_rfl, by kernel_rfl⟩ rfl rfl ?_
        try dsimp only [pickL]
        refine wpS_sliceM (ps := [(0, .tmp 45)]) [.int .i64 (IntKind.wrap .i64 (r48 + 1))] el_30 zc_3 rfl rfl rfl rfl rfl (by kernel_rfl) hS (fun b50 w hS hB => ?_)
        refine wpS_nil ?_
        refine QH_step hB ?_
        refine wpR_call [false, false, false, false, false, false, false, false, false, true] 9 ⟨by decide, by kernel_rfl, by kernel_rfl⟩ rfl rfl ?_
        try dsimp only [pickL]
        obtain ⟨r52, hm53, H⟩ := bind_some H
        refine wpS_call rfl rfl rfl rfl (by kernel_rfl) rfl (c_slices_Repeat___int_int_ ([(IntKind.wrap .i64 (r48 + 1))] : List Int) x1 (some ⟨b50, 0, none⟩) 1 _ (SlI.of_rd ⟨Nat.le_refl 1, by decide⟩ (hS.box_rd hs0) (hS.box_blk hs0)) hm53) ?_
        rintro e w ⟨A54, c55, rfl, k56, hN⟩; refine ⟨_, rfl, ?_⟩; have hB := hN.pure; have hS := hS.join hN; clear hN
        refine wpS_nil ?_
        refine QH_step hB ?_
        refine wpR_batch [false, false, false, false, false, false, false, false, false, false, false, true] (by decide +kernel) (by repeat (first | exact PF.body | exact PF.round | apply PF.then | apply PF.inBlock | apply PF.jump)) ?_
        refine LtK.put rfl rfl rfl (yv_fieldAddr fo_32_8 rfl) ?_
        refine LtK.nil ?_
        refine wpR_seal [false, false, false, false, false, false, false, false, false, false, false, false, true] 12 ⟨by decide, by kernel_rfl, by kernel_rfl⟩ rfl rfl ?_
        try dsimp only [pickL]
        refine wpS_store rfl rfl rfl CellsOf.slice hS ps8 st19_1 (by kernel_rfl) rfl (fun w hS hB => ?_)
        refine wpS_nil ?_
        refine QH_stepG (hB.sub (fun _ _ h => by simpa using h)) ?_
        refine wpR_batch [false, false, false, false, false, false, false, false, false, false, false, false, false, true] (by decide +kernel) (by repeat (first | exact PF.body | exact PF.round | apply PF.then | apply PF.inBlock | apply PF.jump)) ?_
        obtain ⟨e58, hi60, H⟩ := bind_some H
        obtain ⟨j59, hi60a, hi60b, hi60c⟩ := idx_some hi60
        refine LtK.put rfl rfl rfl (yx_idx el_30 rfl rfl hi60a hi60c (Rd.el (hS.row_rd hs4) he_enI hi60b)) ?_
        refine LtK.nil ?_
        refine wpR_seal [false, false, false, false, false, false, false, false, false, false, false, false, false, false, true] 14 ⟨by decide, by kernel_rfl, by kernel_rfl⟩ rfl rfl ?_
        try dsimp only [pickL]
        refine wpX_storeR2 (a' := x2) (zs := (setI l27 (IntKind.wrap .i64 (x0 - 1)) x2)) he_enI rfl rfl rfl CellsOf.int hS ps4 (Rd.el (hS.row_rd hs4) he_enI hi60b) hi60a hi60b rfl st0_1 (by kernel_rfl) rfl (fun w hS hB => ?_)
        refine wpS_nil ?_
        refine QH_stepG (hB.sub (fun _ _ h => by simp at h)) ?_
        refine wpR_end (by kernel_rfl) ?_
        refine QH_seq_k hK47 ?_
        refine wpC_seq_k (fun K hK61 => ?_)
        refine wpC_region ?_
        refine wpS_put rfl rfl rfl (yv_load_boxA ag_32 rfl (RW.here _) hS hs8 trivial sg0_22) ?_
        refine wpS_store rfl rfl rfl CellsOf.agg hS ps6 st0_22 (by kernel_rfl) rfl (fun w hS hB => ?_)
        refine wpS_nil ?_
        refine QH_seq_k hK61 ?_
        refine wpC_ret ?_
        refine QH_ret rfl (RV.cell rfl (load_boxA ag_32 hS hs6 sg0_22) RV.nil) rfl ?_
        obtain rfl := Option.some.inj H
        have hS := hS.front 4 rfl
        have hS := hS.front 3 rfl
        have hS := hS.front 2 rfl
        have hS := hS.front 4 rfl
        have hS := hS.front 5 rfl
        replace hS := hS.cut 5
        exact ⟨A15, c16, A37, c38, A54, c55, A43, c44, A31, c32, by rw [(setI_len rfl)]; rfl, k17, k39, k56, k45, (k_set k33), hS.eqv (by rw [(setI_len rfl)]; rfl)⟩
    · try dsimp only [pickL]
      refine wpX_make he_enI em_30 rfl (by decide) rfl rfl rfl rfl hS hm26 (fun A37 c38 w k39 hS hB => ?_)
      refine wpS_nil ?_
      refine QH_step hB ?_
      refine wpR_call [false, true] 1 ⟨by decide, by kernel_rfl, by kernel_rfl⟩ rfl rfl ?_
      try dsimp only [pickL]
      refine wpX_make he_enO em_29 rfl (by decide) rfl rfl rfl rfl hS hm24 (fun A43 c44 w k45 hS hB => ?_)
      refine wpS_nil ?_
      refine QH_step hB ?_
      refine wpR_batch [false, false, false, false, false, false, true] (by decide +kernel) (by repeat (first | exact PF.body | exact PF.round | apply PF.then | apply PF.inBlock | apply PF.jump)) ?_
      refine LtK.put rfl rfl rfl (yv_fieldAddr fo_32_7 rfl) ?_
      refine LtK.nil ?_
      refine wpR_seal [false, false, false, false, false, false, false, true] 7 ⟨by decide, by kernel_rfl, by kernel_rfl⟩ rfl rfl ?_
      try dsimp only [pickL]
      refine wpS_store rfl rfl rfl CellsOf.slice hS ps6 st18_1 (by kernel_rfl) rfl (fun w hS hB => ?_)
      refine wpS_nil ?_
      refine QH_stepG (hB.sub (fun _ _ h => by simpa using h)) ?_
      refine wpR_batch [false, false, false, false, false, false, false, false, true] (by decide +kernel) (by repeat (first | exact PF.body | exact PF.round | apply PF.then | apply PF.inBlock | apply PF.jump)) ?_
      refine LtK.put rfl rfl rfl (yv_fieldAddr fo_32_9 rfl) ?_
      refine LtK.nil ?_
      refine wpR_seal [false, false, false, false, false, false, false, false, false, true] 9 ⟨by decide, by kernel_rfl, by kernel_rfl⟩ rfl rfl ?_
      try dsimp only [pickL]
      refine wpS_store rfl rfl rfl CellsOf.slice hS ps6 st20_1 (by kernel_rfl) rfl (fun w hS hB => ?_)
      refine wpS_nil ?_
      refine QH_stepG (hB.sub (fun _ _ h => by simpa using h)) ?_
      refine wpR_batch [false, false, false, false, false, false, false, false, false, false, true] (by decide +kernel) (by repeat (first | exact PF.body | exact PF.round | apply PF.then | apply PF.inBlock | apply PF.jump)) ?_
      refine LtK.put rfl rfl rfl (yv_fieldAddr fo_32_10 rfl) ?_
      refine LtK.nil ?_
      refine wpR_seal [false, false, false, false, false, false, false, false, false, false, false, true] 11 ⟨by decide, by kernel_rfl, by kernel_rfl⟩ rfl rfl ?_
      try dsimp only [pickL]
      refine wpS_store rfl rfl rfl CellsOf.slice hS ps6 st21_1 (by kernel_rfl) rfl (fun w hS hB => ?_)
      refine wpS_nil ?_
      refine QH_stepG (hB.sub (fun _ _ h => by simpa using h)) ?_
      refine wpR_end (by kernel_rfl) ?_
      refine QH_seq_k hK22 ?_
      refine wpC_seq_k (fun K hK47 => ?_)
      refine wpC_draw 15 [12, 14] (fun i b => (i = 12 → b ≠ b19) ∧ (i = 14 → False)) ⟨by kernel_rfl, by kernel_rfl⟩ hS (fun w hS hB => ?_)
      refine wpR_batch [true, true, false, false, true, false, false, false, true] (by decide +kernel) (by repeat (first | exact PF.body | exact PF.round | apply PF.then | apply PF.inBlock | apply PF.jump)) ?_
      refine LtK.put rfl rfl rfl (yv_fieldAddr fo_32_10 rfl) ?_
      refine LtK.put rfl rfl rfl (yv_load_box sc_30 rfl (RW.below _) hS hs6 trivial sg21_1) ?_
      refine LtK.put rfl rfl rfl (yv_load_boxA ag_26 rfl (RW.below _) hS hs5 trivial sg0_8) ?_
      refine LtK.put rfl rfl rfl (yv_move rfl) ?_
      refine LtK.nil ?_
      refine wpR_batchG [false, false, true, true, false, false, false, false, false, false, true] [12] (fun b => b ≠ b19) (by decide +kernel) (by intro j hj b hb; simp only [List.mem_cons, List.not_mem_nil, or_false] at hj; (try rcases hj with rfl | rfl | rfl | rfl | rfl) <;> simp_all) (by repeat (first | exact PF.body | exact PF.round | apply PF.then | apply PF.inBlock | apply PF.jump)) ?_
      refine LtK.put rfl rfl rfl (yv_move rfl) ?_
      refine LtK.put rfl rfl rfl (yx_sub rfl rfl) ?_
      refine LtK.put rfl rfl rfl (yv_move rfl) ?_
      refine LtK.nil ?_
      refine wpR_call [false, false, false, false, false, true] 5 ⟨by decide, by kernel_rfl, by kernel_rfl⟩ rfl rfl ?_
      try dsimp only [pickL]
      obtain ⟨r48, hm49, H⟩ := bind_some H
      refine wpS_call rfl rfl rfl rfl (by kernel_rfl) rfl (c_tuple_Last x3 A0_ c0_ _ (SlI.of_rd s0_.k (hS.rd0 s0_.rd) (hS.blk0 s0_.blk)) hm49) ?_
      rintro e w ⟨rfl, hN⟩; refine ⟨_, rfl, ?_⟩; have hB := hN.pure; have hS := hS.join hN; clear hN
      refine wpS_nil ?_
      refine QH_step hB ?_
      refine wpR_batch [false, false, false, false, false, false, true] (by decide +kernel) (by repeat (first | exact PF.body | exact PF.round | apply PF.then | apply PF.inBlock | apply PF.jump)) ?_
      refine LtK.put rfl rfl rfl (yx_add rfl rfl) ?_
      refine LtK.nil ?_
      refine wpR_call [false, false, false, false, false, false, false, true] 7 ⟨by decide, by kernel_rfl, by kernel_rfl⟩ rfl rfl ?_
      try dsimp only [pickL]
      refine wpS_sliceM (ps := [(0, .tmp 45)]) [.int .i64 (IntKind.wrap .i64 (r48 + 1))] el_30 zc_3 rfl rfl rfl rfl rfl (by kernel_rfl) hS (fun b50 w hS hB => ?_)
      refine wpS_nil ?_
      refine QH_step hB ?_
      refine wpR_call [false, false, false, false, false, false, false, false, false, true] 9 ⟨by decide, by kernel_rfl, by kernel_rfl⟩ rfl rfl ?_
      try dsimp only [pickL]
      obtain ⟨r52, hm53, H⟩ := bind_some H
      refine wpS_call rfl rfl rfl rfl (by kernel_rfl) rfl (c_slices_Repeat___int_int_ ([(IntKind.wrap .i64 (r48 + 1))] : List Int) x1 (some ⟨b50, 0, none⟩) 1 _ (SlI.of_rd ⟨Nat.le_refl 1, by decide⟩ (hS.box_rd hs0) (hS.box_blk hs0)) hm53) ?_
      rintro e w ⟨A54, c55, rfl, k56, hN⟩; refine ⟨_, rfl, ?_⟩; have hB := hN.pure; have hS := hS.join hN; clear hN
      refine wpS_nil ?_
      refine QH_step hB ?_
      refine wpR_batch [false, false, false, false, false, false, false, false, false, false, false, true] (by decide +kernel) (by repeat (first | exact PF.body | exact PF.round | apply PF.then | apply PF.inBlock | apply PF.jump)) ?_
      refine LtK.put rfl rfl rfl (yv_fieldAddr fo_32_8 rfl) ?_
      refine LtK.nil ?_
      refine wpR_seal [false, false, false, false, false, false, false, false, false, false, false, false, true] 12 ⟨by decide, by kernel_rfl, by kernel_rfl⟩ rfl rfl ?_
      try dsimp only [pickL]
      refine wpS_store rfl rfl rfl CellsOf.slice hS ps8 st19_1 (by kernel_rfl) rfl (fun w hS hB => ?_)
      refine wpS_nil ?_
      refine QH_stepG (hB.sub (fun _ _ h => by simpa using h)) ?_
      refine wpR_batch [false, false, false, false, false, false, false, false, false, false, false, false, false, true] (by decide +kernel) (by repeat (first | exact PF.body | exact PF.round | apply PF.then | apply PF.inBlock | apply PF.jump)) ?_
      obtain ⟨e58, hi60, H⟩ := bind_some H
      obtain ⟨j59, hi60a, hi60b, hi60c⟩ := idx_some hi60
      refine LtK.put rfl rfl rfl (yx_idx el_30 rfl rfl hi60a hi60c (Rd.el (hS.row_rd hs4) he_enI hi60b)) ?_
      refine LtK.nil ?_
      refine wpR_seal [false, false, false, false, false, false, false, false, false, false, false, false, false, false, true] 14 ⟨by decide, by kernel_rfl, by kernel_rfl⟩ rfl rfl ?_
      try dsimp only [pickL]
      refine wpX_storeR2 (a' := x2) (zs := (setI l27 (IntKind.wrap .i64 (x0 - 1)) x2)) he_enI rfl rfl rfl CellsOf.int hS ps4 (Rd.el (hS.row_rd hs4) he_enI hi60b) hi60a hi60b rfl st0_1 (by kernel_rfl) rfl (fun w hS hB => ?_)
      refine wpS_nil ?_
      refine QH_stepG (hB.sub (fun _ _ h => by simp at h)) ?_
      refine wpR_end (by kernel_rfl) ?_
      refine QH_seq_k hK47 ?_
      refine wpC_seq_k (fun K hK61 => ?_)
      refine wpC_region ?_
      refine wpS_put rfl rfl rfl (yv_load_boxA ag_32 rfl (RW.here _) hS hs8 trivial sg0_22) ?_
      refine wpS_store rfl rfl rfl CellsOf.agg hS ps6 st0_22 (by kernel_rfl) rfl (fun w hS hB => ?_)
      refine wpS_nil ?_
      refine QH_seq_k hK61 ?_
      refine wpC_ret ?_
      refine QH_ret rfl (RV.cell rfl (load_boxA ag_32 hS hs6 sg0_22) RV.nil) rfl ?_
      obtain rfl := Option.some.inj H
      have hS := hS.front 4 rfl
      have hS := hS.front 4 rfl
      have hS := hS.front 2 rfl
      have hS := hS.front 4 rfl
      have hS := hS.front 5 rfl
      replace hS := hS.cut 5
      exact ⟨A15, c16, A43, c44, A54, c55, A37, c38, A31, c32, by rw [(setI_len rfl)]; rfl, k17, k45, k56, k39, (k_set k33), hS.eqv (by rw [(setI_len rfl)]; rfl)⟩
theorem c_msg_others (x0 : Co) (A0_ : Option Addr) (c0_ : Nat) (A1_ : Option Addr) (c1_ : Nat) (A2_ : Option Addr) (c2_ : Nat) (A3_ : Option Addr) (c3_ : Nat) (A4_ : Option Addr) (c4_ : Nat) (w0 : World) (s0_ : SlI w0 enE A0_ c0_ x0.tuple.log) (s1_ : SlI w0 enO A1_ c1_ x0.votes) (s2_ : SlI w0 enI A2_ c2_ x0.next) (s3_ : SlI w0 enI A3_ c3_ x0.mtch) (s4_ : SlI w0 enI A4_ c4_ x0.caps) : Calls Try.prog 56 #[.agg #[.int .i64 x0.id, .int .i64 x0.n, .int .u8 x0.role, .int .i64 x0.binary, .int .i64 x0.tuple.snap.index, .int .i64 x0.tuple.snap.term, .int .i64 x0.tuple.snap.sum, .int .i64 x0.tuple.snap.level, .bool x0.tuple.snap.final, .slice A0_ x0.tuple.log.length c0_, .int .i64 x0.tuple.term, .int .i64 x0.tuple.vote, .int .i64 x0.commit, .int .i64 x0.applied.index, .int .i64 x0.applied.term, .int .i64 x0.applied.sum, .int .i64 x0.applied.level, .bool x0.applied.final, .slice A1_ x0.votes.length c1_, .slice A2_ x0.next.length c2_, .slice A3_ x0.mtch.length c3_, .slice A4_ x0.caps.length c4_]] w0 fun e w' => ∃ (b0_ : Nat), e = .returned (.func (.func 88) #[] #[.pointer (some ⟨b0_, 0, none⟩)]) ∧ St0 All w0 w' [.box b0_ [.int .i64 x0.id, .int .i64 x0.n, .int .u8 x0.role, .int .i64 x0.binary, .int .i64 x0.tuple.snap.index, .int .i64 x0.tuple.snap.term, .int .i64 x0.tuple.snap.sum, .int .i64 x0.tuple.snap.level, .bool x0.tuple.snap.final, .slice A0_ x0.tuple.log.length c0_, .int .i64 x0.tuple.term, .int .i64 x0.tuple.vote, .int .i64 x0.commit, .int .i64 x0.applied.index, .int .i64 x0.applied.term, .int .i64 x0.applied.sum, .int .i64 x0.applied.level, .bool x0.applied.final, .slice A1_ x0.votes.length c1_, .slice A2_ x0.next.length c2_, .slice A3_ x0.mtch.length c3_, .slice A4_ x0.caps.length c4_] 32] := by
  refine gw_enter1 Try.func56 rfl Try.ntmps56 rfl ?_
  have hS := St0.start All w0
  refine wpC_seq_k (fun K hK1 => ?_)
  refine wpC_region ?_
  refine wpS_box rfl rfl rfl CellsOf.agg hS (fun b2 w hS hB => ?_)
  refine wpS_quick 1 rfl ?_
  refine wpS_nil ?_
  refine QH_seq_k hK1 ?_
  refine wpC_seq_k (fun K hK4 => ?_)
  refine wpC_region ?_
  refine wpS_put rfl rfl rfl (yv_makeFunc rfl rfl) ?_
  refine wpS_quick 1 rfl ?_
  refine wpS_nil ?_
  refine QH_seq_k hK4 ?_
  refine wpC_ret ?_
  refine QH_ret rfl (RV.tmp rfl RV.nil) rfl ?_
  exact ⟨b2, rfl, hS.sub (List.Sublist.cons_cons _ List.Sublist.slnil)⟩
theorem c_msg_Others (x0 : Co) (x1 : Ms) (A0_ : Option Addr) (c0_ : Nat) (A1_ : Option Addr) (c1_ : Nat) (A2_ : Option Addr) (c2_ : Nat) (A3_ : Option Addr) (c3_ : Nat) (A4_ : Option Addr) (c4_ : Nat) (A5_ : Option Addr) (c5_ : Nat) (w0 : World) (s0_ : SlI w0 enE A0_ c0_ x0.tuple.log) (s1_ : SlI w0 enO A1_ c1_ x0.votes) (s2_ : SlI w0 enI A2_ c2_ x0.next) (s3_ : SlI w0 enI A3_ c3_ x0.mtch) (s4_ : SlI w0 enI A4_ c4_ x0.caps) (s5_ : SlI w0 enE A5_ c5_ x1.entries) {r : List Ms} (H : m_msg_Others x0 x1 = some r) : Calls Try.prog 18 #[.agg #[.int .i64 x0.id, .int .i64 x0.n, .int .u8 x0.role, .int .i64 x0.binary, .int .i64 x0.tuple.snap.index, .int .i64 x0.tuple.snap.term, .int .i64 x0.tuple.snap.sum, .int .i64 x0.tuple.snap.level, .bool x0.tuple.snap.final, .slice A0_ x0.tuple.log.length c0_, .int .i64 x0.tuple.term, .int .i64 x0.tuple.vote, .int .i64 x0.commit, .int .i64 x0.applied.index, .int .i64 x0.applied.term, .int .i64 x0.applied.sum, .int .i64 x0.applied.level, .bool x0.applied.final, .slice A1_ x0.votes.length c1_, .slice A2_ x0.next.length c2_, .slice A3_ x0.mtch.length c3_, .slice A4_ x0.caps.length c4_], .agg #[.int .u8 x1.kind, .int .i64 x1.frm, .int .i64 x1.dst, .int .i64 x1.term, .int .i64 x1.cap, .int .i64 x1.last, .int .i64 x1.lastTerm, .int .i64 x1.commit, .bool x1.okk, .slice A5_ x1.entries.length c5_, .int .i64 x1.snap.index, .int .i64 x1.snap.term, .int .i64 x1.snap.sum, .int .i64 x1.snap.level, .bool x1.snap.final]] w0 fun e w' => ∃ (A0 : Option Addr) (c0 : Nat) (q0 : List Mq), e = .returned (.slice A0 r.length c0) ∧ (r.length ≤ c0 ∧ c0 ≤ maxLen) ∧ q0.map Mq.m = r ∧ (∀ y ∈ q0, okQ y) ∧ St0 All w0 w' [.rd A0 (encs enQ q0), .rds (q0.map subQ)] := by
  unfold m_msg_Others at H
  refine gw_enter2 Try.func18 rfl Try.ntmps18 rfl ?_
  have hS := St0.start All w0
  refine wpC_seq_k (fun K hK1 => ?_)
  refine wpC_region ?_
  refine wpS_box rfl rfl rfl CellsOf.agg hS (fun b2 w hS hB => ?_)
  refine wpS_box rfl rfl rfl CellsOf.agg hS (fun b4 w hS hB => ?_)
  refine wpS_alloc rfl rfl zc_40 hS (fun b6 w hS hB => ?_)
  refine wpS_nil ?_
  refine QH_seq_k hK1 ?_
  refine wpC_seq_k (fun K hK8 => ?_)
  refine wpC_seq_k (fun K hK9 => ?_)
  refine wpC_region ?_
  refine wpS_put rfl rfl rfl (yv_load_boxA ag_32 rfl (RW.here _) hS hs2 trivial sg0_22) ?_
  have hM10 := hS
  refine wpS_call rfl rfl rfl rfl (by kernel_rfl) rfl (c_msg_others x0 A0_ c0_ A1_ c1_ A2_ c2_ A3_ c3_ A4_ c4_ _ (SlI.of_rd s0_.k (hS.rd0 s0_.rd) (hS.blk0 s0_.blk)) (SlI.of_rd s1_.k (hS.rd0 s1_.rd) (hS.blk0 s1_.blk)) (SlI.of_rd s2_.k (hS.rd0 s2_.rd) (hS.blk0 s2_.blk)) (SlI.of_rd s3_.k (hS.rd0 s3_.rd) (hS.blk0 s3_.blk)) (SlI.of_rd s4_.k (hS.rd0 s4_.rd) (hS.blk0 s4_.blk))) ?_
  rintro e w ⟨b12, rfl, hN11⟩; refine ⟨_, rfl, ?_⟩; have hB := hN11.pure; have hS := hS.join hN11
  refine wpS_nil ?_
  refine QH_seq_k hK9 ?_
  refine wpC_block ?_
  replace hS := hS.nilRds
  replace hS := hS.nilRow 39 15
  replace hM10 := hM10.nilRds
  replace hM10 := hM10.nilRow 39 15
  obtain ⟨xs24, hx25, H⟩ := bind_some H
  refine wpC_range (w0 := w0) (X := List Ms × Option Addr × Nat × List Mq) rfl (by kernel_rfl) (it_others x0 _ _ _ hM10.pure b12 hN11 hx25) ⟨hM10.size, hN11.size⟩ (fun _ => rfl) (by kernel_rfl) (fun k x => .row (.slice x.2.1 x.1.length x.2.2.1) 39 15 x.1.length (encs enQ x.2.2.2) :: .rds (x.2.2.2.map subQ) :: .box b6 [.slice x.2.1 x.1.length x.2.2.1] 40 :: .box b4 [.int .u8 x1.kind, .int .i64 x1.frm, .int .i64 x1.dst, .int .i64 x1.term, .int .i64 x1.cap, .int .i64 x1.last, .int .i64 x1.lastTerm, .int .i64 x1.commit, .bool x1.okk, .slice A5_ x1.entries.length c5_, .int .i64 x1.snap.index, .int .i64 x1.snap.term, .int .i64 x1.snap.sum, .int .i64 x1.snap.level, .bool x1.snap.final] 39 :: .box b2 [.int .i64 x0.id, .int .i64 x0.n, .int .u8 x0.role, .int .i64 x0.binary, .int .i64 x0.tuple.snap.index, .int .i64 x0.tuple.snap.term, .int .i64 x0.tuple.snap.sum, .int .i64 x0.tuple.snap.level, .bool x0.tuple.snap.final, .slice A0_ x0.tuple.log.length c0_, .int .i64 x0.tuple.term, .int .i64 x0.tuple.vote, .int .i64 x0.commit, .int .i64 x0.applied.index, .int .i64 x0.applied.term, .int .i64 x0.applied.sum, .int .i64 x0.applied.level, .bool x0.applied.final, .slice A1_ x0.votes.length c1_, .slice A2_ x0.next.length c2_, .slice A3_ x0.mtch.length c3_, .slice A4_ x0.caps.length c4_] 32 :: []) (fun k x => (x.1.length ≤ x.2.2.1 ∧ x.2.2.1 ≤ maxLen) ∧ (x.2.2.2.map Mq.m = x.1) ∧ (∀ y ∈ x.2.2.2, okQ y) ∧ m_msg_Others_r1 x0 x1 (xs24.drop k) x.1 = some r) (fun _ _ => []) (fun _ _ => False) (fun _ => False) ([], none, 0, ([] : List Mq)) ⟨hS.sub (List.Sublist.cons_cons _ (List.Sublist.cons_cons _ (List.Sublist.cons _ (List.Sublist.cons_cons _ (List.Sublist.cons_cons _ (List.Sublist.cons_cons _ List.Sublist.slnil)))))), fun e he k hk => .inl (hM10.rng e he k hk).1⟩ ⟨⟨Nat.le_refl _, Nat.zero_le _⟩, rfl, okq_nil, H⟩ ?_ ?_ (fun _ _ _ h _ => h.elim) (fun _ _ h _ => h.elim)
  · rintro lo k e14 ⟨v15, A16, c17, q19⟩ A hke ⟨k18, hq20, okq21, H⟩ hzB hRB hS
    dsimp only at hRB k18 hq20 okq21 H ⊢
    rw [drop_of_get hke, m_msg_Others_r1] at H
    dsimp only [List.zip, List.zipWith, List.foldl]
    refine wpC_regionR (by repeat (first | exact NL.round | exact NL.false | exact NL.body (by intro _ h; simp at h) | apply NL.then | apply NL.inBlock | apply NL.jump)) (by kernel_rfl) ?_
    refine wpS_quick 1 rfl ?_
    refine wpS_nil ?_
    refine QH_asg hS ?_
    rintro A2 hS hBase hE
    dsimp only [List.cons_append, List.nil_append] at hS
    refine wpC_block ?_
    refine wpC_seq_k (fun K hK26 => ?_)
    refine wpC_regionR (by repeat (first | exact NL.round | exact NL.false | exact NL.body (by intro _ h; simp at h) | apply NL.then | apply NL.inBlock | apply NL.jump)) (by kernel_rfl) ?_
    refine wpS_put rfl rfl rfl (yv_load_boxA ag_39 rfl (RW.here _) hS hs3 trivial sg0_15) ?_
    refine wpS_alloc rfl rfl zc_39 hS (fun b27 w hS hB => ?_)
    refine wpS_store rfl rfl rfl CellsOf.agg hS ps0 st0_15 (by kernel_rfl) rfl (fun w hS hB => ?_)
    refine wpS_nil ?_
    refine QH_seq_k hK26 ?_
    refine wpC_seq_k (fun K hK29 => ?_)
    refine wpC_drawR (by repeat (first | exact NL.round | exact NL.false | exact NL.body (by intro _ h; simp at h) | apply NL.then | apply NL.inBlock | apply NL.jump)) (by kernel_rfl) 21 [12, 14, 16, 18, 20] (fun i b => (i = 12 → b ≠ b27) ∧ (i = 14 → b ≠ b27) ∧ (i = 16 → b ≠ b27) ∧ (i = 18 → b ≠ b27) ∧ (i = 20 → b ≠ b27)) ⟨by kernel_rfl, by kernel_rfl⟩ hS (fun w hS hB => ?_)
    refine wpR_batch [true, true, false, false, false, false, false, false, false, false, false, true] (by decide +kernel) (by repeat (first | exact PF.body | exact PF.round | apply PF.then | apply PF.inBlock | apply PF.jump)) ?_
    refine LtK.put rfl rfl rfl (yv_fieldAddr fo_32_0 rfl) ?_
    refine LtK.put rfl rfl rfl (yv_load_box sc_3 rfl (RW.below _) hS hs5 trivial sg0_1) ?_
    refine LtK.put rfl rfl rfl (yv_fieldAddr fo_39_1 rfl) ?_
    refine LtK.nil ?_
    refine wpR_batchG [false, false, true, true, true, true, true, true, true, true] [12, 14, 16, 18] (fun b => b ≠ b27) (by decide +kernel) (by intro j hj b hb; simp only [List.mem_cons, List.not_mem_nil, or_false] at hj; (try rcases hj with rfl | rfl | rfl | rfl | rfl) <;> simp_all) (by repeat (first | exact PF.body | exact PF.round | apply PF.then | apply PF.inBlock | apply PF.jump)) ?_
    refine LtK.put rfl rfl rfl (yv_move rfl) ?_
    refine LtK.put rfl rfl rfl (yv_fieldAddr fo_32_4 rfl) ?_
    refine LtK.put rfl rfl rfl (yv_fieldAddr fo_26_2 rfl) ?_
    refine LtK.put rfl rfl rfl (yv_load_box sc_3 rfl (RW.keepB _ _) hS hs5 (hS.ne 5 0 rfl rfl rfl) sg10_1) ?_
    refine LtK.put rfl rfl rfl (yv_fieldAddr fo_32_3 rfl) ?_
    refine LtK.put rfl rfl rfl (yv_load_box sc_3 rfl (RW.keepB _ _) hS hs5 (hS.ne 5 0 rfl rfl rfl) sg3_1) ?_
    refine LtK.put rfl rfl rfl (yv_fieldAddr fo_39_9 rfl) ?_
    refine LtK.put rfl rfl rfl (yv_load_box sc_24 rfl (RW.keepB _ _) hS hs4 (hS.ne 4 0 rfl rfl rfl) sg9_1) ?_
    refine LtK.nil ?_
    refine wpR_call [false, false, false, false, false, false, false, false, false, false, true] 10 ⟨by decide, by kernel_rfl, by kernel_rfl⟩ rfl rfl ?_
    try dsimp only [pickL]
    obtain ⟨r30, hm31, H⟩ := bind_some H
    refine wpS_call rfl rfl rfl rfl (by kernel_rfl) rfl (c_slices_Clone___api_Entry_api_Entry_ x1.entries A5_ c5_ _ (SlI.of_rd s5_.k (hS.rdR hBase s5_.rd) (hS.blkR hBase s5_.blk)) hm31) ?_
    rintro e w ⟨A32, c33, rfl, k34, hN⟩; refine ⟨_, rfl, ?_⟩; have hB := hN.pure; have hS := hS.join hN; clear hN
    refine wpS_nil ?_
    refine QH_step hB ?_
    refine wpR_seal [false, false, false, false, false, false, false, false, false, false, false, false, true] 12 ⟨by decide, by kernel_rfl, by kernel_rfl⟩ rfl rfl ?_
    try dsimp only [pickL]
    refine wpS_store rfl rfl rfl CellsOf.int hS ps1 st1_1 (by kernel_rfl) rfl (fun w hS hB => ?_)
    refine wpS_nil ?_
    refine QH_stepG (hB.sub (fun _ _ h => by simpa using h)) ?_
    refine wpR_batch [false, false, false, false, false, false, false, false, false, false, false, false, false, true] (by decide +kernel) (by repeat (first | exact PF.body | exact PF.round | apply PF.then | apply PF.inBlock | apply PF.jump)) ?_
    refine LtK.put rfl rfl rfl (yv_fieldAddr fo_39_2 rfl) ?_
    refine LtK.nil ?_
    refine wpR_seal [false, false, false, false, false, false, false, false, false, false, false, false, false, false, true] 14 ⟨by decide, by kernel_rfl, by kernel_rfl⟩ rfl rfl ?_
    try dsimp only [pickL]
    refine wpS_store rfl rfl rfl CellsOf.int hS ps1 st2_1 (by kernel_rfl) rfl (fun w hS hB => ?_)
    refine wpS_nil ?_
    refine QH_stepG (hB.sub (fun _ _ h => by simpa using h)) ?_
    refine wpR_batch [false, false, false, false, false, false, false, false, false, false, false, false, false, false, false, true] (by decide +kernel) (by repeat (first | exact PF.body | exact PF.round | apply PF.then | apply PF.inBlock | apply PF.jump)) ?_
    refine LtK.put rfl rfl rfl (yv_fieldAddr fo_39_3 rfl) ?_
    refine LtK.nil ?_
    refine wpR_seal [false, false, false, false, false, false, false, false, false, false, false, false, false, false, false, false, true] 16 ⟨by decide, by kernel_rfl, by kernel_rfl⟩ rfl rfl ?_
    try dsimp only [pickL]
    refine wpS_store rfl rfl rfl CellsOf.int hS ps1 st3_1 (by kernel_rfl) rfl (fun w hS hB => ?_)
    refine wpS_nil ?_
    refine QH_stepG (hB.sub (fun _ _ h => by simpa using h)) ?_
    refine wpR_batch [false, false, false, false, false, false, false, false, false, false, false, false, false, false, false, false, false, true] (by decide +kernel) (by repeat (first | exact PF.body | exact PF.round | apply PF.then | apply PF.inBlock | apply PF.jump)) ?_
    refine LtK.put rfl rfl rfl (yv_fieldAddr fo_39_4 rfl) ?_
    refine LtK.nil ?_
    refine wpR_seal [false, false, false, false, false, false, false, false, false, false, false, false, false, false, false, false, false, false, true] 18 ⟨by decide, by kernel_rfl, by kernel_rfl⟩ rfl rfl ?_
    try dsimp only [pickL]
    refine wpS_store rfl rfl rfl CellsOf.int hS ps1 st4_1 (by kernel_rfl) rfl (fun w hS hB => ?_)
    refine wpS_nil ?_
    refine QH_stepG (hB.sub (fun _ _ h => by simpa using h)) ?_
    refine wpR_batch [false, false, false, false, false, false, false, false, false, false, false, false, false, false, false, false, false, false, false, true] (by decide +kernel) (by repeat (first | exact PF.body | exact PF.round | apply PF.then | apply PF.inBlock | apply PF.jump)) ?_
    refine LtK.put rfl rfl rfl (yv_fieldAddr fo_39_9 rfl) ?_
    refine LtK.nil ?_
    refine wpR_seal [false, false, false, false, false, false, false, false, false, false, false, false, false, false, false, false, false, false, false, false, true] 20 ⟨by decide, by kernel_rfl, by kernel_rfl⟩ rfl rfl ?_
    try dsimp only [pickL]
    refine wpS_store rfl rfl rfl CellsOf.slice hS ps1 st9_1 (by kernel_rfl) rfl (fun w hS hB => ?_)
    refine wpS_nil ?_
    refine QH_stepG (hB.sub (fun _ _ h => by simpa using h)) ?_
    refine wpR_end (by kernel_rfl) ?_
    refine QH_seq_k hK29 ?_
    refine wpC_regionR (by repeat (first | exact NL.round | exact NL.false | exact NL.body (by intro _ h; simp at h) | apply NL.then | apply NL.inBlock | apply NL.jump)) (by kernel_rfl) ?_
    refine wpS_put rfl rfl rfl (yv_load_box sc_40 rfl (RW.here _) hS hs4 trivial sg0_1) ?_
    refine wpS_put rfl rfl rfl (yv_load_boxA ag_39 rfl (RW.here _) hS hs1 trivial sg0_15) ?_
    refine wpS_sliceM (ps := [(0, .tmp 28)]) [.int .u8 x1.kind, .int .i64 x0.id, .int .i64 e14, .int .i64 x0.tuple.term, .int .i64 x0.binary, .int .i64 x1.last, .int .i64 x1.lastTerm, .int .i64 x1.commit, .bool x1.okk, .slice A32 r30.length c33, .int .i64 x1.snap.index, .int .i64 x1.snap.term, .int .i64 x1.snap.sum, .int .i64 x1.snap.level, .bool x1.snap.final] el_40 zc_39 rfl rfl rfl rfl rfl (by kernel_rfl) hS (fun b36 w hS hB => ?_)
    obtain ⟨l38, hf39, H⟩ := bind_some H
    refine wpX_appendQ (l := v15) (q := q19) (y := ⟨(⟨x1.kind, x0.id, e14, x0.tuple.term, x0.binary, x1.last, x1.lastTerm, x1.commit, x1.okk, r30, x1.snap⟩ : Ms), A32, c33⟩) em_40 (by decide) rfl rfl rfl rfl hS hq20 (fun _ => ps3) (hS.box_rd hs0) hf39 (fun A40 c41 w k42 hS hq43 hB => ?_)
    have okq44 := okq_snoc okq21 (show okQ ⟨(⟨x1.kind, x0.id, e14, x0.tuple.term, x0.binary, x1.last, x1.lastTerm, x1.commit, x1.okk, r30, x1.snap⟩ : Ms), A32, c33⟩ from k34)
    replace hS := hS.front 4 rfl
    replace hS := hS.front 2 rfl
    replace hS := hS.weak Weak.rowRd
    replace hS := hS.absorbQ ⟨(⟨x1.kind, x0.id, e14, x0.tuple.term, x0.binary, x1.last, x1.lastTerm, x1.commit, x1.okk, r30, x1.snap⟩ : Ms), A32, c33⟩
    replace hS := hS.front 3 rfl
    refine wpS_store rfl rfl rfl CellsOf.slice hS ps4 st0_1 (by kernel_rfl) rfl (fun w hS hB => ?_)
    refine wpS_nil ?_
    refine QH_block_normal ?_
    exact QH_round hBase hE hS (l38, A40, c41, (q19 ++ [⟨(⟨x1.kind, x0.id, e14, x0.tuple.term, x0.binary, x1.last, x1.lastTerm, x1.commit, x1.okk, r30, x1.snap⟩ : Ms), A32, c33⟩])) (List.Sublist.cons_cons _ (List.Sublist.cons_cons _ (List.Sublist.cons _ (List.Sublist.cons _ (List.Sublist.cons_cons _ (List.Sublist.cons_cons _ (List.Sublist.cons_cons _ List.Sublist.slnil))))))) ⟨k42, hq43, okq44, H⟩
  · rintro ⟨v15, A16, c17, q19⟩ A ⟨k18, hq20, okq21, H⟩ hS
    dsimp only at hS k18 hq20 okq21 H ⊢
    rw [List.drop_length, m_msg_Others_r1] at H
    refine QH_block_normal ?_
    refine QH_seq_k hK8 ?_
    refine wpC_seq_k (fun K hK46 => ?_)
    refine wpC_region ?_
    refine wpS_put rfl rfl rfl (yv_load_box sc_40 rfl (RW.here _) hS hs3 trivial sg0_1) ?_
    refine wpS_store rfl rfl rfl CellsOf.slice hS ps3 st0_1 (by kernel_rfl) rfl (fun w hS hB => ?_)
    refine wpS_nil ?_
    refine QH_seq_k hK46 ?_
    refine wpC_ret ?_
    refine QH_shut (.inl rfl) hS ps0 (fun w hS => ?_)
    replace hS := hS.sub (List.Sublist.cons _ (List.Sublist.cons_cons _ (List.Sublist.cons_cons _ (List.Sublist.cons_cons _ (List.Sublist.cons_cons _ (List.Sublist.cons_cons _ List.Sublist.slnil))))))
    refine QH_ret rfl (RV.cell rfl (load_box1 sc_40 hS hs2 sg0_1) RV.nil) rfl ?_
    obtain rfl := Option.some.inj H
    have hS := hS.front 1 rfl
    replace hS := hS.front 1 rfl
    replace hS := hS.weak Weak.rowRd
    replace hS := hS.cut 2
    exact ⟨A16, c17, q19, rfl, k18, hq20, okq21, hS⟩
theorem c_msg_Back (x0 : Co) (x1 : Ms) (x2 : Int) (x3 : Bool) (x4 : Int) (A0_ : Option Addr) (c0_ : Nat) (A1_ : Option Addr) (c1_ : Nat) (A2_ : Option Addr) (c2_ : Nat) (A3_ : Option Addr) (c3_ : Nat) (A4_ : Option Addr) (c4_ : Nat) (A5_ : Option Addr) (c5_ : Nat) (w0 : World) (s0_ : SlI w0 enE A0_ c0_ x0.tuple.log) (s1_ : SlI w0 enO A1_ c1_ x0.votes) (s2_ : SlI w0 enI A2_ c2_ x0.next) (s3_ : SlI w0 enI A3_ c3_ x0.mtch) (s4_ : SlI w0 enI A4_ c4_ x0.caps) (s5_ : SlI w0 enE A5_ c5_ x1.entries) {r : Ms} (H : m_msg_Back x0 x1 x2 x3 x4 = some r) : Calls Try.prog 24 #[.agg #[.int .i64 x0.id, .int .i64 x0.n, .int .u8 x0.role, .int .i64 x0.binary, .int .i64 x0.tuple.snap.index, .int .i64 x0.tuple.snap.term, .int .i64 x0.tuple.snap.sum, .int .i64 x0.tuple.snap.level, .bool x0.tuple.snap.final, .slice A0_ x0.tuple.log.length c0_, .int .i64 x0.tuple.term, .int .i64 x0.tuple.vote, .int .i64 x0.commit, .int .i64 x0.applied.index, .int .i64 x0.applied.term, .int .i64 x0.applied.sum, .int .i64 x0.applied.level, .bool x0.applied.final, .slice A1_ x0.votes.length c1_, .slice A2_ x0.next.length c2_, .slice A3_ x0.mtch.length c3_, .slice A4_ x0.caps.length c4_], .agg #[.int .u8 x1.kind, .int .i64 x1.frm, .int .i64 x1.dst, .int .i64 x1.term, .int .i64 x1.cap, .int .i64 x1.last, .int .i64 x1.lastTerm, .int .i64 x1.commit, .bool x1.okk, .slice A5_ x1.entries.length c5_, .int .i64 x1.snap.index, .int .i64 x1.snap.term, .int .i64 x1.snap.sum, .int .i64 x1.snap.level, .bool x1.snap.final], .int .u8 x2, .bool x3, .int .i64 x4] w0 fun e w' => ∃ (A0 : Option Addr) (c0 : Nat), e = .returned (.agg #[.int .u8 r.kind, .int .i64 r.frm, .int .i64 r.dst, .int .i64 r.term, .int .i64 r.cap, .int .i64 r.last, .int .i64 r.lastTerm, .int .i64 r.commit, .bool r.okk, .slice A0 r.entries.length c0, .int .i64 r.snap.index, .int .i64 r.snap.term, .int .i64 r.snap.sum, .int .i64 r.snap.level, .bool r.snap.final]) ∧ (r.entries.length ≤ c0 ∧ c0 ≤ maxLen) ∧ St0 All w0 w' [.rd A0 (encs enE r.entries)] := by
  unfold m_msg_Back at H
  refine gw_enter5 Try.func24 rfl Try.ntmps24 rfl ?_
  have hS := St0.start All w0
  refine wpC_seq_k (fun K hK1 => ?_)
  refine wpC_region ?_
  refine wpS_box rfl rfl rfl CellsOf.agg hS (fun b2 w hS hB => ?_)
  refine wpS_box rfl rfl rfl CellsOf.agg hS (fun b4 w hS hB => ?_)
  refine wpS_alloc rfl rfl zc_39 hS (fun b6 w hS hB => ?_)
  refine wpS_nil ?_
  refine QH_seq_k hK1 ?_
  refine wpC_seq_k (fun K hK8 => ?_)
  refine wpC_region ?_
  refine wpS_quick 1 rfl ?_
  refine wpS_put rfl rfl rfl (yv_fieldAddr fo_32_0 rfl) ?_
  refine wpS_put rfl rfl rfl (yv_load_box sc_3 rfl (RW.here _) hS hs2 trivial sg0_1) ?_
  refine wpS_put rfl rfl rfl (yv_fieldAddr fo_39_1 rfl) ?_
  refine wpS_put rfl rfl rfl (yv_load_box sc_3 rfl (RW.here _) hS hs1 trivial sg1_1) ?_
  refine wpS_put rfl rfl rfl (yv_fieldAddr fo_32_4 rfl) ?_
  refine wpS_put rfl rfl rfl (yv_fieldAddr fo_26_2 rfl) ?_
  refine wpS_put rfl rfl rfl (yv_load_box sc_3 rfl (RW.here _) hS hs2 trivial sg10_1) ?_
  refine wpS_put rfl rfl rfl (yv_fieldAddr fo_32_3 rfl) ?_
  refine wpS_put rfl rfl rfl (yv_load_box sc_3 rfl (RW.here _) hS hs2 trivial sg3_1) ?_
  refine wpS_quick 2 rfl ?_
  refine wpS_put rfl rfl rfl (yv_build (cells := [.int .u8 x2, .int .i64 x0.id, .int .i64 x1.frm, .int .i64 x0.tuple.term, .int .i64 x0.binary, .int .i64 x4, .int .i64 0, .int .i64 0, .bool x3, .slice none 0 0, .int .i64 0, .int .i64 0, .int .i64 0, .int .i64 0, .bool false]) rfl (by kernel_rfl)) ?_
  refine wpS_store rfl rfl rfl CellsOf.agg hS ps0 st0_15 (by kernel_rfl) rfl (fun w hS hB => ?_)
  refine wpS_nil ?_
  refine QH_seq_k hK8 ?_
  refine wpC_ret ?_
  refine QH_ret rfl (RV.cell rfl (load_boxA ag_39 hS hs0 sg0_15) RV.nil) rfl ?_
  obtain rfl := Option.some.inj H
  have hS := hS.nilRd
  replace hS := hS.cut 1
  exact ⟨none, 0, rfl, ⟨Nat.le_refl _, Nat.zero_le _⟩, hS⟩
theorem c_entry_First (w0 : World) {r : St} (H : m_entry_First = some r) : Calls Try.prog 90 #[] w0 fun e w' => e = .returned (.agg #[.int .i64 r.index, .int .i64 r.term, .int .i64 r.sum, .int .i64 r.level, .bool r.final]) ∧ St0 All w0 w' [] := by
  unfold m_entry_First at H
  refine gw_enter0 Try.func90 rfl Try.ntmps90 rfl ?_
  have hS := St0.start All w0
  refine wpC_seq_k (fun K hK1 => ?_)
  refine wpC_region ?_
  refine wpS_alloc rfl rfl zc_23 hS (fun b2 w hS hB => ?_)
  refine wpS_nil ?_
  refine QH_seq_k hK1 ?_
  refine wpC_seq_k (fun K hK4 => ?_)
  refine wpC_region ?_
  refine wpS_put rfl rfl rfl (yv_build (cells := [.int .i64 0, .int .i64 0, .int .i64 0, .int .i64 1, .bool false]) rfl (by kernel_rfl)) ?_
  refine wpS_store rfl rfl rfl CellsOf.agg hS ps0 st0_5 (by kernel_rfl) rfl (fun w hS hB => ?_)
  refine wpS_nil ?_
  refine QH_seq_k hK4 ?_
  refine wpC_ret ?_
  refine QH_ret rfl (RV.cell rfl (load_boxA ag_23 hS hs0 sg0_5) RV.nil) rfl ?_
  obtain rfl := Option.some.inj H
  replace hS := hS.cut 0
  exact ⟨rfl, hS⟩
theorem c_entry_number (x0 : Int) (w0 : World) {r : Bool} (H : m_entry_number x0 = some r) : Calls Try.prog 91 #[.int .i64 x0] w0 fun e w' => e = .returned (.bool r) ∧ St0 All w0 w' [] := by
  unfold m_entry_number at H
  refine gw_enter1 Try.func91 rfl Try.ntmps91 rfl ?_
  have hS := St0.start All w0
  refine wpC_seq_k (fun K hK1 => ?_)
  refine wpC_region ?_
  refine wpS_quick 1 rfl ?_
  refine wpS_nil ?_
  refine QH_seq_k hK1 ?_
  refine wpC_seq_k (fun K hK2 => ?_)
  refine wpC_region ?_
  refine wpS_quick 1 rfl ?_
  refine wpS_put rfl rfl rfl (yv_geq rfl rfl) ?_
  refine wpS_quick 1 rfl ?_
  refine wpS_case 5 rfl (fun hb => ?_) (fun hb => ?_)
  rotate_left
  · replace H := cond_f H hb
    refine wpS_quick 4 rfl ?_
    refine wpS_nil ?_
    refine QH_seq_k hK2 ?_
    refine wpC_ret ?_
    refine QH_ret rfl (RV.tmp rfl RV.nil) rfl ?_
    obtain rfl := Option.some.inj H
    replace hS := hS.cut 0
    exact ⟨rfl, hS⟩
  replace H := cond_t H hb
  refine wpS_quick 1 rfl ?_
  refine wpS_put rfl rfl rfl (yv_leq rfl rfl) ?_
  refine wpS_quick 2 rfl ?_
  refine wpS_nil ?_
  refine QH_seq_k hK2 ?_
  refine wpC_ret ?_
  refine QH_ret rfl (RV.tmp rfl RV.nil) rfl ?_
  obtain rfl := Option.some.inj H
  replace hS := hS.cut 0
  exact ⟨rfl, hS⟩
theorem c_entry_Fine (x0 : St) (w0 : World) {r : Bool} (H : m_entry_Fine x0 = some r) : Calls Try.prog 59 #[.agg #[.int .i64 x0.index, .int .i64 x0.term, .int .i64 x0.sum, .int .i64 x0.level, .bool x0.final]] w0 fun e w' => e = .returned (.bool r) ∧ St0 All w0 w' [] := by
  unfold m_entry_Fine at H
  refine gw_enter1 Try.func59 rfl Try.ntmps59 rfl ?_
  have hS := St0.start All w0
  refine wpC_seq_k (fun K hK1 => ?_)
  refine wpC_region ?_
  refine wpS_box rfl rfl rfl CellsOf.agg hS (fun b2 w hS hB => ?_)
  refine wpS_quick 1 rfl ?_
  refine wpS_nil ?_
  refine QH_seq_k hK1 ?_
  refine wpC_seq_k (fun K hK4 => ?_)
  refine wpC_block ?_
  refine wpC_seq_k (fun K hK5 => ?_)
  refine wpC_region ?_
  refine wpS_put rfl rfl rfl (yv_fieldAddr fo_23_0 rfl) ?_
  refine wpS_put rfl rfl rfl (yv_load_box sc_3 rfl (RW.here _) hS hs0 trivial sg0_1) ?_
  refine wpS_put rfl rfl rfl (yv_eql rfl rfl) ?_
  refine wpS_quick 1 rfl ?_
  refine wpS_nil ?_
  refine QH_seq_k hK5 ?_
  refine wpC_cond rfl (fun hb => ?_) (fun hb => ?_)
  · replace H := cond_t H hb
    refine wpC_seq_k (fun K hK6 => ?_)
    refine wpC_draw 4 [] (fun _ _ => True) ⟨by kernel_rfl, by kernel_rfl⟩ hS (fun w hS hB => ?_)
    refine wpR_batch [true] (by decide +kernel) (by repeat (first | exact PF.body | exact PF.round | apply PF.then | apply PF.inBlock | apply PF.jump)) ?_
    refine LtK.put rfl rfl rfl (yv_load_boxA ag_23 rfl (RW.below _) hS hs0 trivial sg0_5) ?_
    refine LtK.nil ?_
    refine wpR_call [false, true] 1 ⟨by decide, by kernel_rfl, by kernel_rfl⟩ rfl rfl ?_
    try dsimp only [pickL]
    obtain ⟨r7, hm8, H⟩ := bind_some H
    refine wpS_call rfl rfl rfl rfl (by kernel_rfl) rfl (c_entry_First _ hm8) ?_
    rintro e w ⟨rfl, hN⟩; refine ⟨_, rfl, ?_⟩; have hB := hN.pure; have hS := hS.join hN; clear hN
    refine wpS_nil ?_
    refine QH_step hB ?_
    refine wpR_batch [false, false, true, true] (by decide +kernel) (by repeat (first | exact PF.body | exact PF.round | apply PF.then | apply PF.inBlock | apply PF.jump)) ?_
    refine LtK.put rfl rfl rfl (yv_eqlS (by kernel_rfl) rfl rfl (eqT_23 _ _ _ _ _ _ _ _ _ _)) ?_
    refine LtK.put rfl rfl rfl (yv_assign rfl) ?_
    refine LtK.nil ?_
    refine wpR_end (by kernel_rfl) ?_
    refine QH_seq_k hK6 ?_
    refine wpC_ret ?_
    refine QH_block_ret ?_
    refine QH_then_ret ?_
    refine QH_ret rfl (RV.tmp rfl RV.nil) rfl ?_
    obtain rfl := Option.some.inj H
    replace hS := hS.cut 0
    exact ⟨rfl, hS⟩
  replace H := cond_f H hb
  refine wpC_seq_k (fun K hK9 => ?_)
  refine wpC_region ?_
  refine wpS_put rfl rfl rfl (yv_fieldAddr fo_23_4 rfl) ?_
  refine wpS_put rfl rfl rfl (yv_load_box sc_4 rfl (RW.here _) hS hs0 trivial sg4_1) ?_
  refine wpS_quick 1 rfl ?_
  refine wpS_nil ?_
  refine QH_seq_k hK9 ?_
  refine wpC_cond rfl (fun hb => ?_) (fun hb => ?_)
  · replace H := cond_t H hb
    refine wpC_seq_k (fun K hK10 => ?_)
    refine wpC_region ?_
    refine wpS_put rfl rfl rfl (yv_fieldAddr fo_23_3 rfl) ?_
    refine wpS_put rfl rfl rfl (yv_load_box sc_3 rfl (RW.here _) hS hs0 trivial sg3_1) ?_
    refine wpS_put rfl rfl rfl (yv_eql rfl rfl) ?_
    refine wpS_quick 1 rfl ?_
    refine wpS_case 16 rfl (fun hb => ?_) (fun hb => ?_)
    rotate_left
    · replace H := cond_f H hb
      refine wpS_quick 20 rfl ?_
      refine wpS_nil ?_
      refine QH_seq_k hK10 ?_
      refine wpC_ret ?_
      refine QH_block_ret ?_
      refine QH_then_ret ?_
      refine QH_ret rfl (RV.tmp rfl RV.nil) rfl ?_
      obtain rfl := Option.some.inj H
      replace hS := hS.cut 0
      exact ⟨rfl, hS⟩
    replace H := cond_t H hb
    refine wpS_put rfl rfl rfl (yv_fieldAddr fo_23_0 rfl) ?_
    refine wpS_put rfl rfl rfl (yv_load_box sc_3 rfl (RW.here _) hS hs0 trivial sg0_1) ?_
    obtain ⟨r11, hm12, H⟩ := bind_some H
    refine wpS_call rfl rfl rfl rfl (by kernel_rfl) rfl (c_entry_number x0.index _ hm12) ?_
    rintro e w ⟨rfl, hN⟩; refine ⟨_, rfl, ?_⟩; have hB := hN.pure; have hS := hS.join hN; clear hN
    refine wpS_quick 2 rfl ?_
    refine wpS_case 21 rfl (fun hb => ?_) (fun hb => ?_)
    rotate_left
    · replace H := cond_f H hb
      refine wpS_quick 15 rfl ?_
      refine wpS_nil ?_
      refine QH_seq_k hK10 ?_
      refine wpC_ret ?_
      refine QH_block_ret ?_
      refine QH_then_ret ?_
      refine QH_ret rfl (RV.tmp rfl RV.nil) rfl ?_
      obtain rfl := Option.some.inj H
      replace hS := hS.cut 0
      exact ⟨rfl, hS⟩
    replace H := cond_t H hb
    refine wpS_put rfl rfl rfl (yv_fieldAddr fo_23_1 rfl) ?_
    refine wpS_put rfl rfl rfl (yv_load_box sc_3 rfl (RW.here _) hS hs0 trivial sg1_1) ?_
    refine wpS_put rfl rfl rfl (yv_gtr rfl rfl) ?_
    refine wpS_quick 2 rfl ?_
    refine wpS_case 26 rfl (fun hb => ?_) (fun hb => ?_)
    rotate_left
    · replace H := cond_f H hb
      refine wpS_quick 10 rfl ?_
      refine wpS_nil ?_
      refine QH_seq_k hK10 ?_
      refine wpC_ret ?_
      refine QH_block_ret ?_
      refine QH_then_ret ?_
      refine QH_ret rfl (RV.tmp rfl RV.nil) rfl ?_
      obtain rfl := Option.some.inj H
      replace hS := hS.cut 0
      exact ⟨rfl, hS⟩
    replace H := cond_t H hb
    refine wpS_put rfl rfl rfl (yv_fieldAddr fo_23_1 rfl) ?_
    refine wpS_put rfl rfl rfl (yv_load_box sc_3 rfl (RW.here _) hS hs0 trivial sg1_1) ?_
    obtain ⟨r13, hm14, H⟩ := bind_some H
    refine wpS_call rfl rfl rfl rfl (by kernel_rfl) rfl (c_entry_number x0.term _ hm14) ?_
    rintro e w ⟨rfl, hN⟩; refine ⟨_, rfl, ?_⟩; have hB := hN.pure; have hS := hS.join hN; clear hN
    refine wpS_quick 2 rfl ?_
    refine wpS_case 31 rfl (fun hb => ?_) (fun hb => ?_)
    rotate_left
    · replace H := cond_f H hb
      refine wpS_quick 5 rfl ?_
      refine wpS_nil ?_
      refine QH_seq_k hK10 ?_
      refine wpC_ret ?_
      refine QH_block_ret ?_
      refine QH_then_ret ?_
      refine QH_ret rfl (RV.tmp rfl RV.nil) rfl ?_
      obtain rfl := Option.some.inj H
      replace hS := hS.cut 0
      exact ⟨rfl, hS⟩
    replace H := cond_t H hb
    refine wpS_put rfl rfl rfl (yv_fieldAddr fo_23_2 rfl) ?_
    refine wpS_put rfl rfl rfl (yv_load_box sc_3 rfl (RW.here _) hS hs0 trivial sg2_1) ?_
    obtain ⟨r15, hm16, H⟩ := bind_some H
    refine wpS_call rfl rfl rfl rfl (by kernel_rfl) rfl (c_entry_number x0.sum _ hm16) ?_
    rintro e w ⟨rfl, hN⟩; refine ⟨_, rfl, ?_⟩; have hB := hN.pure; have hS := hS.join hN; clear hN
    refine wpS_quick 2 rfl ?_
    refine wpS_nil ?_
    refine QH_seq_k hK10 ?_
    refine wpC_ret ?_
    refine QH_block_ret ?_
    refine QH_then_ret ?_
    refine QH_ret rfl (RV.tmp rfl RV.nil) rfl ?_
    obtain rfl := Option.some.inj H
    replace hS := hS.cut 0
    exact ⟨rfl, hS⟩
  replace H := cond_f H hb
  refine wpC_skip ?_
  refine QH_block_normal ?_
  refine QH_seq_k hK4 ?_
  refine wpC_seq_k (fun K hK17 => ?_)
  refine wpC_region ?_
  refine wpS_put rfl rfl rfl (yv_fieldAddr fo_23_3 rfl) ?_
  refine wpS_put rfl rfl rfl (yv_load_box sc_3 rfl (RW.here _) hS hs0 trivial sg3_1) ?_
  refine wpS_put rfl rfl rfl (yv_eql rfl rfl) ?_
  refine wpS_quick 1 rfl ?_
  refine wpS_case 39 rfl (fun hb => ?_) (fun hb => ?_)
  · replace H := cond_t H hb
    refine wpS_quick 5 rfl ?_
    refine wpS_put rfl rfl rfl (yv_fieldAddr fo_23_0 rfl) ?_
    refine wpS_put rfl rfl rfl (yv_load_box sc_3 rfl (RW.here _) hS hs0 trivial sg0_1) ?_
    obtain ⟨r18, hm19, H⟩ := bind_some H
    refine wpS_call rfl rfl rfl rfl (by kernel_rfl) rfl (c_entry_number x0.index _ hm19) ?_
    rintro e w ⟨rfl, hN⟩; refine ⟨_, rfl, ?_⟩; have hB := hN.pure; have hS := hS.join hN; clear hN
    refine wpS_quick 2 rfl ?_
    refine wpS_case 49 rfl (fun hb => ?_) (fun hb => ?_)
    rotate_left
    · replace H := cond_f H hb
      refine wpS_quick 15 rfl ?_
      refine wpS_nil ?_
      refine QH_seq_k hK17 ?_
      refine wpC_ret ?_
      refine QH_ret rfl (RV.tmp rfl RV.nil) rfl ?_
      obtain rfl := Option.some.inj H
      replace hS := hS.cut 0
      exact ⟨rfl, hS⟩
    replace H := cond_t H hb
    refine wpS_put rfl rfl rfl (yv_fieldAddr fo_23_1 rfl) ?_
    refine wpS_put rfl rfl rfl (yv_load_box sc_3 rfl (RW.here _) hS hs0 trivial sg1_1) ?_
    refine wpS_put rfl rfl rfl (yv_gtr rfl rfl) ?_
    refine wpS_quick 2 rfl ?_
    refine wpS_case 54 rfl (fun hb => ?_) (fun hb => ?_)
    rotate_left
    · replace H := cond_f H hb
      refine wpS_quick 10 rfl ?_
      refine wpS_nil ?_
      refine QH_seq_k hK17 ?_
      refine wpC_ret ?_
      refine QH_ret rfl (RV.tmp rfl RV.nil) rfl ?_
      obtain rfl := Option.some.inj H
      replace hS := hS.cut 0
      exact ⟨rfl, hS⟩
    replace H := cond_t H hb
    refine wpS_put rfl rfl rfl (yv_fieldAddr fo_23_1 rfl) ?_
    refine wpS_put rfl rfl rfl (yv_load_box sc_3 rfl (RW.here _) hS hs0 trivial sg1_1) ?_
    obtain ⟨r20, hm21, H⟩ := bind_some H
    refine wpS_call rfl rfl rfl rfl (by kernel_rfl) rfl (c_entry_number x0.term _ hm21) ?_
    rintro e w ⟨rfl, hN⟩; refine ⟨_, rfl, ?_⟩; have hB := hN.pure; have hS := hS.join hN; clear hN
    refine wpS_quick 2 rfl ?_
    refine wpS_case 59 rfl (fun hb => ?_) (fun hb => ?_)
    rotate_left
    · replace H := cond_f H hb
      refine wpS_quick 5 rfl ?_
      refine wpS_nil ?_
      refine QH_seq_k hK17 ?_
      refine wpC_ret ?_
      refine QH_ret rfl (RV.tmp rfl RV.nil) rfl ?_
      obtain rfl := Option.some.inj H
      replace hS := hS.cut 0
      exact ⟨rfl, hS⟩
    replace H := cond_t H hb
    refine wpS_put rfl rfl rfl (yv_fieldAddr fo_23_2 rfl) ?_
    refine wpS_put rfl rfl rfl (yv_load_box sc_3 rfl (RW.here _) hS hs0 trivial sg2_1) ?_
    obtain ⟨r22, hm23, H⟩ := bind_some H
    refine wpS_call rfl rfl rfl rfl (by kernel_rfl) rfl (c_entry_number x0.sum _ hm23) ?_
    rintro e w ⟨rfl, hN⟩; refine ⟨_, rfl, ?_⟩; have hB := hN.pure; have hS := hS.join hN; clear hN
    refine wpS_quick 2 rfl ?_
    refine wpS_nil ?_
    refine QH_seq_k hK17 ?_
    refine wpC_ret ?_
    refine QH_ret rfl (RV.tmp rfl RV.nil) rfl ?_
    obtain rfl := Option.some.inj H
    replace hS := hS.cut 0
    exact ⟨rfl, hS⟩
  replace H := cond_f H hb
  refine wpS_put rfl rfl rfl (yv_fieldAddr fo_23_3 rfl) ?_
  refine wpS_put rfl rfl rfl (yv_load_box sc_3 rfl (RW.here _) hS hs0 trivial sg3_1) ?_
  refine wpS_put rfl rfl rfl (yv_eql rfl rfl) ?_
  refine wpS_quick 2 rfl ?_
  refine wpS_case 44 rfl (fun hb => ?_) (fun hb => ?_)
  rotate_left
  · replace H := cond_f H hb
    refine wpS_quick 20 rfl ?_
    refine wpS_nil ?_
    refine QH_seq_k hK17 ?_
    refine wpC_ret ?_
    refine QH_ret rfl (RV.tmp rfl RV.nil) rfl ?_
    obtain rfl := Option.some.inj H
    replace hS := hS.cut 0
    exact ⟨rfl, hS⟩
  replace H := cond_t H hb
  refine wpS_put rfl rfl rfl (yv_fieldAddr fo_23_0 rfl) ?_
  refine wpS_put rfl rfl rfl (yv_load_box sc_3 rfl (RW.here _) hS hs0 trivial sg0_1) ?_
  obtain ⟨r24, hm25, H⟩ := bind_some H
  refine wpS_call rfl rfl rfl rfl (by kernel_rfl) rfl (c_entry_number x0.index _ hm25) ?_
  rintro e w ⟨rfl, hN⟩; refine ⟨_, rfl, ?_⟩; have hB := hN.pure; have hS := hS.join hN; clear hN
  refine wpS_quick 2 rfl ?_
  refine wpS_case 49 rfl (fun hb => ?_) (fun hb => ?_)
  rotate_left
  · replace H := cond_f H hb
    refine wpS_quick 15 rfl ?_
    refine wpS_nil ?_
    refine QH_seq_k hK17 ?_
    refine wpC_ret ?_
    refine QH_ret rfl (RV.tmp rfl RV.nil) rfl ?_
    obtain rfl := Option.some.inj H
    replace hS := hS.cut 0
    exact ⟨rfl, hS⟩
  replace H := cond_t H hb
  refine wpS_put rfl rfl rfl (yv_fieldAddr fo_23_1 rfl) ?_
  refine wpS_put rfl rfl rfl (yv_load_box sc_3 rfl (RW.here _) hS hs0 trivial sg1_1) ?_
  refine wpS_put rfl rfl rfl (yv_gtr rfl rfl) ?_
  refine wpS_quick 2 rfl ?_
  refine wpS_case 54 rfl (fun hb => ?_) (fun hb => ?_)
  rotate_left
  · replace H := cond_f H hb
    refine wpS_quick 10 rfl ?_
    refine wpS_nil ?_
    refine QH_seq_k hK17 ?_
    refine wpC_ret ?_
    refine QH_ret rfl (RV.tmp rfl RV.nil) rfl ?_
    obtain rfl := Option.some.inj H
    replace hS := hS.cut 0
    exact ⟨rfl, hS⟩
  replace H := cond_t H hb
  refine wpS_put rfl rfl rfl (yv_fieldAddr fo_23_1 rfl) ?_
  refine wpS_put rfl rfl rfl (yv_load_box sc_3 rfl (RW.here _) hS hs0 trivial sg1_1) ?_
  obtain ⟨r26, hm27, H⟩ := bind_some H
  refine wpS_call rfl rfl rfl rfl (by kernel_rfl) rfl (c_entry_number x0.term _ hm27) ?_
  rintro e w ⟨rfl, hN⟩; refine ⟨_, rfl, ?_⟩; have hB := hN.pure; have hS := hS.join hN; clear hN
  refine wpS_quick 2 rfl ?_
  refine wpS_case 59 rfl (fun hb => ?_) (fun hb => ?_)
  rotate_left
  · replace H := cond_f H hb
    refine wpS_quick 5 rfl ?_
    refine wpS_nil ?_
    refine QH_seq_k hK17 ?_
    refine wpC_ret ?_
    refine QH_ret rfl (RV.tmp rfl RV.nil) rfl ?_
    obtain rfl := Option.some.inj H
    replace hS := hS.cut 0
    exact ⟨rfl, hS⟩
  replace H := cond_t H hb
  refine wpS_put rfl rfl rfl (yv_fieldAddr fo_23_2 rfl) ?_
  refine wpS_put rfl rfl rfl (yv_load_box sc_3 rfl (RW.here _) hS hs0 trivial sg2_1) ?_
  obtain ⟨r28, hm29, H⟩ := bind_some H
  refine wpS_call rfl rfl rfl rfl (by kernel_rfl) rfl (c_entry_number x0.sum _ hm29) ?_
  rintro e w ⟨rfl, hN⟩; refine ⟨_, rfl, ?_⟩; have hB := hN.pure; have hS := hS.join hN; clear hN
  refine wpS_quick 2 rfl ?_
  refine wpS_nil ?_
  refine QH_seq_k hK17 ?_
  refine wpC_ret ?_
  refine QH_ret rfl (RV.tmp rfl RV.nil) rfl ?_
  obtain rfl := Option.some.inj H
  replace hS := hS.cut 0
  exact ⟨rfl, hS⟩
end Go.Proofs.Ytohkkncfofomdaa
