/- What functions compute, in plain terms, and that they do; printed. -/
import Derived.Test.YthngkojbokknfaaGxTFMg
import Derived.Test.YthngkojbokknfaaGxTDMg
namespace Go.Proofs.Ythngkojbokknfaa
open Go Go.RowKit
set_option maxRecDepth 10000
set_option maxHeartbeats 4000000
theorem c_ref06_number (x0 : Int) (w0 : World) {r : Bool} (H : m_ref06_number x0 = some r) : Calls Try.prog 48 #[.int .i64 x0] w0 fun e w' => e = .returned (.bool r) ∧ St0 All w0 w' [] := by
  unfold m_ref06_number at H
  refine gw_enter1 Try.func48 rfl Try.ntmps48 rfl ?_
  have hS := St0.start All w0
  refine wpC_seq_k (fun K hK1 => ?_)
  refine wpC_region ?_
  refine wpS_quick 1 rfl ?_
  refine wpS_nil ?_
  refine QH_seq_k hK1 ?_
  refine wpC_seq_k (fun K hK2 => ?_)
  refine wpC_region ?_
  refine wpS_quick 1 rfl ?_
  refine wpS_put rfl rfl rfl (yv_geq rfl rfl) ?_
  refine wpS_quick 1 rfl ?_
  refine wpS_case 5 rfl (fun hb => ?_) (fun hb => ?_)
  · replace H := cond_t H hb
    refine wpS_quick 1 rfl ?_
    refine wpS_put rfl rfl rfl (yv_leq rfl rfl) ?_
    refine wpS_quick 2 rfl ?_
    refine wpS_nil ?_
    refine QH_seq_k hK2 ?_
    refine wpC_ret ?_
    refine QH_ret rfl (RV.tmp rfl RV.nil) rfl ?_
    obtain rfl := Option.some.inj H
    replace hS := hS.cut 0
    exact ⟨rfl, hS⟩
  · replace H := cond_f H hb
    refine wpS_quick 4 rfl ?_
    refine wpS_nil ?_
    refine QH_seq_k hK2 ?_
    refine wpC_ret ?_
    refine QH_ret rfl (RV.tmp rfl RV.nil) rfl ?_
    obtain rfl := Option.some.inj H
    replace hS := hS.cut 0
    exact ⟨rfl, hS⟩
theorem c_ref06_First (w0 : World) {r : St} (H : m_ref06_First = some r) : Calls Try.prog 49 #[] w0 fun e w' => e = .returned (.agg #[.int .i64 r.index, .int .i64 r.term, .int .i64 r.sum, .int .i64 r.level, .bool r.final]) ∧ St0 All w0 w' [] := by
  unfold m_ref06_First at H
  refine gw_enter0 Try.func49 rfl Try.ntmps49 rfl ?_
  have hS := St0.start All w0
  refine wpC_seq_k (fun K hK1 => ?_)
  refine wpC_region ?_
  refine wpS_alloc rfl rfl zc_23 hS (fun b2 w hS hB => ?_)
  refine wpS_nil ?_
  refine QH_seq_k hK1 ?_
  refine wpC_seq_k (fun K hK4 => ?_)
  refine wpC_region ?_
  refine wpS_put rfl rfl rfl (yv_build (cells := [.int .i64 0, .int .i64 0, .int .i64 0, .int .i64 1, .bool false]) rfl (by kernel_rfl)) ?_
  refine wpS_store rfl rfl rfl CellsOf.agg hS ps0 st0_5 (by kernel_rfl) rfl (fun w hS hB => ?_)
  refine wpS_nil ?_
  refine QH_seq_k hK4 ?_
  refine wpC_ret ?_
  refine QH_ret rfl (RV.cell rfl (load_boxA ag_23 hS hs0 sg0_5) RV.nil) rfl ?_
  obtain rfl := Option.some.inj H
  replace hS := hS.cut 0
  exact ⟨rfl, hS⟩
theorem c_ref06_Fine (x0 : St) (w0 : World) {r : Bool} (H : m_ref06_Fine x0 = some r) : Calls Try.prog 19 #[.agg #[.int .i64 x0.index, .int .i64 x0.term, .int .i64 x0.sum, .int .i64 x0.level, .bool x0.final]] w0 fun e w' => e = .returned (.bool r) ∧ St0 All w0 w' [] := by
  unfold m_ref06_Fine at H
  refine gw_enter1 Try.func19 rfl Try.ntmps19 rfl ?_
  have hS := St0.start All w0
  refine wpC_seq_k (fun K hK1 => ?_)
  refine wpC_region ?_
  refine wpS_box rfl rfl rfl CellsOf.agg hS (fun b2 w hS hB => ?_)
  refine wpS_quick 1 rfl ?_
  refine wpS_nil ?_
  refine QH_seq_k hK1 ?_
  refine wpC_seq_k (fun K hK4 => ?_)
  refine wpC_seq_k (fun K hK5 => ?_)
  refine wpC_region ?_
  refine wpS_put rfl rfl rfl (yv_fieldAddr fo_23_0 rfl) ?_
  refine wpS_put rfl rfl rfl (yv_load_box sc_3 rfl (RW.here _) hS hs0 trivial sg0_1) ?_
  obtain ⟨r6, hm7, H⟩ := bind_some H
  refine wpS_call rfl rfl rfl rfl (by kernel_rfl) rfl (c_ref06_number x0.index _ hm7) ?_
  rintro e w ⟨rfl, hN⟩; refine ⟨_, rfl, ?_⟩; have hB := hN.pure; have hS := hS.join hN; clear hN
  refine wpS_put rfl rfl rfl (yv_not rfl) ?_
  refine wpS_quick 1 rfl ?_
  refine wpS_case 7 rfl (fun hb => ?_) (fun hb => ?_)
  · replace H := cond_t H hb
    refine wpS_quick 39 rfl ?_
    refine wpS_nil ?_
    refine QH_seq_k hK5 ?_
    refine wpC_cond_t rfl rfl ?_
    refine wpC_seq_k (fun K hK8 => ?_)
    refine wpC_region ?_
    refine wpS_quick 1 rfl ?_
    refine wpS_nil ?_
    refine QH_seq_k hK8 ?_
    refine wpC_ret ?_
    refine QH_then_ret ?_
    refine QH_ret rfl (RV.tmp rfl RV.nil) rfl ?_
    obtain rfl := Option.some.inj H
    replace hS := hS.cut 0
    exact ⟨rfl, hS⟩
  · replace H := cond_f H hb
    refine wpS_put rfl rfl rfl (yv_fieldAddr fo_23_1 rfl) ?_
    refine wpS_put rfl rfl rfl (yv_load_box sc_3 rfl (RW.here _) hS hs0 trivial sg1_1) ?_
    obtain ⟨r9, hm10, H⟩ := bind_some H
    refine wpS_call rfl rfl rfl rfl (by kernel_rfl) rfl (c_ref06_number x0.term _ hm10) ?_
    rintro e w ⟨rfl, hN⟩; refine ⟨_, rfl, ?_⟩; have hB := hN.pure; have hS := hS.join hN; clear hN
    refine wpS_put rfl rfl rfl (yv_not rfl) ?_
    refine wpS_quick 2 rfl ?_
    refine wpS_case 13 rfl (fun hb => ?_) (fun hb => ?_)
    · replace H := cond_t H hb
      refine wpS_quick 33 rfl ?_
      refine wpS_nil ?_
      refine QH_seq_k hK5 ?_
      refine wpC_cond_t rfl rfl ?_
      refine wpC_seq_k (fun K hK11 => ?_)
      refine wpC_region ?_
      refine wpS_quick 1 rfl ?_
      refine wpS_nil ?_
      refine QH_seq_k hK11 ?_
      refine wpC_ret ?_
      refine QH_then_ret ?_
      refine QH_ret rfl (RV.tmp rfl RV.nil) rfl ?_
      obtain rfl := Option.some.inj H
      replace hS := hS.cut 0
      exact ⟨rfl, hS⟩
    · replace H := cond_f H hb
      refine wpS_put rfl rfl rfl (yv_fieldAddr fo_23_2 rfl) ?_
      refine wpS_put rfl rfl rfl (yv_load_box sc_3 rfl (RW.here _) hS hs0 trivial sg2_1) ?_
      obtain ⟨r12, hm13, H⟩ := bind_some H
      refine wpS_call rfl rfl rfl rfl (by kernel_rfl) rfl (c_ref06_number x0.sum _ hm13) ?_
      rintro e w ⟨rfl, hN⟩; refine ⟨_, rfl, ?_⟩; have hB := hN.pure; have hS := hS.join hN; clear hN
      refine wpS_put rfl rfl rfl (yv_not rfl) ?_
      refine wpS_quick 2 rfl ?_
      refine wpS_case 19 rfl (fun hb => ?_) (fun hb => ?_)
      · replace H := cond_t H hb
        refine wpS_quick 27 rfl ?_
        refine wpS_nil ?_
        refine QH_seq_k hK5 ?_
        refine wpC_cond_t rfl rfl ?_
        refine wpC_seq_k (fun K hK14 => ?_)
        refine wpC_region ?_
        refine wpS_quick 1 rfl ?_
        refine wpS_nil ?_
        refine QH_seq_k hK14 ?_
        refine wpC_ret ?_
        refine QH_then_ret ?_
        refine QH_ret rfl (RV.tmp rfl RV.nil) rfl ?_
        obtain rfl := Option.some.inj H
        replace hS := hS.cut 0
        exact ⟨rfl, hS⟩
      · replace H := cond_f H hb
        refine wpS_put rfl rfl rfl (yv_fieldAddr fo_23_1 rfl) ?_
        refine wpS_put rfl rfl rfl (yv_load_box sc_3 rfl (RW.here _) hS hs0 trivial sg1_1) ?_
        refine wpS_put rfl rfl rfl (yv_eql rfl rfl) ?_
        refine wpS_put rfl rfl rfl (yv_fieldAddr fo_23_0 rfl) ?_
        refine wpS_put rfl rfl rfl (yv_load_box sc_3 rfl (RW.here _) hS hs0 trivial sg0_1) ?_
        refine wpS_put rfl rfl rfl (yv_eql rfl rfl) ?_
        refine wpS_put rfl rfl rfl (yv_neqB (by kernel_rfl) rfl rfl) ?_
        refine wpS_quick 2 rfl ?_
        refine wpS_case 28 rfl (fun hb => ?_) (fun hb => ?_)
        · replace H := cond_t H hb
          refine wpS_quick 18 rfl ?_
          refine wpS_nil ?_
          refine QH_seq_k hK5 ?_
          refine wpC_cond_t rfl rfl ?_
          refine wpC_seq_k (fun K hK15 => ?_)
          refine wpC_region ?_
          refine wpS_quick 1 rfl ?_
          refine wpS_nil ?_
          refine QH_seq_k hK15 ?_
          refine wpC_ret ?_
          refine QH_then_ret ?_
          refine QH_ret rfl (RV.tmp rfl RV.nil) rfl ?_
          obtain rfl := Option.some.inj H
          replace hS := hS.cut 0
          exact ⟨rfl, hS⟩
        · replace H := cond_f H hb
          refine wpS_put rfl rfl rfl (yv_fieldAddr fo_23_3 rfl) ?_
          refine wpS_put rfl rfl rfl (yv_load_box sc_3 rfl (RW.here _) hS hs0 trivial sg3_1) ?_
          refine wpS_put rfl rfl rfl (yv_neq rfl rfl) ?_
          refine wpS_quick 1 rfl ?_
          refine wpS_case 32 rfl (fun hb => ?_) (fun hb => ?_)
          · replace H := cond_t H hb
            refine wpS_put rfl rfl rfl (yv_fieldAddr fo_23_3 rfl) ?_
            refine wpS_put rfl rfl rfl (yv_load_box sc_3 rfl (RW.here _) hS hs0 trivial sg3_1) ?_
            refine wpS_put rfl rfl rfl (yv_neq rfl rfl) ?_
            refine wpS_quick 3 rfl ?_
            refine wpS_case 38 rfl (fun hb => ?_) (fun hb => ?_)
            · replace H := cond_t H hb
              refine wpS_quick 8 rfl ?_
              refine wpS_nil ?_
              refine QH_seq_k hK5 ?_
              refine wpC_cond_t rfl rfl ?_
              refine wpC_seq_k (fun K hK16 => ?_)
              refine wpC_region ?_
              refine wpS_quick 1 rfl ?_
              refine wpS_nil ?_
              refine QH_seq_k hK16 ?_
              refine wpC_ret ?_
              refine QH_then_ret ?_
              refine QH_ret rfl (RV.tmp rfl RV.nil) rfl ?_
              obtain rfl := Option.some.inj H
              replace hS := hS.cut 0
              exact ⟨rfl, hS⟩
            · replace H := cond_f H hb
              refine wpS_put rfl rfl rfl (yv_fieldAddr fo_23_4 rfl) ?_
              refine wpS_put rfl rfl rfl (yv_load_box sc_4 rfl (RW.here _) hS hs0 trivial sg4_1) ?_
              refine wpS_quick 1 rfl ?_
              refine wpS_case 41 rfl (fun hb => ?_) (fun hb => ?_)
              · replace H := cond_t H hb
                refine wpS_put rfl rfl rfl (yv_fieldAddr fo_23_3 rfl) ?_
                refine wpS_put rfl rfl rfl (yv_load_box sc_3 rfl (RW.here _) hS hs0 trivial sg3_1) ?_
                refine wpS_put rfl rfl rfl (yv_neq rfl rfl) ?_
                refine wpS_quick 2 rfl ?_
                refine wpS_nil ?_
                refine QH_seq_k hK5 ?_
                refine wpC_cond rfl (fun hb => ?_) (fun hb => ?_)
                · replace H := cond_t H hb
                  refine wpC_seq_k (fun K hK17 => ?_)
                  refine wpC_region ?_
                  refine wpS_quick 1 rfl ?_
                  refine wpS_nil ?_
                  refine QH_seq_k hK17 ?_
                  refine wpC_ret ?_
                  refine QH_then_ret ?_
                  refine QH_ret rfl (RV.tmp rfl RV.nil) rfl ?_
                  obtain rfl := Option.some.inj H
                  replace hS := hS.cut 0
                  exact ⟨rfl, hS⟩
                · replace H := cond_f H hb
                  refine wpC_skip ?_
                  refine QH_seq_k hK4 ?_
                  refine wpC_seq_k (fun K hK18 => ?_)
                  refine wpC_draw 9 [] (fun _ _ => True) ⟨by kernel_rfl, by kernel_rfl⟩ hS (fun w hS hB => ?_)
                  refine wpR_batch [true, true, true, true] (by decide +kernel) (by repeat (first | exact PF.body | exact PF.round | apply PF.then | apply PF.inBlock | apply PF.jump)) ?_
                  refine LtK.put rfl rfl rfl (yv_fieldAddr fo_23_0 rfl) ?_
                  refine LtK.put rfl rfl rfl (yv_load_box sc_3 rfl (RW.below _) hS hs0 trivial sg0_1) ?_
                  refine LtK.put rfl rfl rfl (yv_gtr rfl rfl) ?_
                  refine LtK.put rfl rfl rfl (yv_move rfl) ?_
                  refine LtK.nil ?_
                  refine wpR_case 50 rfl (fun hb => ?_) (fun hb => ?_)
                  · replace H := cond_t H hb
                    refine wpR_batch [false, false, false, false, true] (by decide +kernel) (by repeat (first | exact PF.body | exact PF.round | apply PF.then | apply PF.inBlock | apply PF.jump)) ?_
                    refine LtK.skip rfl rfl rfl ?_
                    refine LtK.nil ?_
                    refine wpR_call [false, false, false, false, false, true] 5 ⟨by decide, by kernel_rfl, by kernel_rfl⟩ rfl rfl ?_
                    dsimp only [pickL]
                    refine wpS_skip rfl rfl rfl ?_
                    refine wpS_nil ?_
                    refine QH_step (Below.refl _ _) ?_
                    refine wpR_batch [false, false, false, false, false, false, true, true, true] (by decide +kernel) (by repeat (first | exact PF.body | exact PF.round | apply PF.then | apply PF.inBlock | apply PF.jump)) ?_
                    refine LtK.skip rfl rfl rfl ?_
                    refine LtK.put rfl rfl rfl (yv_pick_t rfl rfl rfl) ?_
                    refine LtK.put rfl rfl rfl (yv_assign rfl) ?_
                    refine LtK.nil ?_
                    refine wpR_end (by kernel_rfl) ?_
                    refine QH_seq_k hK18 ?_
                    refine wpC_ret ?_
                    refine QH_ret rfl (RV.tmp rfl RV.nil) rfl ?_
                    obtain rfl := Option.some.inj H
                    replace hS := hS.cut 0
                    exact ⟨rfl, hS⟩
                  · replace H := cond_f H hb
                    refine wpR_batch [false, false, false, false, true] (by decide +kernel) (by repeat (first | exact PF.body | exact PF.round | apply PF.then | apply PF.inBlock | apply PF.jump)) ?_
                    refine LtK.put rfl rfl rfl (yv_load_boxA ag_23 rfl (RW.below _) hS hs0 trivial sg0_5) ?_
                    refine LtK.nil ?_
                    refine wpR_call [false, false, false, false, false, true] 5 ⟨by decide, by kernel_rfl, by kernel_rfl⟩ rfl rfl ?_
                    dsimp only [pickL]
                    obtain ⟨r19, hm20, H⟩ := bind_some H
                    refine wpS_call rfl rfl rfl rfl (by kernel_rfl) rfl (c_ref06_First _ hm20) ?_
                    rintro e w ⟨rfl, hN⟩; refine ⟨_, rfl, ?_⟩; have hB := hN.pure; have hS := hS.join hN; clear hN
                    refine wpS_nil ?_
                    refine QH_step hB ?_
                    refine wpR_batch [false, false, false, false, false, false, true, true, true] (by decide +kernel) (by repeat (first | exact PF.body | exact PF.round | apply PF.then | apply PF.inBlock | apply PF.jump)) ?_
                    refine LtK.put rfl rfl rfl (yv_eqlS (by kernel_rfl) rfl rfl (eqT_23 _ _ _ _ _ _ _ _ _ _)) ?_
                    refine LtK.put rfl rfl rfl (yv_pick_f rfl rfl rfl) ?_
                    refine LtK.put rfl rfl rfl (yv_assign rfl) ?_
                    refine LtK.nil ?_
                    refine wpR_end (by kernel_rfl) ?_
                    refine QH_seq_k hK18 ?_
                    refine wpC_ret ?_
                    refine QH_ret rfl (RV.tmp rfl RV.nil) rfl ?_
                    obtain rfl := Option.some.inj H
                    replace hS := hS.cut 0
                    exact ⟨rfl, hS⟩
              · replace H := cond_f H hb
                refine wpS_quick 5 rfl ?_
                refine wpS_nil ?_
                refine QH_seq_k hK5 ?_
                refine wpC_cond_f rfl rfl ?_
                refine wpC_skip ?_
                refine QH_seq_k hK4 ?_
                refine wpC_seq_k (fun K hK21 => ?_)
                refine wpC_draw 9 [] (fun _ _ => True) ⟨by kernel_rfl, by kernel_rfl⟩ hS (fun w hS hB => ?_)
                refine wpR_batch [true, true, true, true] (by decide +kernel) (by repeat (first | exact PF.body | exact PF.round | apply PF.then | apply PF.inBlock | apply PF.jump)) ?_
                refine LtK.put rfl rfl rfl (yv_fieldAddr fo_23_0 rfl) ?_
                refine LtK.put rfl rfl rfl (yv_load_box sc_3 rfl (RW.below _) hS hs0 trivial sg0_1) ?_
                refine LtK.put rfl rfl rfl (yv_gtr rfl rfl) ?_
                refine LtK.put rfl rfl rfl (yv_move rfl) ?_
                refine LtK.nil ?_
                refine wpR_case 50 rfl (fun hb => ?_) (fun hb => ?_)
                · replace H := cond_t H hb
                  refine wpR_batch [false, false, false, false, true] (by decide +kernel) (by repeat (first | exact PF.body | exact PF.round | apply PF.then | apply PF.inBlock | apply PF.jump)) ?_
                  refine LtK.skip rfl rfl rfl ?_
                  refine LtK.nil ?_
                  refine wpR_call [false, false, false, false, false, true] 5 ⟨by decide, by kernel_rfl, by kernel_rfl⟩ rfl rfl ?_
                  dsimp only [pickL]
                  refine wpS_skip rfl rfl rfl ?_
                  refine wpS_nil ?_
                  refine QH_step (Below.refl _ _) ?_
                  refine wpR_batch [false, false, false, false, false, false, true, true, true] (by decide +kernel) (by repeat (first | exact PF.body | exact PF.round | apply PF.then | apply PF.inBlock | apply PF.jump)) ?_
                  refine LtK.skip rfl rfl rfl ?_
                  refine LtK.put rfl rfl rfl (yv_pick_t rfl rfl rfl) ?_
                  refine LtK.put rfl rfl rfl (yv_assign rfl) ?_
                  refine LtK.nil ?_
                  refine wpR_end (by kernel_rfl) ?_
                  refine QH_seq_k hK21 ?_
                  refine wpC_ret ?_
                  refine QH_ret rfl (RV.tmp rfl RV.nil) rfl ?_
                  obtain rfl := Option.some.inj H
                  replace hS := hS.cut 0
                  exact ⟨rfl, hS⟩
                · replace H := cond_f H hb
                  refine wpR_batch [false, false, false, false, true] (by decide +kernel) (by repeat (first | exact PF.body | exact PF.round | apply PF.then | apply PF.inBlock | apply PF.jump)) ?_
                  refine LtK.put rfl rfl rfl (yv_load_boxA ag_23 rfl (RW.below _) hS hs0 trivial sg0_5) ?_
                  refine LtK.nil ?_
                  refine wpR_call [false, false, false, false, false, true] 5 ⟨by decide, by kernel_rfl, by kernel_rfl⟩ rfl rfl ?_
                  dsimp only [pickL]
                  obtain ⟨r22, hm23, H⟩ := bind_some H
                  refine wpS_call rfl rfl rfl rfl (by kernel_rfl) rfl (c_ref06_First _ hm23) ?_
                  rintro e w ⟨rfl, hN⟩; refine ⟨_, rfl, ?_⟩; have hB := hN.pure; have hS := hS.join hN; clear hN
                  refine wpS_nil ?_
                  refine QH_step hB ?_
                  refine wpR_batch [false, false, false, false, false, false, true, true, true] (by decide +kernel) (by repeat (first | exact PF.body | exact PF.round | apply PF.then | apply PF.inBlock | apply PF.jump)) ?_
                  refine LtK.put rfl rfl rfl (yv_eqlS (by kernel_rfl) rfl rfl (eqT_23 _ _ _ _ _ _ _ _ _ _)) ?_
                  refine LtK.put rfl rfl rfl (yv_pick_f rfl rfl rfl) ?_
                  refine LtK.put rfl rfl rfl (yv_assign rfl) ?_
                  refine LtK.nil ?_
                  refine wpR_end (by kernel_rfl) ?_
                  refine QH_seq_k hK21 ?_
                  refine wpC_ret ?_
                  refine QH_ret rfl (RV.tmp rfl RV.nil) rfl ?_
                  obtain rfl := Option.some.inj H
                  replace hS := hS.cut 0
                  exact ⟨rfl, hS⟩
          · replace H := cond_f H hb
            refine wpS_quick 6 rfl ?_
            refine wpS_put rfl rfl rfl (yv_fieldAddr fo_23_4 rfl) ?_
            refine wpS_put rfl rfl rfl (yv_load_box sc_4 rfl (RW.here _) hS hs0 trivial sg4_1) ?_
            refine wpS_quick 1 rfl ?_
            refine wpS_case 41 rfl (fun hb => ?_) (fun hb => ?_)
            · replace H := cond_t H hb
              refine wpS_put rfl rfl rfl (yv_fieldAddr fo_23_3 rfl) ?_
              refine wpS_put rfl rfl rfl (yv_load_box sc_3 rfl (RW.here _) hS hs0 trivial sg3_1) ?_
              refine wpS_put rfl rfl rfl (yv_neq rfl rfl) ?_
              refine wpS_quick 2 rfl ?_
              refine wpS_nil ?_
              refine QH_seq_k hK5 ?_
              refine wpC_cond rfl (fun hb => ?_) (fun hb => ?_)
              · replace H := cond_t H hb
                refine wpC_seq_k (fun K hK24 => ?_)
                refine wpC_region ?_
                refine wpS_quick 1 rfl ?_
                refine wpS_nil ?_
                refine QH_seq_k hK24 ?_
                refine wpC_ret ?_
                refine QH_then_ret ?_
                refine QH_ret rfl (RV.tmp rfl RV.nil) rfl ?_
                obtain rfl := Option.some.inj H
                replace hS := hS.cut 0
                exact ⟨rfl, hS⟩
              · replace H := cond_f H hb
                refine wpC_skip ?_
                refine QH_seq_k hK4 ?_
                refine wpC_seq_k (fun K hK25 => ?_)
                refine wpC_draw 9 [] (fun _ _ => True) ⟨by kernel_rfl, by kernel_rfl⟩ hS (fun w hS hB => ?_)
                refine wpR_batch [true, true, true, true] (by decide +kernel) (by repeat (first | exact PF.body | exact PF.round | apply PF.then | apply PF.inBlock | apply PF.jump)) ?_
                refine LtK.put rfl rfl rfl (yv_fieldAddr fo_23_0 rfl) ?_
                refine LtK.put rfl rfl rfl (yv_load_box sc_3 rfl (RW.below _) hS hs0 trivial sg0_1) ?_
                refine LtK.put rfl rfl rfl (yv_gtr rfl rfl) ?_
                refine LtK.put rfl rfl rfl (yv_move rfl) ?_
                refine LtK.nil ?_
                refine wpR_case 50 rfl (fun hb => ?_) (fun hb => ?_)
                · replace H := cond_t H hb
                  refine wpR_batch [false, false, false, false, true] (by decide +kernel) (by repeat (first | exact PF.body | exact PF.round | apply PF.then | apply PF.inBlock | apply PF.jump)) ?_
                  refine LtK.skip rfl rfl rfl ?_
                  refine LtK.nil ?_
                  refine wpR_call [false, false, false, false, false, true] 5 ⟨by decide, by kernel_rfl, by kernel_rfl⟩ rfl rfl ?_
                  dsimp only [pickL]
                  refine wpS_skip rfl rfl rfl ?_
                  refine wpS_nil ?_
                  refine QH_step (Below.refl _ _) ?_
                  refine wpR_batch [false, false, false, false, false, false, true, true, true] (by decide +kernel) (by repeat (first | exact PF.body | exact PF.round | apply PF.then | apply PF.inBlock | apply PF.jump)) ?_
                  refine LtK.skip rfl rfl rfl ?_
                  refine LtK.put rfl rfl rfl (yv_pick_t rfl rfl rfl) ?_
                  refine LtK.put rfl rfl rfl (yv_assign rfl) ?_
                  refine LtK.nil ?_
                  refine wpR_end (by kernel_rfl) ?_
                  refine QH_seq_k hK25 ?_
                  refine wpC_ret ?_
                  refine QH_ret rfl (RV.tmp rfl RV.nil) rfl ?_
                  obtain rfl := Option.some.inj H
                  replace hS := hS.cut 0
                  exact ⟨rfl, hS⟩
                · replace H := cond_f H hb
                  refine wpR_batch [false, false, false, false, true] (by decide +kernel) (by repeat (first | exact PF.body | exact PF.round | apply PF.then | apply PF.inBlock | apply PF.jump)) ?_
                  refine LtK.put rfl rfl rfl (yv_load_boxA ag_23 rfl (RW.below _) hS hs0 trivial sg0_5) ?_
                  refine LtK.nil ?_
                  refine wpR_call [false, false, false, false, false, true] 5 ⟨by decide, by kernel_rfl, by kernel_rfl⟩ rfl rfl ?_
                  dsimp only [pickL]
                  obtain ⟨r26, hm27, H⟩ := bind_some H
                  refine wpS_call rfl rfl rfl rfl (by kernel_rfl) rfl (c_ref06_First _ hm27) ?_
                  rintro e w ⟨rfl, hN⟩; refine ⟨_, rfl, ?_⟩; have hB := hN.pure; have hS := hS.join hN; clear hN
                  refine wpS_nil ?_
                  refine QH_step hB ?_
                  refine wpR_batch [false, false, false, false, false, false, true, true, true] (by decide +kernel) (by repeat (first | exact PF.body | exact PF.round | apply PF.then | apply PF.inBlock | apply PF.jump)) ?_
                  refine LtK.put rfl rfl rfl (yv_eqlS (by kernel_rfl) rfl rfl (eqT_23 _ _ _ _ _ _ _ _ _ _)) ?_
                  refine LtK.put rfl rfl rfl (yv_pick_f rfl rfl rfl) ?_
                  refine LtK.put rfl rfl rfl (yv_assign rfl) ?_
                  refine LtK.nil ?_
                  refine wpR_end (by kernel_rfl) ?_
                  refine QH_seq_k hK25 ?_
                  refine wpC_ret ?_
                  refine QH_ret rfl (RV.tmp rfl RV.nil) rfl ?_
                  obtain rfl := Option.some.inj H
                  replace hS := hS.cut 0
                  exact ⟨rfl, hS⟩
            · replace H := cond_f H hb
              refine wpS_quick 5 rfl ?_
              refine wpS_nil ?_
              refine QH_seq_k hK5 ?_
              refine wpC_cond_f rfl rfl ?_
              refine wpC_skip ?_
              refine QH_seq_k hK4 ?_
              refine wpC_seq_k (fun K hK28 => ?_)
              refine wpC_draw 9 [] (fun _ _ => True) ⟨by kernel_rfl, by kernel_rfl⟩ hS (fun w hS hB => ?_)
              refine wpR_batch [true, true, true, true] (by decide +kernel) (by repeat (first | exact PF.body | exact PF.round | apply PF.then | apply PF.inBlock | apply PF.jump)) ?_
              refine LtK.put rfl rfl rfl (yv_fieldAddr fo_23_0 rfl) ?_
              refine LtK.put rfl rfl rfl (yv_load_box sc_3 rfl (RW.below _) hS hs0 trivial sg0_1) ?_
              refine LtK.put rfl rfl rfl (yv_gtr rfl rfl) ?_
              refine LtK.put rfl rfl rfl (yv_move rfl) ?_
              refine LtK.nil ?_
              refine wpR_case 50 rfl (fun hb => ?_) (fun hb => ?_)
              · replace H := cond_t H hb
                refine wpR_batch [false, false, false, false, true] (by decide +kernel) (by repeat (first | exact PF.body | exact PF.round | apply PF.then | apply PF.inBlock | apply PF.jump)) ?_
                refine LtK.skip rfl rfl rfl ?_
                refine LtK.nil ?_
                refine wpR_call [false, false, false, false, false, true] 5 ⟨by decide, by kernel_rfl, by kernel_rfl⟩ rfl rfl ?_
                dsimp only [pickL]
                refine wpS_skip rfl rfl rfl ?_
                refine wpS_nil ?_
                refine QH_step (Below.refl _ _) ?_
                refine wpR_batch [false, false, false, false, false, false, true, true, true] (by decide +kernel) (by repeat (first | exact PF.body | exact PF.round | apply PF.then | apply PF.inBlock | apply PF.jump)) ?_
                refine LtK.skip rfl rfl rfl ?_
                refine LtK.put rfl rfl rfl (yv_pick_t rfl rfl rfl) ?_
                refine LtK.put rfl rfl rfl (yv_assign rfl) ?_
                refine LtK.nil ?_
                refine wpR_end (by kernel_rfl) ?_
                refine QH_seq_k hK28 ?_
                refine wpC_ret ?_
                refine QH_ret rfl (RV.tmp rfl RV.nil) rfl ?_
                obtain rfl := Option.some.inj H
                replace hS := hS.cut 0
                exact ⟨rfl, hS⟩
              · replace H := cond_f H hb
                refine wpR_batch [false, false, false, false, true] (by decide +kernel) (by repeat (first | exact PF.body | exact PF.round | apply PF.then | apply PF.inBlock | apply PF.jump)) ?_
                refine LtK.put rfl rfl rfl (yv_load_boxA ag_23 rfl (RW.below _) hS hs0 trivial sg0_5) ?_
                refine LtK.nil ?_
                refine wpR_call [false, false, false, false, false, true] 5 ⟨by decide, by kernel_rfl, by kernel_rfl⟩ rfl rfl ?_
                dsimp only [pickL]
                obtain ⟨r29, hm30, H⟩ := bind_some H
                refine wpS_call rfl rfl rfl rfl (by kernel_rfl) rfl (c_ref06_First _ hm30) ?_
                rintro e w ⟨rfl, hN⟩; refine ⟨_, rfl, ?_⟩; have hB := hN.pure; have hS := hS.join hN; clear hN
                refine wpS_nil ?_
                refine QH_step hB ?_
                refine wpR_batch [false, false, false, false, false, false, true, true, true] (by decide +kernel) (by repeat (first | exact PF.body | exact PF.round | apply PF.then | apply PF.inBlock | apply PF.jump)) ?_
                refine LtK.put rfl rfl rfl (yv_eqlS (by kernel_rfl) rfl rfl (eqT_23 _ _ _ _ _ _ _ _ _ _)) ?_
                refine LtK.put rfl rfl rfl (yv_pick_f rfl rfl rfl) ?_
                refine LtK.put rfl rfl rfl (yv_assign rfl) ?_
                refine LtK.nil ?_
                refine wpR_end (by kernel_rfl) ?_
                refine QH_seq_k hK28 ?_
                refine wpC_ret ?_
                refine QH_ret rfl (RV.tmp rfl RV.nil) rfl ?_
                obtain rfl := Option.some.inj H
                replace hS := hS.cut 0
                exact ⟨rfl, hS⟩
theorem c_ref06_Right (x0 : En) (w0 : World) {r : Bool} (H : m_ref06_Right x0 = some r) : Calls Try.prog 38 #[.agg #[.int .i64 x0.term, .int .i64 x0.kind, .int .i64 x0.value]] w0 fun e w' => e = .returned (.bool r) ∧ St0 All w0 w' [] := by
  unfold m_ref06_Right at H
  refine gw_enter1 Try.func38 rfl Try.ntmps38 rfl ?_
  have hS := St0.start All w0
  refine wpC_seq_k (fun K hK1 => ?_)
  refine wpC_region ?_
  refine wpS_box rfl rfl rfl CellsOf.agg hS (fun b2 w hS hB => ?_)
  refine wpS_quick 1 rfl ?_
  refine wpS_nil ?_
  refine QH_seq_k hK1 ?_
  refine wpC_seq_k (fun K hK4 => ?_)
  refine wpC_region ?_
  refine wpS_put rfl rfl rfl (yv_fieldAddr fo_50_0 rfl) ?_
  refine wpS_put rfl rfl rfl (yv_load_box sc_3 rfl (RW.here _) hS hs0 trivial sg0_1) ?_
  refine wpS_put rfl rfl rfl (yv_geq rfl rfl) ?_
  refine wpS_quick 1 rfl ?_
  refine wpS_case 6 rfl (fun hb => ?_) (fun hb => ?_)
  · replace H := cond_t H hb
    refine wpS_put rfl rfl rfl (yv_fieldAddr fo_50_0 rfl) ?_
    refine wpS_put rfl rfl rfl (yv_load_box sc_3 rfl (RW.here _) hS hs0 trivial sg0_1) ?_
    obtain ⟨r5, hm6, H⟩ := bind_some H
    refine wpS_call rfl rfl rfl rfl (by kernel_rfl) rfl (c_ref06_number x0.term _ hm6) ?_
    rintro e w ⟨rfl, hN⟩; refine ⟨_, rfl, ?_⟩; have hB := hN.pure; have hS := hS.join hN; clear hN
    refine wpS_quick 2 rfl ?_
    refine wpS_case 11 rfl (fun hb => ?_) (fun hb => ?_)
    · replace H := cond_t H hb
      refine wpS_put rfl rfl rfl (yv_fieldAddr fo_50_1 rfl) ?_
      refine wpS_put rfl rfl rfl (yv_load_box sc_3 rfl (RW.here _) hS hs0 trivial sg1_1) ?_
      refine wpS_put rfl rfl rfl (yv_geq rfl rfl) ?_
      refine wpS_quick 2 rfl ?_
      refine wpS_case 16 rfl (fun hb => ?_) (fun hb => ?_)
      · replace H := cond_t H hb
        refine wpS_put rfl rfl rfl (yv_fieldAddr fo_50_1 rfl) ?_
        refine wpS_put rfl rfl rfl (yv_load_box sc_3 rfl (RW.here _) hS hs0 trivial sg1_1) ?_
        refine wpS_put rfl rfl rfl (yv_lss rfl rfl) ?_
        refine wpS_quick 2 rfl ?_
        refine wpS_case 21 rfl (fun hb => ?_) (fun hb => ?_)
        · replace H := cond_t H hb
          refine wpS_put rfl rfl rfl (yv_fieldAddr fo_50_2 rfl) ?_
          refine wpS_put rfl rfl rfl (yv_load_box sc_3 rfl (RW.here _) hS hs0 trivial sg2_1) ?_
          obtain ⟨r7, hm8, H⟩ := bind_some H
          refine wpS_call rfl rfl rfl rfl (by kernel_rfl) rfl (c_ref06_number x0.value _ hm8) ?_
          rintro e w ⟨rfl, hN⟩; refine ⟨_, rfl, ?_⟩; have hB := hN.pure; have hS := hS.join hN; clear hN
          refine wpS_quick 2 rfl ?_
          refine wpS_case 26 rfl (fun hb => ?_) (fun hb => ?_)
          · replace H := cond_t H hb
            refine wpS_put rfl rfl rfl (yv_fieldAddr fo_50_1 rfl) ?_
            refine wpS_put rfl rfl rfl (yv_load_box sc_3 rfl (RW.here _) hS hs0 trivial sg1_1) ?_
            refine wpS_put rfl rfl rfl (yv_eql rfl rfl) ?_
            refine wpS_quick 1 rfl ?_
            refine wpS_case 30 rfl (fun hb => ?_) (fun hb => ?_)
            · replace H := cond_t H hb
              refine wpS_quick 6 rfl ?_
              refine wpS_nil ?_
              refine QH_seq_k hK4 ?_
              refine wpC_ret ?_
              refine QH_ret rfl (RV.tmp rfl RV.nil) rfl ?_
              obtain rfl := Option.some.inj H
              replace hS := hS.cut 0
              exact ⟨rfl, hS⟩
            · replace H := cond_f H hb
              refine wpS_put rfl rfl rfl (yv_fieldAddr fo_50_2 rfl) ?_
              refine wpS_put rfl rfl rfl (yv_load_box sc_3 rfl (RW.here _) hS hs0 trivial sg2_1) ?_
              refine wpS_put rfl rfl rfl (yv_eql rfl rfl) ?_
              refine wpS_quick 3 rfl ?_
              refine wpS_nil ?_
              refine QH_seq_k hK4 ?_
              refine wpC_ret ?_
              refine QH_ret rfl (RV.tmp rfl RV.nil) rfl ?_
              obtain rfl := Option.some.inj H
              replace hS := hS.cut 0
              exact ⟨rfl, hS⟩
          · replace H := cond_f H hb
            refine wpS_quick 10 rfl ?_
            refine wpS_nil ?_
            refine QH_seq_k hK4 ?_
            refine wpC_ret ?_
            refine QH_ret rfl (RV.tmp rfl RV.nil) rfl ?_
            obtain rfl := Option.some.inj H
            replace hS := hS.cut 0
            exact ⟨rfl, hS⟩
        · replace H := cond_f H hb
          refine wpS_quick 15 rfl ?_
          refine wpS_nil ?_
          refine QH_seq_k hK4 ?_
          refine wpC_ret ?_
          refine QH_ret rfl (RV.tmp rfl RV.nil) rfl ?_
          obtain rfl := Option.some.inj H
          replace hS := hS.cut 0
          exact ⟨rfl, hS⟩
      · replace H := cond_f H hb
        refine wpS_quick 20 rfl ?_
        refine wpS_nil ?_
        refine QH_seq_k hK4 ?_
        refine wpC_ret ?_
        refine QH_ret rfl (RV.tmp rfl RV.nil) rfl ?_
        obtain rfl := Option.some.inj H
        replace hS := hS.cut 0
        exact ⟨rfl, hS⟩
    · replace H := cond_f H hb
      refine wpS_quick 25 rfl ?_
      refine wpS_nil ?_
      refine QH_seq_k hK4 ?_
      refine wpC_ret ?_
      refine QH_ret rfl (RV.tmp rfl RV.nil) rfl ?_
      obtain rfl := Option.some.inj H
      replace hS := hS.cut 0
      exact ⟨rfl, hS⟩
  · replace H := cond_f H hb
    refine wpS_quick 30 rfl ?_
    refine wpS_nil ?_
    refine QH_seq_k hK4 ?_
    refine wpC_ret ?_
    refine QH_ret rfl (RV.tmp rfl RV.nil) rfl ?_
    obtain rfl := Option.some.inj H
    replace hS := hS.cut 0
    exact ⟨rfl, hS⟩
theorem c_ref12_Right (x0 : Tu) (A0_ : Option Addr) (c0_ : Nat) (w0 : World) (s0_ : SlI w0 enE A0_ c0_ x0.log) {r : Bool} (H : m_ref12_Right x0 = some r) : Calls Try.prog 8 #[.agg #[.int .i64 x0.snap.index, .int .i64 x0.snap.term, .int .i64 x0.snap.sum, .int .i64 x0.snap.level, .bool x0.snap.final, .slice A0_ x0.log.length c0_, .int .i64 x0.term, .int .i64 x0.vote]] w0 fun e w' => e = .returned (.bool r) ∧ St0 All w0 w' [] := by
  unfold m_ref12_Right at H
  refine gw_enter1 Try.func8 rfl Try.ntmps8 rfl ?_
  have hS := St0.start All w0
  refine wpC_seq_k (fun K hK1 => ?_)
  refine wpC_region ?_
  refine wpS_box rfl rfl rfl CellsOf.agg hS (fun b2 w hS hB => ?_)
  refine wpS_quick 1 rfl ?_
  refine wpS_nil ?_
  refine QH_seq_k hK1 ?_
  refine wpC_seq_k (fun K hK4 => ?_)
  refine wpC_seq_k (fun K hK5 => ?_)
  refine wpC_region ?_
  refine wpS_put rfl rfl rfl (yv_fieldAddr fo_26_0 rfl) ?_
  refine wpS_put rfl rfl rfl (yv_load_boxA ag_23 rfl (RW.here _) hS hs0 trivial sg0_5) ?_
  obtain ⟨r6, hm7, H⟩ := bind_some H
  refine wpS_call rfl rfl rfl rfl (by kernel_rfl) rfl (c_ref06_Fine x0.snap _ hm7) ?_
  rintro e w ⟨rfl, hN⟩; refine ⟨_, rfl, ?_⟩; have hB := hN.pure; have hS := hS.join hN; clear hN
  refine wpS_put rfl rfl rfl (yv_not rfl) ?_
  refine wpS_quick 1 rfl ?_
  refine wpS_case 9 rfl (fun hb => ?_) (fun hb => ?_)
  · replace H := cond_t H hb
    refine wpS_quick 21 rfl ?_
    refine wpS_nil ?_
    refine QH_seq_k hK5 ?_
    refine wpC_cond_t rfl rfl ?_
    refine wpC_seq_k (fun K hK8 => ?_)
    refine wpC_region ?_
    refine wpS_quick 1 rfl ?_
    refine wpS_nil ?_
    refine QH_seq_k hK8 ?_
    refine wpC_ret ?_
    refine QH_then_ret ?_
    refine QH_ret rfl (RV.tmp rfl RV.nil) rfl ?_
    obtain rfl := Option.some.inj H
    replace hS := hS.cut 0
    exact ⟨rfl, hS⟩
  · replace H := cond_f H hb
    refine wpS_put rfl rfl rfl (yv_fieldAddr fo_26_0 rfl) ?_
    refine wpS_put rfl rfl rfl (yv_fieldAddr fo_23_0 rfl) ?_
    refine wpS_put rfl rfl rfl (yv_load_box sc_3 rfl (RW.here _) hS hs0 trivial sg0_1) ?_
    refine wpS_put rfl rfl rfl (yv_gtr rfl rfl) ?_
    refine wpS_quick 2 rfl ?_
    refine wpS_case 15 rfl (fun hb => ?_) (fun hb => ?_)
    · replace H := cond_t H hb
      refine wpS_quick 15 rfl ?_
      refine wpS_nil ?_
      refine QH_seq_k hK5 ?_
      refine wpC_cond_t rfl rfl ?_
      refine wpC_seq_k (fun K hK9 => ?_)
      refine wpC_region ?_
      refine wpS_quick 1 rfl ?_
      refine wpS_nil ?_
      refine QH_seq_k hK9 ?_
      refine wpC_ret ?_
      refine QH_then_ret ?_
      refine QH_ret rfl (RV.tmp rfl RV.nil) rfl ?_
      obtain rfl := Option.some.inj H
      replace hS := hS.cut 0
      exact ⟨rfl, hS⟩
    · replace H := cond_f H hb
      refine wpS_put rfl rfl rfl (yv_fieldAddr fo_26_1 rfl) ?_
      refine wpS_put rfl rfl rfl (yv_load_box sc_24 rfl (RW.here _) hS hs0 trivial sg5_1) ?_
      refine wpS_put rfl rfl rfl (yv_len el_24 rfl) ?_
      refine wpS_put rfl rfl rfl (yv_gtr rfl rfl) ?_
      refine wpS_quick 2 rfl ?_
      refine wpS_case 21 rfl (fun hb => ?_) (fun hb => ?_)
      · replace H := cond_t H hb
        refine wpS_quick 9 rfl ?_
        refine wpS_nil ?_
        refine QH_seq_k hK5 ?_
        refine wpC_cond_t rfl rfl ?_
        refine wpC_seq_k (fun K hK10 => ?_)
        refine wpC_region ?_
        refine wpS_quick 1 rfl ?_
        refine wpS_nil ?_
        refine QH_seq_k hK10 ?_
        refine wpC_ret ?_
        refine QH_then_ret ?_
        refine QH_ret rfl (RV.tmp rfl RV.nil) rfl ?_
        obtain rfl := Option.some.inj H
        replace hS := hS.cut 0
        exact ⟨rfl, hS⟩
      · replace H := cond_f H hb
        refine wpS_put rfl rfl rfl (yv_fieldAddr fo_26_3 rfl) ?_
        refine wpS_put rfl rfl rfl (yv_load_box sc_3 rfl (RW.here _) hS hs0 trivial sg7_1) ?_
        refine wpS_put rfl rfl rfl (yv_lss rfl rfl) ?_
        refine wpS_quick 2 rfl ?_
        refine wpS_case 26 rfl (fun hb => ?_) (fun hb => ?_)
        · replace H := cond_t H hb
          refine wpS_quick 4 rfl ?_
          refine wpS_nil ?_
          refine QH_seq_k hK5 ?_
          refine wpC_cond_t rfl rfl ?_
          refine wpC_seq_k (fun K hK11 => ?_)
          refine wpC_region ?_
          refine wpS_quick 1 rfl ?_
          refine wpS_nil ?_
          refine QH_seq_k hK11 ?_
          refine wpC_ret ?_
          refine QH_then_ret ?_
          refine QH_ret rfl (RV.tmp rfl RV.nil) rfl ?_
          obtain rfl := Option.some.inj H
          replace hS := hS.cut 0
          exact ⟨rfl, hS⟩
        · replace H := cond_f H hb
          refine wpS_put rfl rfl rfl (yv_fieldAddr fo_26_3 rfl) ?_
          refine wpS_put rfl rfl rfl (yv_load_box sc_3 rfl (RW.here _) hS hs0 trivial sg7_1) ?_
          refine wpS_put rfl rfl rfl (yv_gtr rfl rfl) ?_
          refine wpS_quick 1 rfl ?_
          refine wpS_nil ?_
          refine QH_seq_k hK5 ?_
          refine wpC_cond rfl (fun hb => ?_) (fun hb => ?_)
          · replace H := cond_t H hb
            refine wpC_seq_k (fun K hK12 => ?_)
            refine wpC_region ?_
            refine wpS_quick 1 rfl ?_
            refine wpS_nil ?_
            refine QH_seq_k hK12 ?_
            refine wpC_ret ?_
            refine QH_then_ret ?_
            refine QH_ret rfl (RV.tmp rfl RV.nil) rfl ?_
            obtain rfl := Option.some.inj H
            replace hS := hS.cut 0
            exact ⟨rfl, hS⟩
          · replace H := cond_f H hb
            refine wpC_skip ?_
            refine QH_seq_k hK4 ?_
            refine wpC_seq_k (fun K hK13 => ?_)
            refine wpC_region ?_
            refine wpS_put rfl rfl rfl (yv_fieldAddr fo_26_0 rfl) ?_
            refine wpS_put rfl rfl rfl (yv_fieldAddr fo_23_1 rfl) ?_
            refine wpS_put rfl rfl rfl (yv_load_box sc_3 rfl (RW.here _) hS hs0 trivial sg1_1) ?_
            refine wpS_quick 1 rfl ?_
            refine wpS_nil ?_
            refine QH_seq_k hK13 ?_
            refine wpC_seq_k (fun K hK14 => ?_)
            refine wpC_seq_k (fun K hK15 => ?_)
            refine wpC_region ?_
            refine wpS_quick 1 rfl ?_
            refine wpS_nil ?_
            refine QH_seq_k hK15 ?_
            refine wpC_block ?_
            refine wpC_loop (X := Nat × Bool × Int × Int) (fun x => [(1, .pointer (some ⟨b2, 0, none⟩)), (2, .bool x.2.1), (3, .int .i64 x.2.2.1), (4, .int .i64 x.2.2.2)]) (fun x w => St0 All w0 w [.box b2 [.int .i64 x0.snap.index, .int .i64 x0.snap.term, .int .i64 x0.snap.sum, .int .i64 x0.snap.level, .bool x0.snap.final, .slice A0_ x0.log.length c0_, .int .i64 x0.term, .int .i64 x0.vote] 26] ∧ m_ref12_Right_l1 x0 x.1 x.2.1 x.2.2.1 x.2.2.2 = some r) (fun x => x.1) (fuelN, false, x0.snap.term, 0) (by repeat (first | exact Sub.nil | refine Sub.cons rfl ?_)) ⟨hS, H⟩ ?_
            rintro ⟨n, v16, v17, v18⟩ w ⟨hS, H⟩
            dsimp only at hS H ⊢
            obtain _ | n := n
            · have H0 : none = some r := H
              cases H0
            rw [m_ref12_Right_l1] at H
            refine wpC_seq_k (fun K hK19 => ?_)
            refine wpC_seq_k (fun K hK20 => ?_)
            refine wpC_region ?_
            refine wpS_quick 1 rfl ?_
            refine wpS_put rfl rfl rfl (yv_fieldAddr fo_26_1 rfl) ?_
            refine wpS_put rfl rfl rfl (yv_load_box sc_24 rfl (RW.here _) hS hs0 trivial sg5_1) ?_
            refine wpS_put rfl rfl rfl (yv_len el_24 rfl) ?_
            refine wpS_put rfl rfl rfl (yv_lss rfl rfl) ?_
            refine wpS_nil ?_
            refine QH_seq_k hK20 ?_
            refine wpC_cond rfl (fun hb => ?_) (fun hb => ?_)
            · replace H := cond_t H hb
              refine wpC_skip ?_
              refine QH_seq_k hK19 ?_
              refine wpC_seq_k (fun K hK21 => ?_)
              refine wpC_block ?_
              refine wpC_seq_k (fun K hK22 => ?_)
              refine wpC_seq_k (fun K hK23 => ?_)
              refine wpC_region ?_
              refine wpS_put rfl rfl rfl (yv_fieldAddr fo_26_1 rfl) ?_
              refine wpS_put rfl rfl rfl (yv_load_box sc_24 rfl (RW.here _) hS hs0 trivial sg5_1) ?_
              refine wpS_quick 1 rfl ?_
              obtain ⟨e24, hi26, H⟩ := bind_some H
              obtain ⟨j25, hi26a, hi26b, hi26c⟩ := idx_some hi26
              refine wpS_put rfl rfl rfl (yx_idx el_24 rfl rfl hi26a hi26c (Rd.el (hS.rd0 s0_.rd) he_enE hi26b)) ?_
              refine wpS_put rfl rfl rfl (yx_ldA0 ag_50 rfl (RW.here _) (Rd.el (hS.rd0 s0_.rd) he_enE hi26b) sg0_3) ?_
              obtain ⟨r27, hm28, H⟩ := bind_some H
              refine wpS_call rfl rfl rfl rfl (by kernel_rfl) rfl (c_ref06_Right e24 _ hm28) ?_
              rintro e w ⟨rfl, hN⟩; refine ⟨_, rfl, ?_⟩; have hB := hN.pure; have hS := hS.join hN; clear hN
              refine wpS_put rfl rfl rfl (yv_not rfl) ?_
              refine wpS_quick 1 rfl ?_
              refine wpS_case 48 rfl (fun hb => ?_) (fun hb => ?_)
              · replace H := cond_t H hb
                refine wpS_quick 9 rfl ?_
                refine wpS_nil ?_
                refine QH_seq_k hK23 ?_
                refine wpC_cond_t rfl rfl ?_
                refine wpC_seq_k (fun K hK29 => ?_)
                refine wpC_region ?_
                refine wpS_quick 1 rfl ?_
                refine wpS_nil ?_
                refine QH_seq_k hK29 ?_
                refine wpC_ret ?_
                refine QH_then_ret ?_
                refine QH_block_ret ?_
                refine QH_then_ret ?_
                refine QH_then_ret ?_
                refine QH_block_ret ?_
                refine QH_then_ret ?_
                refine QH_ret rfl (RV.tmp rfl RV.nil) rfl ?_
                obtain rfl := Option.some.inj H
                replace hS := hS.cut 0
                exact ⟨rfl, hS⟩
              · replace H := cond_f H hb
                refine wpS_put rfl rfl rfl (yv_fieldAddr fo_26_1 rfl) ?_
                refine wpS_put rfl rfl rfl (yv_load_box sc_24 rfl (RW.here _) hS hs0 trivial sg5_1) ?_
                refine wpS_quick 1 rfl ?_
                obtain ⟨e30, hi32, H⟩ := bind_some H
                obtain ⟨j31, hi32a, hi32b, hi32c⟩ := idx_some hi32
                refine wpS_put rfl rfl rfl (yx_idx el_24 rfl rfl hi32a hi32c (Rd.el (hS.rd0 s0_.rd) he_enE hi32b)) ?_
                refine wpS_put rfl rfl rfl (yx_fieldAddr fo_50_0 rfl (Rd.el (hS.rd0 s0_.rd) he_enE hi32b)) ?_
                refine wpS_put rfl rfl rfl (yx_ld0 sc_3 rfl (RW.here _) (Rd.el (hS.rd0 s0_.rd) he_enE hi32b) rfl) ?_
                refine wpS_quick 1 rfl ?_
                refine wpS_put rfl rfl rfl (yv_lss rfl rfl) ?_
                refine wpS_quick 1 rfl ?_
                refine wpS_nil ?_
                refine QH_seq_k hK23 ?_
                refine wpC_cond rfl (fun hb => ?_) (fun hb => ?_)
                · replace H := cond_t H hb
                  refine wpC_seq_k (fun K hK33 => ?_)
                  refine wpC_region ?_
                  refine wpS_quick 1 rfl ?_
                  refine wpS_nil ?_
                  refine QH_seq_k hK33 ?_
                  refine wpC_ret ?_
                  refine QH_then_ret ?_
                  refine QH_block_ret ?_
                  refine QH_then_ret ?_
                  refine QH_then_ret ?_
                  refine QH_block_ret ?_
                  refine QH_then_ret ?_
                  refine QH_ret rfl (RV.tmp rfl RV.nil) rfl ?_
                  obtain rfl := Option.some.inj H
                  replace hS := hS.cut 0
                  exact ⟨rfl, hS⟩
                · replace H := cond_f H hb
                  refine wpC_skip ?_
                  refine QH_seq_k hK22 ?_
                  refine wpC_region ?_
                  refine wpS_put rfl rfl rfl (yv_fieldAddr fo_26_1 rfl) ?_
                  refine wpS_put rfl rfl rfl (yv_load_box sc_24 rfl (RW.here _) hS hs0 trivial sg5_1) ?_
                  refine wpS_quick 1 rfl ?_
                  obtain ⟨e34, hi36, H⟩ := bind_some H
                  obtain ⟨j35, hi36a, hi36b, hi36c⟩ := idx_some hi36
                  refine wpS_put rfl rfl rfl (yx_idx el_24 rfl rfl hi36a hi36c (Rd.el (hS.rd0 s0_.rd) he_enE hi36b)) ?_
                  refine wpS_put rfl rfl rfl (yx_fieldAddr fo_50_0 rfl (Rd.el (hS.rd0 s0_.rd) he_enE hi36b)) ?_
                  refine wpS_put rfl rfl rfl (yx_ld0 sc_3 rfl (RW.here _) (Rd.el (hS.rd0 s0_.rd) he_enE hi36b) rfl) ?_
                  refine wpS_quick 1 rfl ?_
                  refine wpS_nil ?_
                  refine QH_block_normal ?_
                  refine QH_seq_k hK21 ?_
                  refine wpC_region ?_
                  refine wpS_quick 1 rfl ?_
                  refine wpS_put rfl rfl rfl (yx_add rfl rfl) ?_
                  refine wpS_quick 1 rfl ?_
                  refine wpS_nil ?_
                  exact QH_again (n, v16, e34.term, (IntKind.wrap .i64 (v18 + 1))) (by repeat (first | exact Sub.nil | refine Sub.cons rfl ?_)) ⟨hS, H⟩ (Nat.lt_succ_self _)
            · replace H := cond_f H hb
              refine wpC_exit ?_
              refine QH_then_exit ?_
              refine QH_then_exit ?_
              refine QH_block_hit ?_
              refine QH_seq_k hK14 ?_
              refine wpC_seq_k (fun K hK37 => ?_)
              refine wpC_region ?_
              refine wpS_put rfl rfl rfl (yv_fieldAddr fo_26_2 rfl) ?_
              refine wpS_put rfl rfl rfl (yv_load_box sc_3 rfl (RW.here _) hS hs0 trivial sg6_1) ?_
              refine wpS_quick 1 rfl ?_
              refine wpS_put rfl rfl rfl (yv_geq rfl rfl) ?_
              refine wpS_quick 1 rfl ?_
              refine wpS_case 68 rfl (fun hb => ?_) (fun hb => ?_)
              · replace H := cond_t H hb
                refine wpS_put rfl rfl rfl (yv_fieldAddr fo_26_2 rfl) ?_
                refine wpS_put rfl rfl rfl (yv_load_box sc_3 rfl (RW.here _) hS hs0 trivial sg6_1) ?_
                refine wpS_put rfl rfl rfl (yv_geq rfl rfl) ?_
                refine wpS_quick 2 rfl ?_
                refine wpS_case 73 rfl (fun hb => ?_) (fun hb => ?_)
                · replace H := cond_t H hb
                  refine wpS_put rfl rfl rfl (yv_fieldAddr fo_26_2 rfl) ?_
                  refine wpS_put rfl rfl rfl (yv_load_box sc_3 rfl (RW.here _) hS hs0 trivial sg6_1) ?_
                  refine wpS_put rfl rfl rfl (yv_leq rfl rfl) ?_
                  refine wpS_quick 2 rfl ?_
                  refine wpS_nil ?_
                  refine QH_seq_k hK37 ?_
                  refine wpC_ret ?_
                  refine QH_ret rfl (RV.tmp rfl RV.nil) rfl ?_
                  obtain rfl := Option.some.inj H
                  replace hS := hS.cut 0
                  exact ⟨rfl, hS⟩
                · replace H := cond_f H hb
                  refine wpS_quick 5 rfl ?_
                  refine wpS_nil ?_
                  refine QH_seq_k hK37 ?_
                  refine wpC_ret ?_
                  refine QH_ret rfl (RV.tmp rfl RV.nil) rfl ?_
                  obtain rfl := Option.some.inj H
                  replace hS := hS.cut 0
                  exact ⟨rfl, hS⟩
              · replace H := cond_f H hb
                refine wpS_quick 10 rfl ?_
                refine wpS_nil ?_
                refine QH_seq_k hK37 ?_
                refine wpC_ret ?_
                refine QH_ret rfl (RV.tmp rfl RV.nil) rfl ?_
                obtain rfl := Option.some.inj H
                replace hS := hS.cut 0
                exact ⟨rfl, hS⟩
theorem c_entry_First (w0 : World) {r : St} (H : m_entry_First = some r) : Calls Try.prog 58 #[] w0 fun e w' => e = .returned (.agg #[.int .i64 r.index, .int .i64 r.term, .int .i64 r.sum, .int .i64 r.level, .bool r.final]) ∧ St0 All w0 w' [] := by
  unfold m_entry_First at H
  refine gw_enter0 Try.func58 rfl Try.ntmps58 rfl ?_
  have hS := St0.start All w0
  refine wpC_seq_k (fun K hK1 => ?_)
  refine wpC_region ?_
  refine wpS_alloc rfl rfl zc_23 hS (fun b2 w hS hB => ?_)
  refine wpS_nil ?_
  refine QH_seq_k hK1 ?_
  refine wpC_seq_k (fun K hK4 => ?_)
  refine wpC_region ?_
  refine wpS_put rfl rfl rfl (yv_build (cells := [.int .i64 0, .int .i64 0, .int .i64 0, .int .i64 1, .bool false]) rfl (by kernel_rfl)) ?_
  refine wpS_store rfl rfl rfl CellsOf.agg hS ps0 st0_5 (by kernel_rfl) rfl (fun w hS hB => ?_)
  refine wpS_nil ?_
  refine QH_seq_k hK4 ?_
  refine wpC_ret ?_
  refine QH_ret rfl (RV.cell rfl (load_boxA ag_23 hS hs0 sg0_5) RV.nil) rfl ?_
  obtain rfl := Option.some.inj H
  replace hS := hS.cut 0
  exact ⟨rfl, hS⟩
theorem c_tuple_First (w0 : World) {r : Tu} (H : m_tuple_First = some r) : Calls Try.prog 34 #[] w0 fun e w' => ∃ (A0 : Option Addr) (c0 : Nat), e = .returned (.agg #[.int .i64 r.snap.index, .int .i64 r.snap.term, .int .i64 r.snap.sum, .int .i64 r.snap.level, .bool r.snap.final, .slice A0 r.log.length c0, .int .i64 r.term, .int .i64 r.vote]) ∧ (r.log.length ≤ c0 ∧ c0 ≤ maxLen) ∧ St0 All w0 w' [.rd A0 (encs enE r.log)] := by
  unfold m_tuple_First at H
  refine gw_enter0 Try.func34 rfl Try.ntmps34 rfl ?_
  have hS := St0.start All w0
  refine wpC_seq_k (fun K hK1 => ?_)
  refine wpC_region ?_
  refine wpS_alloc rfl rfl zc_26 hS (fun b2 w hS hB => ?_)
  refine wpS_nil ?_
  refine QH_seq_k hK1 ?_
  refine wpC_seq_k (fun K hK4 => ?_)
  refine wpC_region ?_
  obtain ⟨r5, hm6, H⟩ := bind_some H
  refine wpS_call rfl rfl rfl rfl (by kernel_rfl) rfl (c_entry_First _ hm6) ?_
  rintro e w ⟨rfl, hN⟩; refine ⟨_, rfl, ?_⟩; have hB := hN.pure; have hS := hS.join hN; clear hN
  refine wpS_put rfl rfl rfl (yv_build (cells := [.int .i64 r5.index, .int .i64 r5.term, .int .i64 r5.sum, .int .i64 r5.level, .bool r5.final, .slice none 0 0, .int .i64 0, .int .i64 0]) rfl (by kernel_rfl)) ?_
  refine wpS_store rfl rfl rfl CellsOf.agg hS ps0 st0_8 (by kernel_rfl) rfl (fun w hS hB => ?_)
  refine wpS_nil ?_
  refine QH_seq_k hK4 ?_
  refine wpC_ret ?_
  refine QH_ret rfl (RV.cell rfl (load_boxA ag_26 hS hs0 sg0_8) RV.nil) rfl ?_
  obtain rfl := Option.some.inj H
  have hS := hS.nilRd
  replace hS := hS.cut 1
  exact ⟨none, 0, rfl, ⟨Nat.le_refl _, Nat.zero_le _⟩, hS⟩
theorem c_slices_Clone___api_Entry_api_Entry_ (x0 : List En) (A0_ : Option Addr) (c0_ : Nat) (w0 : World) (s0_ : SlI w0 enE A0_ c0_ x0) {r : List En} (H : m_slices_Clone___api_Entry_api_Entry_ x0 = some r) : Calls Try.prog 60 #[.slice A0_ x0.length c0_] w0 fun e w' => ∃ (A0 : Option Addr) (c0 : Nat), e = .returned (.slice A0 r.length c0) ∧ (r.length ≤ c0 ∧ c0 ≤ maxLen) ∧ St0 All w0 w' [.row (.slice A0 r.length c0) 50 3 r.length (encs enE r)] := by
  unfold m_slices_Clone___api_Entry_api_Entry_ at H
  obtain ⟨rfl, hfew⟩ := fewI_some H
  cases A0_ with
  | none =>
    obtain rfl : r = [] := by
      cases r with
      | nil => rfl
      | cons e l => obtain ⟨b, o, h, _⟩ := s0_.rd 0 _ rfl; cases h
    refine gw_enter1 Try.func60 rfl Try.ntmps60 rfl ?_
    have hS := St0.start All w0
    refine wpC_seq_k (fun K hK1 => ?_)
    refine wpC_region ?_
    refine wpS_quick 1 rfl ?_
    refine wpS_nil ?_
    refine QH_seq_k hK1 ?_
    refine wpC_seq_k (fun K hK2 => ?_)
    refine wpC_seq_k (fun K hK3 => ?_)
    refine wpC_region ?_
    refine wpS_quick 1 rfl ?_
    refine wpS_put rfl rfl rfl (yv_eqlNil (e := 50) (by kernel_rfl) rfl rfl) ?_
    refine wpS_nil ?_
    refine QH_seq_k hK3 ?_
    refine wpC_cond_t rfl rfl ?_
    refine wpC_seq_k (fun K hK4 => ?_)
    refine wpC_region ?_
    refine wpS_quick 1 rfl ?_
    refine wpS_nil ?_
    refine QH_seq_k hK4 ?_
    refine wpC_ret ?_
    refine QH_then_ret ?_
    refine QH_ret rfl (RV.tmp rfl RV.nil) rfl ?_
    have hS := hS.nilRow 50 3
    replace hS := hS.cut 1
    exact ⟨none, 0, rfl, ⟨Nat.le_refl _, Nat.zero_le _⟩, hS⟩
  | some a0 =>
    refine gw_enter1 Try.func60 rfl Try.ntmps60 rfl ?_
    have hS := St0.start All w0
    have H : (fewI ([] ++ r)).bind (fun z => some z) = some r := by rw [List.nil_append, H]; rfl
    refine wpC_seq_k (fun K hK5 => ?_)
    refine wpC_region ?_
    refine wpS_quick 1 rfl ?_
    refine wpS_nil ?_
    refine QH_seq_k hK5 ?_
    refine wpC_seq_k (fun K hK6 => ?_)
    refine wpC_seq_k (fun K hK7 => ?_)
    refine wpC_region ?_
    refine wpS_quick 1 rfl ?_
    refine wpS_put rfl rfl rfl (yv_eqlNil (e := 50) (by kernel_rfl) rfl rfl) ?_
    refine wpS_nil ?_
    refine QH_seq_k hK7 ?_
    refine wpC_cond_f rfl rfl ?_
    refine wpC_skip ?_
    refine QH_seq_k hK6 ?_
    refine wpC_seq_k (fun K hK8 => ?_)
    refine wpC_region ?_
    refine wpS_slice0 el_24 rfl rfl hS (fun b9 w hS hB => ?_)
    refine wpS_quick 1 rfl ?_
    obtain ⟨l11, hf12, H⟩ := bind_some H
    refine wpX_append (ys := r) he_enE oc_enE em_24 (by decide) rfl rfl rfl rfl hS (fun _ => ps0) (hS.rd0 s0_.rd) hf12 (fun A13 c14 w k15 hS => ?_)
    refine wpS_quick 1 rfl ?_
    refine wpS_nil ?_
    refine QH_seq_k hK8 ?_
    refine wpC_ret ?_
    refine QH_ret rfl (RV.tmp rfl RV.nil) rfl ?_
    obtain rfl := Option.some.inj H
    have hS := hS.front 0 rfl
    replace hS := hS.cut 1
    exact ⟨A13, c14, rfl, k15, hS⟩
theorem c_tuple_Own (x0 : Tu) (A0_ : Option Addr) (c0_ : Nat) (w0 : World) (s0_ : SlI w0 enE A0_ c0_ x0.log) {r : Tu} (H : m_tuple_Own x0 = some r) : Calls Try.prog 37 #[.agg #[.int .i64 x0.snap.index, .int .i64 x0.snap.term, .int .i64 x0.snap.sum, .int .i64 x0.snap.level, .bool x0.snap.final, .slice A0_ x0.log.length c0_, .int .i64 x0.term, .int .i64 x0.vote]] w0 fun e w' => ∃ (A0 : Option Addr) (c0 : Nat), e = .returned (.agg #[.int .i64 r.snap.index, .int .i64 r.snap.term, .int .i64 r.snap.sum, .int .i64 r.snap.level, .bool r.snap.final, .slice A0 r.log.length c0, .int .i64 r.term, .int .i64 r.vote]) ∧ (r.log.length ≤ c0 ∧ c0 ≤ maxLen) ∧ St0 All w0 w' [.row (.slice A0 r.log.length c0) 50 3 r.log.length (encs enE r.log)] := by
  unfold m_tuple_Own at H
  refine gw_enter1 Try.func37 rfl Try.ntmps37 rfl ?_
  have hS := St0.start All w0
  refine wpC_seq_k (fun K hK1 => ?_)
  refine wpC_region ?_
  refine wpS_box rfl rfl rfl CellsOf.agg hS (fun b2 w hS hB => ?_)
  refine wpS_alloc rfl rfl zc_26 hS (fun b4 w hS hB => ?_)
  refine wpS_nil ?_
  refine QH_seq_k hK1 ?_
  refine wpC_seq_k (fun K hK6 => ?_)
  refine wpC_region ?_
  refine wpS_put rfl rfl rfl (yv_fieldAddr fo_26_1 rfl) ?_
  refine wpS_put rfl rfl rfl (yv_load_box sc_24 rfl (RW.here _) hS hs1 trivial sg5_1) ?_
  obtain ⟨r7, hm8, H⟩ := bind_some H
  refine wpS_call rfl rfl rfl rfl (by kernel_rfl) rfl (c_slices_Clone___api_Entry_api_Entry_ x0.log A0_ c0_ _ (SlI.of_rd s0_.k (hS.rd0 s0_.rd) (hS.blk0 s0_.blk)) hm8) ?_
  rintro e w ⟨A9, c10, rfl, k11, hN⟩; refine ⟨_, rfl, ?_⟩; have hB := hN.pure; have hS := hS.join hN; clear hN
  refine wpS_put rfl rfl rfl (yv_fieldAddr fo_26_1 rfl) ?_
  refine wpS_store rfl rfl rfl CellsOf.slice hS ps2 st5_1 (by kernel_rfl) rfl (fun w hS hB => ?_)
  refine wpS_nil ?_
  refine QH_seq_k hK6 ?_
  refine wpC_seq_k (fun K hK13 => ?_)
  refine wpC_region ?_
  refine wpS_put rfl rfl rfl (yv_load_boxA ag_26 rfl (RW.here _) hS hs2 trivial sg0_8) ?_
  refine wpS_store rfl rfl rfl CellsOf.agg hS ps1 st0_8 (by kernel_rfl) rfl (fun w hS hB => ?_)
  refine wpS_nil ?_
  refine QH_seq_k hK13 ?_
  refine wpC_ret ?_
  refine QH_ret rfl (RV.cell rfl (load_boxA ag_26 hS hs1 sg0_8) RV.nil) rfl ?_
  obtain rfl := Option.some.inj H
  have hS := hS.front 0 rfl
  replace hS := hS.cut 1
  exact ⟨A9, c10, rfl, k11, hS⟩
theorem c_law12_some (x0 : Int) (x1 : List Int) (A0_ : Option Addr) (c0_ : Nat) (w0 : World) (s0_ : SlI w0 enI A0_ c0_ x1) {r : List En} (H : m_law12_some x0 x1 = some r) : Calls Try.prog 39 #[.int .i64 x0, .slice A0_ x1.length c0_] w0 fun e w' => ∃ (A0 : Option Addr) (c0 : Nat), e = .returned (.slice A0 r.length c0) ∧ (r.length ≤ c0 ∧ c0 ≤ maxLen) ∧ St0 All w0 w' [.row (.slice A0 r.length c0) 50 3 r.length (encs enE r)] := by
  unfold m_law12_some at H
  refine gw_enter2 Try.func39 rfl Try.ntmps39 rfl ?_
  have hS := St0.start All w0
  refine wpC_seq_k (fun K hK1 => ?_)
  refine wpC_region ?_
  refine wpS_quick 1 rfl ?_
  refine wpS_nil ?_
  refine QH_seq_k hK1 ?_
  refine wpC_seq_k (fun K hK2 => ?_)
  refine wpC_region ?_
  refine wpS_quick 1 rfl ?_
  refine wpS_nil ?_
  refine QH_seq_k hK2 ?_
  refine wpC_seq_k (fun K hK3 => ?_)
  refine wpC_seq_k (fun K hK4 => ?_)
  refine wpC_region ?_
  refine wpS_quick 1 rfl ?_
  refine wpS_nil ?_
  refine QH_seq_k hK4 ?_
  refine wpC_block ?_
  replace hS := hS.nilRow 50 3
  refine wpC_loop (X := Nat × List En × Option Addr × Nat × Int) (fun x => [(0, .int .i64 x0), (1, .slice A0_ x1.length c0_), (4, .slice none 0 0), (5, .slice x.2.2.1 x.2.1.length x.2.2.2.1), (6, .int .i64 x.2.2.2.2)]) (fun x w => St0 All w0 w [.row (.slice x.2.2.1 x.2.1.length x.2.2.2.1) 50 3 x.2.1.length (encs enE x.2.1)] ∧ (x.2.1.length ≤ x.2.2.2.1 ∧ x.2.2.2.1 ≤ maxLen) ∧ m_law12_some_l1 x0 x1 x.1 x.2.1 x.2.2.2.2 = some r) (fun x => x.1) (fuelN, [], none, 0, 0) (by repeat (first | exact Sub.nil | refine Sub.cons rfl ?_)) ⟨hS, ⟨Nat.le_refl _, Nat.zero_le _⟩, H⟩ ?_
  rintro ⟨n, v5, A6, c7, v10⟩ w ⟨hS, k8, H⟩
  dsimp only at hS k8 H ⊢
  obtain _ | n := n
  · have H0 : none = some r := H
    cases H0
  rw [m_law12_some_l1] at H
  refine wpC_seq_k (fun K hK11 => ?_)
  refine wpC_seq_k (fun K hK12 => ?_)
  refine wpC_region ?_
  refine wpS_quick 2 rfl ?_
  refine wpS_put rfl rfl rfl (yv_len el_74 rfl) ?_
  refine wpS_put rfl rfl rfl (yv_lss rfl rfl) ?_
  refine wpS_nil ?_
  refine QH_seq_k hK12 ?_
  refine wpC_cond rfl (fun hb => ?_) (fun hb => ?_)
  · replace H := cond_t H hb
    refine wpC_skip ?_
    refine QH_seq_k hK11 ?_
    refine wpC_seq_k (fun K hK13 => ?_)
    refine wpC_block ?_
    refine wpC_region ?_
    refine wpS_quick 4 rfl ?_
    obtain ⟨e14, hi16, H⟩ := bind_some H
    obtain ⟨j15, hi16a, hi16b, hi16c⟩ := idx_some hi16
    refine wpS_put rfl rfl rfl (yx_idx el_74 rfl rfl hi16a hi16c (Rd.el (hS.rd0 s0_.rd) he_enI hi16b)) ?_
    refine wpS_put rfl rfl rfl (yx_ld0 sc_3 rfl (RW.here _) (Rd.el (hS.rd0 s0_.rd) he_enI hi16b) rfl) ?_
    refine wpS_put rfl rfl rfl (yv_build (cells := [.int .i64 x0, .int .i64 1, .int .i64 e14]) rfl (by kernel_rfl)) ?_
    refine wpS_sliceM (ps := [(0, .tmp 19)]) [.int .i64 x0, .int .i64 1, .int .i64 e14] el_24 zc_50 rfl rfl rfl rfl rfl (by kernel_rfl) hS (fun b17 w hS hB => ?_)
    obtain ⟨l19, hf20, H⟩ := bind_some H
    refine wpX_append (ys := ([(⟨x0, 1, e14⟩ : En)] : List En)) he_enE oc_enE em_24 (by decide) rfl rfl rfl rfl hS (fun _ => ps1) (hS.box_rd hs0) hf20 (fun A21 c22 w k23 hS => ?_)
    refine wpS_quick 1 rfl ?_
    refine wpS_nil ?_
    refine QH_block_normal ?_
    refine QH_seq_k hK13 ?_
    refine wpC_region ?_
    refine wpS_quick 1 rfl ?_
    refine wpS_put rfl rfl rfl (yx_add rfl rfl) ?_
    refine wpS_quick 1 rfl ?_
    refine wpS_nil ?_
    exact QH_again (n, l19, A21, c22, (IntKind.wrap .i64 (v10 + 1))) (by repeat (first | exact Sub.nil | refine Sub.cons rfl ?_)) ⟨(hS.sub (List.Sublist.cons _ (List.Sublist.cons_cons _ List.Sublist.slnil))), k23, H⟩ (Nat.lt_succ_self _)
  · replace H := cond_f H hb
    refine wpC_exit ?_
    refine QH_then_exit ?_
    refine QH_then_exit ?_
    refine QH_block_hit ?_
    refine QH_seq_k hK3 ?_
    refine wpC_seq_k (fun K hK24 => ?_)
    refine wpC_region ?_
    refine wpS_quick 2 rfl ?_
    refine wpS_nil ?_
    refine QH_seq_k hK24 ?_
    refine wpC_ret ?_
    refine QH_ret rfl (RV.tmp rfl RV.nil) rfl ?_
    obtain rfl := Option.some.inj H
    have hS := hS.front 0 rfl
    replace hS := hS.cut 1
    exact ⟨A6, c7, rfl, k8, hS⟩
theorem c_tuple_Last (x0 : Tu) (A0_ : Option Addr) (c0_ : Nat) (w0 : World) (s0_ : SlI w0 enE A0_ c0_ x0.log) {r : Int} (H : m_tuple_Last x0 = some r) : Calls Try.prog 15 #[.agg #[.int .i64 x0.snap.index, .int .i64 x0.snap.term, .int .i64 x0.snap.sum, .int .i64 x0.snap.level, .bool x0.snap.final, .slice A0_ x0.log.length c0_, .int .i64 x0.term, .int .i64 x0.vote]] w0 fun e w' => e = .returned (.int .i64 r) ∧ St0 All w0 w' [] := by
  unfold m_tuple_Last at H
  refine gw_enter1 Try.func15 rfl Try.ntmps15 rfl ?_
  have hS := St0.start All w0
  refine wpC_seq_k (fun K hK1 => ?_)
  refine wpC_region ?_
  refine wpS_box rfl rfl rfl CellsOf.agg hS (fun b2 w hS hB => ?_)
  refine wpS_quick 1 rfl ?_
  refine wpS_nil ?_
  refine QH_seq_k hK1 ?_
  refine wpC_seq_k (fun K hK4 => ?_)
  refine wpC_region ?_
  refine wpS_put rfl rfl rfl (yv_fieldAddr fo_26_0 rfl) ?_
  refine wpS_put rfl rfl rfl (yv_fieldAddr fo_23_0 rfl) ?_
  refine wpS_put rfl rfl rfl (yv_load_box sc_3 rfl (RW.here _) hS hs0 trivial sg0_1) ?_
  refine wpS_put rfl rfl rfl (yv_fieldAddr fo_26_1 rfl) ?_
  refine wpS_put rfl rfl rfl (yv_load_box sc_24 rfl (RW.here _) hS hs0 trivial sg5_1) ?_
  refine wpS_put rfl rfl rfl (yv_len el_24 rfl) ?_
  refine wpS_put rfl rfl rfl (yx_add rfl rfl) ?_
  refine wpS_quick 1 rfl ?_
  refine wpS_nil ?_
  refine QH_seq_k hK4 ?_
  refine wpC_ret ?_
  refine QH_ret rfl (RV.tmp rfl RV.nil) rfl ?_
  obtain rfl := Option.some.inj H
  replace hS := hS.cut 0
  exact ⟨rfl, hS⟩
theorem c_tuple_At (x0 : Tu) (x1 : Int) (A0_ : Option Addr) (c0_ : Nat) (w0 : World) (s0_ : SlI w0 enE A0_ c0_ x0.log) {r : En × Bool} (H : m_tuple_At x0 x1 = some r) : Calls Try.prog 29 #[.agg #[.int .i64 x0.snap.index, .int .i64 x0.snap.term, .int .i64 x0.snap.sum, .int .i64 x0.snap.level, .bool x0.snap.final, .slice A0_ x0.log.length c0_, .int .i64 x0.term, .int .i64 x0.vote], .int .i64 x1] w0 fun e w' => e = .returned (.tuple #[.agg #[.int .i64 r.1.term, .int .i64 r.1.kind, .int .i64 r.1.value], .bool r.2]) ∧ St0 All w0 w' [] := by
  unfold m_tuple_At at H
  refine gw_enter2 Try.func29 rfl Try.ntmps29 rfl ?_
  have hS := St0.start All w0
  refine wpC_seq_k (fun K hK1 => ?_)
  refine wpC_region ?_
  refine wpS_box rfl rfl rfl CellsOf.agg hS (fun b2 w hS hB => ?_)
  refine wpS_alloc rfl rfl zc_50 hS (fun b4 w hS hB => ?_)
  refine wpS_quick 1 rfl ?_
  refine wpS_nil ?_
  refine QH_seq_k hK1 ?_
  refine wpC_seq_k (fun K hK6 => ?_)
  refine wpC_seq_k (fun K hK7 => ?_)
  refine wpC_region ?_
  refine wpS_quick 1 rfl ?_
  refine wpS_put rfl rfl rfl (yv_fieldAddr fo_26_0 rfl) ?_
  refine wpS_put rfl rfl rfl (yv_fieldAddr fo_23_0 rfl) ?_
  refine wpS_put rfl rfl rfl (yv_load_box sc_3 rfl (RW.here _) hS hs1 trivial sg0_1) ?_
  refine wpS_put rfl rfl rfl (yv_leq rfl rfl) ?_
  refine wpS_quick 1 rfl ?_
  refine wpS_case 11 rfl (fun hb => ?_) (fun hb => ?_)
  · replace H := cond_t H hb
    refine wpS_quick 5 rfl ?_
    refine wpS_nil ?_
    refine QH_seq_k hK7 ?_
    refine wpC_cond_t rfl rfl ?_
    refine wpC_seq_k (fun K hK8 => ?_)
    refine wpC_region ?_
    refine wpS_put rfl rfl rfl (yv_load_boxA ag_50 rfl (RW.here _) hS hs0 trivial sg0_3) ?_
    refine wpS_store rfl rfl rfl CellsOf.agg hS ps0 st0_3 (by kernel_rfl) rfl (fun w hS hB => ?_)
    refine wpS_quick 1 rfl ?_
    refine wpS_nil ?_
    refine QH_seq_k hK8 ?_
    refine wpC_ret ?_
    refine QH_then_ret ?_
    refine QH_ret rfl (RV.cell rfl (load_boxA ag_50 hS hs0 sg0_3) (RV.tmp rfl RV.nil)) rfl ?_
    obtain rfl := Option.some.inj H
    replace hS := hS.cut 0
    exact ⟨rfl, hS⟩
  · replace H := cond_f H hb
    refine wpS_quick 1 rfl ?_
    refine wpS_put rfl rfl rfl (yv_load_boxA ag_26 rfl (RW.here _) hS hs1 trivial sg0_8) ?_
    obtain ⟨r9, hm10, H⟩ := bind_some H
    refine wpS_call rfl rfl rfl rfl (by kernel_rfl) rfl (c_tuple_Last x0 A0_ c0_ _ (SlI.of_rd s0_.k (hS.rd0 s0_.rd) (hS.blk0 s0_.blk)) hm10) ?_
    rintro e w ⟨rfl, hN⟩; refine ⟨_, rfl, ?_⟩; have hB := hN.pure; have hS := hS.join hN; clear hN
    refine wpS_put rfl rfl rfl (yv_gtr rfl rfl) ?_
    refine wpS_quick 1 rfl ?_
    refine wpS_nil ?_
    refine QH_seq_k hK7 ?_
    refine wpC_cond rfl (fun hb => ?_) (fun hb => ?_)
    · replace H := cond_t H hb
      refine wpC_seq_k (fun K hK11 => ?_)
      refine wpC_region ?_
      refine wpS_put rfl rfl rfl (yv_load_boxA ag_50 rfl (RW.here _) hS hs0 trivial sg0_3) ?_
      refine wpS_store rfl rfl rfl CellsOf.agg hS ps0 st0_3 (by kernel_rfl) rfl (fun w hS hB => ?_)
      refine wpS_quick 1 rfl ?_
      refine wpS_nil ?_
      refine QH_seq_k hK11 ?_
      refine wpC_ret ?_
      refine QH_then_ret ?_
      refine QH_ret rfl (RV.cell rfl (load_boxA ag_50 hS hs0 sg0_3) (RV.tmp rfl RV.nil)) rfl ?_
      obtain rfl := Option.some.inj H
      replace hS := hS.cut 0
      exact ⟨rfl, hS⟩
    · replace H := cond_f H hb
      refine wpC_skip ?_
      refine QH_seq_k hK6 ?_
      refine wpC_seq_k (fun K hK12 => ?_)
      refine wpC_region ?_
      refine wpS_put rfl rfl rfl (yv_fieldAddr fo_26_1 rfl) ?_
      refine wpS_put rfl rfl rfl (yv_load_box sc_24 rfl (RW.here _) hS hs1 trivial sg5_1) ?_
      refine wpS_quick 1 rfl ?_
      refine wpS_put rfl rfl rfl (yv_fieldAddr fo_26_0 rfl) ?_
      refine wpS_put rfl rfl rfl (yv_fieldAddr fo_23_0 rfl) ?_
      refine wpS_put rfl rfl rfl (yv_load_box sc_3 rfl (RW.here _) hS hs1 trivial sg0_1) ?_
      refine wpS_put rfl rfl rfl (yx_sub rfl rfl) ?_
      refine wpS_put rfl rfl rfl (yx_sub rfl rfl) ?_
      obtain ⟨e13, hi15, H⟩ := bind_some H
      obtain ⟨j14, hi15a, hi15b, hi15c⟩ := idx_some hi15
      refine wpS_put rfl rfl rfl (yx_idx el_24 rfl rfl hi15a hi15c (Rd.el (hS.rd0 s0_.rd) he_enE hi15b)) ?_
      refine wpS_put rfl rfl rfl (yx_ldA0 ag_50 rfl (RW.here _) (Rd.el (hS.rd0 s0_.rd) he_enE hi15b) sg0_3) ?_
      refine wpS_store rfl rfl rfl CellsOf.agg hS ps0 st0_3 (by kernel_rfl) rfl (fun w hS hB => ?_)
      refine wpS_quick 1 rfl ?_
      refine wpS_nil ?_
      refine QH_seq_k hK12 ?_
      refine wpC_ret ?_
      refine QH_ret rfl (RV.cell rfl (load_boxA ag_50 hS hs0 sg0_3) (RV.tmp rfl RV.nil)) rfl ?_
      obtain rfl := Option.some.inj H
      replace hS := hS.cut 0
      exact ⟨rfl, hS⟩
theorem c_tuple_TermAt (x0 : Tu) (x1 : Int) (A0_ : Option Addr) (c0_ : Nat) (w0 : World) (s0_ : SlI w0 enE A0_ c0_ x0.log) {r : Int × Bool} (H : m_tuple_TermAt x0 x1 = some r) : Calls Try.prog 14 #[.agg #[.int .i64 x0.snap.index, .int .i64 x0.snap.term, .int .i64 x0.snap.sum, .int .i64 x0.snap.level, .bool x0.snap.final, .slice A0_ x0.log.length c0_, .int .i64 x0.term, .int .i64 x0.vote], .int .i64 x1] w0 fun e w' => e = .returned (.tuple #[.int .i64 r.1, .bool r.2]) ∧ St0 All w0 w' [] := by
  unfold m_tuple_TermAt at H
  refine gw_enter2 Try.func14 rfl Try.ntmps14 rfl ?_
  have hS := St0.start All w0
  refine wpC_seq_k (fun K hK1 => ?_)
  refine wpC_region ?_
  refine wpS_box rfl rfl rfl CellsOf.agg hS (fun b2 w hS hB => ?_)
  refine wpS_quick 2 rfl ?_
  refine wpS_nil ?_
  refine QH_seq_k hK1 ?_
  refine wpC_seq_k (fun K hK4 => ?_)
  refine wpC_seq_k (fun K hK5 => ?_)
  refine wpC_region ?_
  refine wpS_quick 1 rfl ?_
  refine wpS_put rfl rfl rfl (yv_fieldAddr fo_26_0 rfl) ?_
  refine wpS_put rfl rfl rfl (yv_fieldAddr fo_23_0 rfl) ?_
  refine wpS_put rfl rfl rfl (yv_load_box sc_3 rfl (RW.here _) hS hs0 trivial sg0_1) ?_
  refine wpS_put rfl rfl rfl (yv_eql rfl rfl) ?_
  refine wpS_nil ?_
  refine QH_seq_k hK5 ?_
  refine wpC_cond rfl (fun hb => ?_) (fun hb => ?_)
  · replace H := cond_t H hb
    refine wpC_seq_k (fun K hK6 => ?_)
    refine wpC_region ?_
    refine wpS_put rfl rfl rfl (yv_fieldAddr fo_26_0 rfl) ?_
    refine wpS_put rfl rfl rfl (yv_fieldAddr fo_23_1 rfl) ?_
    refine wpS_put rfl rfl rfl (yv_load_box sc_3 rfl (RW.here _) hS hs0 trivial sg1_1) ?_
    refine wpS_quick 2 rfl ?_
    refine wpS_nil ?_
    refine QH_seq_k hK6 ?_
    refine wpC_ret ?_
    refine QH_then_ret ?_
    refine QH_ret rfl (RV.tmp rfl (RV.tmp rfl RV.nil)) rfl ?_
    obtain rfl := Option.some.inj H
    replace hS := hS.cut 0
    exact ⟨rfl, hS⟩
  · replace H := cond_f H hb
    refine wpC_skip ?_
    refine QH_seq_k hK4 ?_
    refine wpC_seq_k (fun K hK7 => ?_)
    refine wpC_region ?_
    refine wpS_put rfl rfl rfl (yv_load_boxA ag_26 rfl (RW.here _) hS hs0 trivial sg0_8) ?_
    refine wpS_quick 1 rfl ?_
    obtain ⟨r8, hm9, H⟩ := bind_some H
    refine wpS_call rfl rfl rfl rfl (by kernel_rfl) rfl (c_tuple_At x0 x1 A0_ c0_ _ (SlI.of_rd s0_.k (hS.rd0 s0_.rd) (hS.blk0 s0_.blk)) hm9) ?_
    rintro e w ⟨rfl, hN⟩; refine ⟨_, rfl, ?_⟩; have hB := hN.pure; have hS := hS.join hN; clear hN
    refine wpS_quick 1 rfl ?_
    refine wpS_put rfl rfl rfl (yv_extract rfl rfl) ?_
    refine wpS_put rfl rfl rfl (yv_extract rfl rfl) ?_
    refine wpS_alloc rfl rfl zc_50 hS (fun b10 w hS hB => ?_)
    refine wpS_store rfl rfl rfl CellsOf.agg hS ps0 st0_3 (by kernel_rfl) rfl (fun w hS hB => ?_)
    refine wpS_quick 1 rfl ?_
    refine wpS_nil ?_
    refine QH_seq_k hK7 ?_
    refine wpC_seq_k (fun K hK12 => ?_)
    refine wpC_region ?_
    refine wpS_put rfl rfl rfl (yv_fieldAddr fo_50_0 rfl) ?_
    refine wpS_put rfl rfl rfl (yv_load_box sc_3 rfl (RW.here _) hS hs0 trivial sg0_1) ?_
    refine wpS_quick 3 rfl ?_
    refine wpS_nil ?_
    refine QH_seq_k hK12 ?_
    refine wpC_ret ?_
    refine QH_ret rfl (RV.tmp rfl (RV.tmp rfl RV.nil)) rfl ?_
    obtain rfl := Option.some.inj H
    replace hS := hS.cut 0
    exact ⟨rfl, hS⟩
theorem c_law12_wakes (w0 : World) {r : Bool} (H : m_law12_wakes = some r) : Calls Try.prog 9 #[] w0 fun e w' => e = .returned (.bool r) ∧ St0 All w0 w' [] := by
  unfold m_law12_wakes at H
  refine gw_enter0 Try.func9 rfl Try.ntmps9 rfl ?_
  have hS := St0.start All w0
  refine wpC_seq_k (fun K hK1 => ?_)
  refine wpC_region ?_
  refine wpS_quick 1 rfl ?_
  refine wpS_nil ?_
  refine QH_seq_k hK1 ?_
  refine wpC_seq_k (fun K hK2 => ?_)
  refine wpC_region ?_
  obtain ⟨r3, hm4, H⟩ := bind_some H
  refine wpS_call rfl rfl rfl rfl (by kernel_rfl) rfl (c_tuple_First _ hm4) ?_
  rintro e w ⟨A5, c6, rfl, k7, hN⟩; refine ⟨_, rfl, ?_⟩; have hB := hN.pure; have hS := hS.join hN; clear hN
  obtain ⟨r9, hm10, H⟩ := bind_some H
  refine wpS_call rfl rfl rfl rfl (by kernel_rfl) rfl (c_tuple_Hard r3 3 2 A5 c6 _ (SlI.of_rd k7 (hS.rd hs0) (hS.rd_blk hs0)) hm10) ?_
  rintro e w ⟨A11, c12, rfl, k13, hN⟩; refine ⟨_, rfl, ?_⟩; have hB := hN.pure; have hS := hS.join hN; clear hN
  refine wpS_quick 1 rfl ?_
  refine wpS_put rfl rfl rfl (yv_extract rfl rfl) ?_
  refine wpS_put rfl rfl rfl (yv_extract rfl rfl) ?_
  refine wpS_alloc rfl rfl zc_26 hS (fun b15 w hS hB => ?_)
  refine wpS_store rfl rfl rfl CellsOf.agg hS ps0 st0_8 (by kernel_rfl) rfl (fun w hS hB => ?_)
  refine wpS_quick 1 rfl ?_
  refine wpS_nil ?_
  refine QH_seq_k hK2 ?_
  refine wpC_seq_k (fun K hK17 => ?_)
  refine wpC_draw 10 [8] (fun i b => (i = 8 → False)) ⟨by kernel_rfl, by kernel_rfl⟩ hS (fun w hS hB => ?_)
  refine wpRF_start [⟨7, 3, 26, [.int .i64 0, .int .i64 0, .int .i64 0, .int .i64 0, .bool false, .slice none 0 0, .int .i64 0, .int .i64 0]⟩] (.cons rfl zc_26 rfl rfl rfl .nil) hS (fun hok => ?_)
  dsimp only [List.cons_append, List.nil_append]
  refine wpRF_batch [true] [] (fun _ => True) (by decide +kernel) (fun _ h => by cases h) (by repeat (first | exact PF.body | exact PF.round | apply PF.then | apply PF.inBlock | apply PF.jump)) (fun X Y tk ht w hS => ?_)
  refine LtK.put rfl rfl rfl (yv_load_boxA ag_26 rfl (RW.keepB _ _) hS hs0 trivial sg0_8) ?_
  refine LtK_F' ht hS (by repeat (first | exact App.nil | apply App.cons)) (by repeat (first | exact App.nil | apply App.cons)) ?_
  dsimp only [List.cons_append, List.nil_append]
  refine wpRF_call [false, true] 1 hok ⟨by decide, by decide +kernel, by decide, by decide⟩ rfl rfl (fun _ => rfl) (fun _ => rfl) rfl (hend_of (by decide +kernel)) (fun X Y tk ht w hS => ?_)
  dsimp only [pickL]
  refine wpS_sliceM (ps := [(0, .const (.int .i64 5)), (1, .const (.int .i64 6)), (2, .const (.int .i64 7))]) [.int .i64 5, .int .i64 6, .int .i64 7] el_74 zc_3 rfl rfl rfl rfl rfl (by kernel_rfl) hS (fun b18 w hS hB => ?_)
  refine wpS_nil ?_
  refine QH_stepF' ht hS hB (by repeat (first | exact App.nil | apply App.cons)) (by repeat (first | exact App.nil | apply App.cons)) ?_
  dsimp only [List.cons_append, List.nil_append]
  refine wpRF_call [false, false, true] 2 hok ⟨by decide, by decide +kernel, by decide, by decide⟩ rfl rfl (fun _ => rfl) (fun _ => rfl) rfl (hend_of (by decide +kernel)) (fun X Y tk ht w hS => ?_)
  dsimp only [pickL]
  obtain ⟨r20, hm21, H⟩ := bind_some H
  refine wpS_call rfl rfl rfl rfl (by kernel_rfl) rfl (c_law12_some 2 ([5, 6, 7] : List Int) (some ⟨b18, 0, none⟩) 3 _ (SlI.of_rd ⟨Nat.le_refl 3, by decide⟩ (hS.box_rd hs0) (hS.box_blk hs0)) hm21) ?_
  rintro e w ⟨A22, c23, rfl, k24, hN⟩; refine ⟨_, rfl, ?_⟩; have hB := hN.pure; have hS := hS.join hN; clear hN
  refine wpS_nil ?_
  refine QH_stepF' ht hS hB (by repeat (first | exact App.nil | apply App.cons)) (by repeat (first | exact App.nil | apply App.cons)) ?_
  dsimp only [List.cons_append, List.nil_append]
  refine wpRF_call [false, false, false, true] 3 hok ⟨by decide, by decide +kernel, by decide, by decide⟩ rfl rfl (fun _ => rfl) (fun _ => rfl) rfl (hend_of (by decide +kernel)) (fun X Y tk ht w hS => ?_)
  dsimp only [pickL]
  obtain ⟨r26, hm27, H⟩ := bind_some H
  refine wpS_call rfl rfl rfl rfl (by kernel_rfl) rfl (c_tuple_Append r9.1 r20 A11 c12 A22 c23 _ (SlI.of_rd k13 (hS.rd hs3) (hS.rd_blk hs3)) (SlI.of_rd k24 (hS.row_rd hs0) (hS.row_blk hs0)) hm27) ?_
  rintro e w ⟨A28, c29, rfl, k30, hN⟩; refine ⟨_, rfl, ?_⟩; have hB := hN.pure; have hS := hS.join hN; clear hN
  refine wpS_nil ?_
  refine QH_stepF' ht hS hB (by repeat (first | exact App.nil | apply App.cons)) (by repeat (first | exact App.nil | apply App.cons)) ?_
  dsimp only [List.cons_append, List.nil_append]
  refine wpRF_batch [false, false, false, false, true, true] [] (fun _ => True) (by decide +kernel) (fun _ h => by cases h) (by repeat (first | exact PF.body | exact PF.round | apply PF.then | apply PF.inBlock | apply PF.jump)) (fun X Y tk ht w hS => ?_)
  refine LtK.put rfl rfl rfl (yv_move rfl) ?_
  refine LtK.put rfl rfl rfl (yv_extract rfl rfl) ?_
  refine LtK_F' ht hS (by repeat (first | exact App.nil | apply App.cons)) (by repeat (first | exact App.nil | apply App.cons)) ?_
  dsimp only [List.cons_append, List.nil_append]
  refine wpRF_batch [false, false, false, false, false, false, true] [8] (fun _ => False) (by decide +kernel) (fun _ _ _ h => h.elim) (by repeat (first | exact PF.body | exact PF.round | apply PF.then | apply PF.inBlock | apply PF.jump)) (fun X Y tk ht w hS => ?_)
  refine LtK.put rfl rfl rfl (yv_extract rfl rfl) ?_
  refine LtK_F' ht hS (by repeat (first | exact App.nil | apply App.cons)) (by repeat (first | exact App.nil | apply App.cons)) ?_
  dsimp only [List.cons_append, List.nil_append]
  refine wpRF_done hok (by decide) (by decide +kernel) (fun _ => rfl) (fun _ => rfl) rfl (fun tk htk w hS => ?_)
  obtain ⟨b32, tkb32, rfl, htk34⟩ := tk_cons htk
  obtain rfl := tk_nil htk34
  dsimp only [tkH, tkL, List.map] at hS ⊢
  refine wpR_seal [false, false, false, false, false, false, false, false, true] 8 ⟨by decide, by kernel_rfl, by kernel_rfl⟩ rfl rfl ?_
  dsimp only [pickL]
  refine wpS_store rfl rfl rfl CellsOf.agg hS ps6 st0_8 (by kernel_rfl) rfl (fun w hS hB => ?_)
  refine wpS_nil ?_
  refine QH_stepG (hB.sub (fun _ _ h => by simp at h)) ?_
  refine wpR_batch [false, false, false, false, false, false, false, false, false, true] (by decide +kernel) (by repeat (first | exact PF.body | exact PF.round | apply PF.then | apply PF.inBlock | apply PF.jump)) ?_
  refine LtK.put rfl rfl rfl (yv_assign rfl) ?_
  refine LtK.nil ?_
  refine wpR_end (by kernel_rfl) ?_
  refine QH_seq_k hK17 ?_
  refine wpC_seq_k (fun K hK35 => ?_)
  refine wpC_region ?_
  refine wpS_put rfl rfl rfl (yv_load_boxA ag_26 rfl (RW.here _) hS hs6 trivial sg0_8) ?_
  obtain ⟨r36, hm37, H⟩ := bind_some H
  refine wpS_call rfl rfl rfl rfl (by kernel_rfl) rfl (c_tuple_Cut r26.1 3 A28 c29 _ (SlI.of_rd k30 (hS.rd hs0) (hS.rd_blk hs0)) hm37) ?_
  rintro e w ⟨A38, c39, rfl, k40, hN⟩; refine ⟨_, rfl, ?_⟩; have hB := hN.pure; have hS := hS.join hN; clear hN
  refine wpS_quick 1 rfl ?_
  refine wpS_put rfl rfl rfl (yv_extract rfl rfl) ?_
  refine wpS_put rfl rfl rfl (yv_extract rfl rfl) ?_
  refine wpS_alloc rfl rfl zc_26 hS (fun b42 w hS hB => ?_)
  refine wpS_store rfl rfl rfl CellsOf.agg hS ps0 st0_8 (by kernel_rfl) rfl (fun w hS hB => ?_)
  refine wpS_quick 1 rfl ?_
  refine wpS_nil ?_
  refine QH_seq_k hK35 ?_
  refine wpC_seq_k (fun K hK44 => ?_)
  refine wpC_region ?_
  refine wpS_put rfl rfl rfl (yv_load_boxA ag_26 rfl (RW.here _) hS hs0 trivial sg0_8) ?_
  obtain ⟨r45, hm46, H⟩ := bind_some H
  refine wpS_call rfl rfl rfl rfl (by kernel_rfl) rfl (c_tuple_State r36.1 1 A38 c39 _ (SlI.of_rd k40 (hS.rd hs1) (hS.rd_blk hs1)) hm46) ?_
  rintro e w ⟨rfl, hN⟩; refine ⟨_, rfl, ?_⟩; have hB := hN.pure; have hS := hS.join hN; clear hN
  refine wpS_quick 1 rfl ?_
  refine wpS_put rfl rfl rfl (yv_extract rfl rfl) ?_
  refine wpS_put rfl rfl rfl (yv_extract rfl rfl) ?_
  refine wpS_alloc rfl rfl zc_23 hS (fun b47 w hS hB => ?_)
  refine wpS_store rfl rfl rfl CellsOf.agg hS ps0 st0_5 (by kernel_rfl) rfl (fun w hS hB => ?_)
  refine wpS_quick 1 rfl ?_
  refine wpS_nil ?_
  refine QH_seq_k hK44 ?_
  refine wpC_seq_k (fun K hK49 => ?_)
  refine wpC_region ?_
  refine wpS_put rfl rfl rfl (yv_load_boxA ag_26 rfl (RW.here _) hS hs1 trivial sg0_8) ?_
  refine wpS_put rfl rfl rfl (yv_load_boxA ag_23 rfl (RW.here _) hS hs0 trivial sg0_5) ?_
  obtain ⟨r50, hm51, H⟩ := bind_some H
  refine wpS_call rfl rfl rfl rfl (by kernel_rfl) rfl (c_tuple_Save r36.1 r45.1 A38 c39 _ (SlI.of_rd k40 (hS.rd hs2) (hS.rd_blk hs2)) hm51) ?_
  rintro e w ⟨A52, c53, rfl, k54, hN⟩; refine ⟨_, rfl, ?_⟩; have hB := hN.pure; have hS := hS.join hN; clear hN
  refine wpS_quick 1 rfl ?_
  refine wpS_put rfl rfl rfl (yv_extract rfl rfl) ?_
  refine wpS_put rfl rfl rfl (yv_extract rfl rfl) ?_
  refine wpS_alloc rfl rfl zc_26 hS (fun b56 w hS hB => ?_)
  refine wpS_store rfl rfl rfl CellsOf.agg hS ps0 st0_8 (by kernel_rfl) rfl (fun w hS hB => ?_)
  refine wpS_quick 1 rfl ?_
  refine wpS_nil ?_
  refine QH_seq_k hK49 ?_
  refine wpC_seq_k (fun K hK58 => ?_)
  refine wpC_region ?_
  refine wpS_put rfl rfl rfl (yv_load_boxA ag_26 rfl (RW.here _) hS hs0 trivial sg0_8) ?_
  refine wpS_put rfl rfl rfl (yv_build (cells := [.int .i64 9, .int .i64 3, .int .i64 0, .int .i64 2, .bool false]) rfl (by kernel_rfl)) ?_
  obtain ⟨r59, hm60, H⟩ := bind_some H
  refine wpS_call rfl rfl rfl rfl (by kernel_rfl) rfl (c_tuple_Install r50.1 (⟨9, 3, 0, 2, false⟩ : St) A52 c53 _ (SlI.of_rd k54 (hS.rd hs1) (hS.rd_blk hs1)) hm60) ?_
  rintro e w ⟨A61, c62, rfl, k63, hN⟩; refine ⟨_, rfl, ?_⟩; have hB := hN.pure; have hS := hS.join hN; clear hN
  refine wpS_quick 1 rfl ?_
  refine wpS_put rfl rfl rfl (yv_extract rfl rfl) ?_
  refine wpS_put rfl rfl rfl (yv_extract rfl rfl) ?_
  refine wpS_alloc rfl rfl zc_26 hS (fun b65 w hS hB => ?_)
  refine wpS_store rfl rfl rfl CellsOf.agg hS ps0 st0_8 (by kernel_rfl) rfl (fun w hS hB => ?_)
  refine wpS_quick 1 rfl ?_
  refine wpS_nil ?_
  refine QH_seq_k hK58 ?_
  refine wpC_seq_k (fun K hK67 => ?_)
  refine wpC_region ?_
  refine wpS_put rfl rfl rfl (yv_load_boxA ag_26 rfl (RW.here _) hS hs10 trivial sg0_8) ?_
  obtain ⟨r68, hm69, H⟩ := bind_some H
  refine wpS_call rfl rfl rfl rfl (by kernel_rfl) rfl (c_tuple_Hard r9.1 3 1 A11 c12 _ (SlI.of_rd k13 (hS.rd hs11) (hS.rd_blk hs11)) hm69) ?_
  rintro e w ⟨A70, c71, rfl, k72, hN⟩; refine ⟨_, rfl, ?_⟩; have hB := hN.pure; have hS := hS.join hN; clear hN
  refine wpS_quick 1 rfl ?_
  refine wpS_put rfl rfl rfl (yv_extract rfl rfl) ?_
  refine wpS_put rfl rfl rfl (yv_extract rfl rfl) ?_
  refine wpS_alloc rfl rfl zc_26 hS (fun b74 w hS hB => ?_)
  refine wpS_store rfl rfl rfl CellsOf.agg hS ps0 st0_8 (by kernel_rfl) rfl (fun w hS hB => ?_)
  refine wpS_quick 1 rfl ?_
  refine wpS_nil ?_
  refine QH_seq_k hK67 ?_
  refine wpC_seq_k (fun K hK76 => ?_)
  refine wpC_draw 10 [8] (fun i b => (i = 8 → False)) ⟨by kernel_rfl, by kernel_rfl⟩ hS (fun w hS hB => ?_)
  refine wpRF_start [⟨7, 15, 26, [.int .i64 0, .int .i64 0, .int .i64 0, .int .i64 0, .bool false, .slice none 0 0, .int .i64 0, .int .i64 0]⟩] (.cons rfl zc_26 rfl rfl rfl .nil) hS (fun hok => ?_)
  dsimp only [List.cons_append, List.nil_append]
  refine wpRF_batch [true] [] (fun _ => True) (by decide +kernel) (fun _ h => by cases h) (by repeat (first | exact PF.body | exact PF.round | apply PF.then | apply PF.inBlock | apply PF.jump)) (fun X Y tk ht w hS => ?_)
  refine LtK.put rfl rfl rfl (yv_load_boxA ag_26 rfl (RW.keepB _ _) hS hs12 trivial sg0_8) ?_
  refine LtK_F' ht hS (by repeat (first | exact App.nil | apply App.cons)) (by repeat (first | exact App.nil | apply App.cons)) ?_
  dsimp only [List.cons_append, List.nil_append]
  refine wpRF_call [false, true] 1 hok ⟨by decide, by decide +kernel, by decide, by decide⟩ rfl rfl (fun _ => rfl) (fun _ => rfl) rfl (hend_of (by decide +kernel)) (fun X Y tk ht w hS => ?_)
  dsimp only [pickL]
  refine wpS_sliceM (ps := [(0, .const (.int .i64 1))]) [.int .i64 1] el_74 zc_3 rfl rfl rfl rfl rfl (by kernel_rfl) hS (fun b77 w hS hB => ?_)
  refine wpS_nil ?_
  refine QH_stepF' ht hS hB (by repeat (first | exact App.nil | apply App.cons)) (by repeat (first | exact App.nil | apply App.cons)) ?_
  dsimp only [List.cons_append, List.nil_append]
  refine wpRF_call [false, false, true] 2 hok ⟨by decide, by decide +kernel, by decide, by decide⟩ rfl rfl (fun _ => rfl) (fun _ => rfl) rfl (hend_of (by decide +kernel)) (fun X Y tk ht w hS => ?_)
  dsimp only [pickL]
  obtain ⟨r79, hm80, H⟩ := bind_some H
  refine wpS_call rfl rfl rfl rfl (by kernel_rfl) rfl (c_law12_some 4 ([1] : List Int) (some ⟨b77, 0, none⟩) 1 _ (SlI.of_rd ⟨Nat.le_refl 1, by decide⟩ (hS.box_rd hs0) (hS.box_blk hs0)) hm80) ?_
  rintro e w ⟨A81, c82, rfl, k83, hN⟩; refine ⟨_, rfl, ?_⟩; have hB := hN.pure; have hS := hS.join hN; clear hN
  refine wpS_nil ?_
  refine QH_stepF' ht hS hB (by repeat (first | exact App.nil | apply App.cons)) (by repeat (first | exact App.nil | apply App.cons)) ?_
  dsimp only [List.cons_append, List.nil_append]
  refine wpRF_call [false, false, false, true] 3 hok ⟨by decide, by decide +kernel, by decide, by decide⟩ rfl rfl (fun _ => rfl) (fun _ => rfl) rfl (hend_of (by decide +kernel)) (fun X Y tk ht w hS => ?_)
  dsimp only [pickL]
  obtain ⟨r85, hm86, H⟩ := bind_some H
  refine wpS_call rfl rfl rfl rfl (by kernel_rfl) rfl (c_tuple_Append r9.1 r79 A11 c12 A81 c82 _ (SlI.of_rd k13 (hS.rd hs15) (hS.rd_blk hs15)) (SlI.of_rd k83 (hS.row_rd hs0) (hS.row_blk hs0)) hm86) ?_
  rintro e w ⟨A87, c88, rfl, k89, hN⟩; refine ⟨_, rfl, ?_⟩; have hB := hN.pure; have hS := hS.join hN; clear hN
  refine wpS_nil ?_
  refine QH_stepF' ht hS hB (by repeat (first | exact App.nil | apply App.cons)) (by repeat (first | exact App.nil | apply App.cons)) ?_
  dsimp only [List.cons_append, List.nil_append]
  refine wpRF_batch [false, false, false, false, true, true] [] (fun _ => True) (by decide +kernel) (fun _ h => by cases h) (by repeat (first | exact PF.body | exact PF.round | apply PF.then | apply PF.inBlock | apply PF.jump)) (fun X Y tk ht w hS => ?_)
  refine LtK.put rfl rfl rfl (yv_move rfl) ?_
  refine LtK.put rfl rfl rfl (yv_extract rfl rfl) ?_
  refine LtK_F' ht hS (by repeat (first | exact App.nil | apply App.cons)) (by repeat (first | exact App.nil | apply App.cons)) ?_
  dsimp only [List.cons_append, List.nil_append]
  refine wpRF_batch [false, false, false, false, false, false, true] [8] (fun _ => False) (by decide +kernel) (fun _ _ _ h => h.elim) (by repeat (first | exact PF.body | exact PF.round | apply PF.then | apply PF.inBlock | apply PF.jump)) (fun X Y tk ht w hS => ?_)
  refine LtK.put rfl rfl rfl (yv_extract rfl rfl) ?_
  refine LtK_F' ht hS (by repeat (first | exact App.nil | apply App.cons)) (by repeat (first | exact App.nil | apply App.cons)) ?_
  dsimp only [List.cons_append, List.nil_append]
  refine wpRF_done hok (by decide) (by decide +kernel) (fun _ => rfl) (fun _ => rfl) rfl (fun tk htk w hS => ?_)
  obtain ⟨b91, tkb91, rfl, htk93⟩ := tk_cons htk
  obtain rfl := tk_nil htk93
  dsimp only [tkH, tkL, List.map] at hS ⊢
  refine wpR_seal [false, false, false, false, false, false, false, false, true] 8 ⟨by decide, by kernel_rfl, by kernel_rfl⟩ rfl rfl ?_
  dsimp only [pickL]
  refine wpS_store rfl rfl rfl CellsOf.agg hS ps19 st0_8 (by kernel_rfl) rfl (fun w hS hB => ?_)
  refine wpS_nil ?_
  refine QH_stepG (hB.sub (fun _ _ h => by simp at h)) ?_
  refine wpR_batch [false, false, false, false, false, false, false, false, false, true] (by decide +kernel) (by repeat (first | exact PF.body | exact PF.round | apply PF.then | apply PF.inBlock | apply PF.jump)) ?_
  refine LtK.put rfl rfl rfl (yv_assign rfl) ?_
  refine LtK.nil ?_
  refine wpR_end (by kernel_rfl) ?_
  refine QH_seq_k hK76 ?_
  refine wpC_seq_k (fun K hK94 => ?_)
  refine wpC_region ?_
  refine wpS_put rfl rfl rfl (yv_load_boxA ag_26 rfl (RW.here _) hS hs7 trivial sg0_8) ?_
  obtain ⟨r95, hm96, H⟩ := bind_some H
  refine wpS_call rfl rfl rfl rfl (by kernel_rfl) rfl (c_tuple_TermAt r50.1 2 A52 c53 _ (SlI.of_rd k54 (hS.rd hs8) (hS.rd_blk hs8)) hm96) ?_
  rintro e w ⟨rfl, hN⟩; refine ⟨_, rfl, ?_⟩; have hB := hN.pure; have hS := hS.join hN; clear hN
  refine wpS_quick 1 rfl ?_
  refine wpS_put rfl rfl rfl (yv_extract rfl rfl) ?_
  refine wpS_put rfl rfl rfl (yv_extract rfl rfl) ?_
  refine wpS_quick 2 rfl ?_
  refine wpS_nil ?_
  refine QH_seq_k hK94 ?_
  refine wpC_seq_k (fun K hK97 => ?_)
  refine wpC_region ?_
  obtain ⟨r98, hm99, H⟩ := bind_some H
  refine wpS_call rfl rfl rfl rfl (by kernel_rfl) rfl (c_tuple_First _ hm99) ?_
  rintro e w ⟨A100, c101, rfl, k102, hN⟩; refine ⟨_, rfl, ?_⟩; have hB := hN.pure; have hS := hS.join hN; clear hN
  obtain ⟨r104, hm105, H⟩ := bind_some H
  refine wpS_call rfl rfl rfl rfl (by kernel_rfl) rfl (c_tuple_Last r98 A100 c101 _ (SlI.of_rd k102 (hS.rd hs0) (hS.rd_blk hs0)) hm105) ?_
  rintro e w ⟨rfl, hN⟩; refine ⟨_, rfl, ?_⟩; have hB := hN.pure; have hS := hS.join hN; clear hN
  refine wpS_put rfl rfl rfl (yv_eql rfl rfl) ?_
  refine wpS_quick 1 rfl ?_
  refine wpS_case 73 rfl (fun hb => ?_) (fun hb => ?_)
  · replace H := cond_t H hb
    refine wpS_quick 1 rfl ?_
    refine wpS_put rfl rfl rfl (yv_eql rfl rfl) ?_
    refine wpS_quick 2 rfl ?_
    refine wpS_case 77 rfl (fun hb => ?_) (fun hb => ?_)
    · replace H := cond_t H hb
      refine wpS_quick 1 rfl ?_
      refine wpS_put rfl rfl rfl (yv_eql rfl rfl) ?_
      refine wpS_quick 2 rfl ?_
      refine wpS_case 81 rfl (fun hb => ?_) (fun hb => ?_)
      · replace H := cond_t H hb
        refine wpS_put rfl rfl rfl (yv_load_boxA ag_26 rfl (RW.here _) hS hs19 trivial sg0_8) ?_
        obtain ⟨r106, hm107, H⟩ := bind_some H
        refine wpS_call rfl rfl rfl rfl (by kernel_rfl) rfl (c_tuple_Last r26.1 A28 c29 _ (SlI.of_rd k30 (hS.rd hs13) (hS.rd_blk hs13)) hm107) ?_
        rintro e w ⟨rfl, hN⟩; refine ⟨_, rfl, ?_⟩; have hB := hN.pure; have hS := hS.join hN; clear hN
        refine wpS_put rfl rfl rfl (yv_eql rfl rfl) ?_
        refine wpS_quick 2 rfl ?_
        refine wpS_case 86 rfl (fun hb => ?_) (fun hb => ?_)
        · replace H := cond_t H hb
          refine wpS_quick 1 rfl ?_
          refine wpS_put rfl rfl rfl (yv_eql rfl rfl) ?_
          refine wpS_quick 2 rfl ?_
          refine wpS_case 90 rfl (fun hb => ?_) (fun hb => ?_)
          · replace H := cond_t H hb
            refine wpS_put rfl rfl rfl (yv_fieldAddr fo_26_1 rfl) ?_
            refine wpS_put rfl rfl rfl (yv_load_box sc_24 rfl (RW.here _) hS hs11 trivial sg5_1) ?_
            refine wpS_put rfl rfl rfl (yv_len el_24 rfl) ?_
            refine wpS_put rfl rfl rfl (yv_eql rfl rfl) ?_
            refine wpS_quick 2 rfl ?_
            refine wpS_case 96 rfl (fun hb => ?_) (fun hb => ?_)
            · replace H := cond_t H hb
              refine wpS_quick 3 rfl ?_
              refine wpS_case 99 rfl (fun hb => ?_) (fun hb => ?_)
              · replace H := cond_t H hb
                refine wpS_put rfl rfl rfl (yv_fieldAddr fo_23_2 rfl) ?_
                refine wpS_put rfl rfl rfl (yv_load_box sc_3 rfl (RW.here _) hS hs10 trivial sg2_1) ?_
                refine wpS_put rfl rfl rfl (yv_eql rfl rfl) ?_
                refine wpS_quick 2 rfl ?_
                refine wpS_case 104 rfl (fun hb => ?_) (fun hb => ?_)
                · replace H := cond_t H hb
                  refine wpS_quick 1 rfl ?_
                  refine wpS_put rfl rfl rfl (yv_eql rfl rfl) ?_
                  refine wpS_quick 2 rfl ?_
                  refine wpS_case 108 rfl (fun hb => ?_) (fun hb => ?_)
                  · replace H := cond_t H hb
                    refine wpS_put rfl rfl rfl (yv_fieldAddr fo_26_0 rfl) ?_
                    refine wpS_put rfl rfl rfl (yv_load_boxA ag_23 rfl (RW.here _) hS hs8 trivial sg0_5) ?_
                    refine wpS_put rfl rfl rfl (yv_load_boxA ag_23 rfl (RW.here _) hS hs10 trivial sg0_5) ?_
                    refine wpS_put rfl rfl rfl (yv_eqlS (by kernel_rfl) rfl rfl (eqT_23 _ _ _ _ _ _ _ _ _ _)) ?_
                    refine wpS_quick 2 rfl ?_
                    refine wpS_case 114 rfl (fun hb => ?_) (fun hb => ?_)
                    · replace H := cond_t H hb
                      refine wpS_put rfl rfl rfl (yv_fieldAddr fo_26_1 rfl) ?_
                      refine wpS_put rfl rfl rfl (yv_load_box sc_24 rfl (RW.here _) hS hs8 trivial sg5_1) ?_
                      refine wpS_put rfl rfl rfl (yv_len el_24 rfl) ?_
                      refine wpS_put rfl rfl rfl (yv_eql rfl rfl) ?_
                      refine wpS_quick 2 rfl ?_
                      refine wpS_case 120 rfl (fun hb => ?_) (fun hb => ?_)
                      · replace H := cond_t H hb
                        refine wpS_quick 1 rfl ?_
                        refine wpS_put rfl rfl rfl (yv_eql rfl rfl) ?_
                        refine wpS_quick 2 rfl ?_
                        refine wpS_case 124 rfl (fun hb => ?_) (fun hb => ?_)
                        · replace H := cond_t H hb
                          refine wpS_put rfl rfl rfl (yv_fieldAddr fo_26_1 rfl) ?_
                          refine wpS_put rfl rfl rfl (yv_load_box sc_24 rfl (RW.here _) hS hs6 trivial sg5_1) ?_
                          refine wpS_put rfl rfl rfl (yv_len el_24 rfl) ?_
                          refine wpS_put rfl rfl rfl (yv_eql rfl rfl) ?_
                          refine wpS_quick 2 rfl ?_
                          refine wpS_case 130 rfl (fun hb => ?_) (fun hb => ?_)
                          · replace H := cond_t H hb
                            refine wpS_put rfl rfl rfl (yv_fieldAddr fo_26_3 rfl) ?_
                            refine wpS_put rfl rfl rfl (yv_load_box sc_3 rfl (RW.here _) hS hs6 trivial sg7_1) ?_
                            refine wpS_put rfl rfl rfl (yv_eql rfl rfl) ?_
                            refine wpS_quick 2 rfl ?_
                            refine wpS_case 135 rfl (fun hb => ?_) (fun hb => ?_)
                            · replace H := cond_t H hb
                              refine wpS_quick 1 rfl ?_
                              refine wpS_put rfl rfl rfl (yv_eql rfl rfl) ?_
                              refine wpS_quick 2 rfl ?_
                              refine wpS_case 139 rfl (fun hb => ?_) (fun hb => ?_)
                              · replace H := cond_t H hb
                                refine wpS_quick 1 rfl ?_
                                refine wpS_put rfl rfl rfl (yv_eql rfl rfl) ?_
                                refine wpS_quick 2 rfl ?_
                                refine wpS_case 143 rfl (fun hb => ?_) (fun hb => ?_)
                                · replace H := cond_t H hb
                                  refine wpS_quick 1 rfl ?_
                                  refine wpS_put rfl rfl rfl (yv_eql rfl rfl) ?_
                                  refine wpS_quick 2 rfl ?_
                                  refine wpS_case 147 rfl (fun hb => ?_) (fun hb => ?_)
                                  · replace H := cond_t H hb
                                    refine wpS_quick 3 rfl ?_
                                    refine wpS_case 150 rfl (fun hb => ?_) (fun hb => ?_)
                                    · replace H := cond_t H hb
                                      refine wpS_put rfl rfl rfl (yv_load_boxA ag_26 rfl (RW.here _) hS hs6 trivial sg0_8) ?_
                                      obtain ⟨r108, hm109, H⟩ := bind_some H
                                      refine wpS_call rfl rfl rfl rfl (by kernel_rfl) rfl (c_tuple_Right r59.1 A61 c62 _ (SlI.of_rd k63 (hS.rd hs7) (hS.rd_blk hs7)) hm109) ?_
                                      rintro e w ⟨rfl, hN⟩; refine ⟨_, rfl, ?_⟩; have hB := hN.pure; have hS := hS.join hN; clear hN
                                      refine wpS_quick 2 rfl ?_
                                      refine wpS_case 154 rfl (fun hb => ?_) (fun hb => ?_)
                                      · replace H := cond_t H hb
                                        refine wpS_put rfl rfl rfl (yv_build (cells := [.int .i64 0, .int .i64 0, .int .i64 0, .int .i64 0, .bool false, .slice none 0 0, .int .i64 0, .int .i64 0]) rfl (by kernel_rfl)) ?_
                                        obtain ⟨r110, hm111, H⟩ := bind_some H
                                        refine wpS_call rfl rfl rfl rfl (by kernel_rfl) rfl (c_tuple_Right (⟨(⟨0, 0, 0, 0, false⟩ : St), [], 0, 0⟩ : Tu) none 0 _ (SlI.nil _ _) hm111) ?_
                                        rintro e w ⟨rfl, hN⟩; refine ⟨_, rfl, ?_⟩; have hB := hN.pure; have hS := hS.join hN; clear hN
                                        refine wpS_put rfl rfl rfl (yv_not rfl) ?_
                                        refine wpS_quick 2 rfl ?_
                                        refine wpS_nil ?_
                                        refine QH_seq_k hK97 ?_
                                        refine wpC_ret ?_
                                        refine QH_ret rfl (RV.tmp rfl RV.nil) rfl ?_
                                        obtain rfl := Option.some.inj H
                                        replace hS := hS.cut 0
                                        exact ⟨rfl, hS⟩
                                      · replace H := cond_f H hb
                                        refine wpS_quick 5 rfl ?_
                                        refine wpS_nil ?_
                                        refine QH_seq_k hK97 ?_
                                        refine wpC_ret ?_
                                        refine QH_ret rfl (RV.tmp rfl RV.nil) rfl ?_
                                        obtain rfl := Option.some.inj H
                                        replace hS := hS.cut 0
                                        exact ⟨rfl, hS⟩
                                    · replace H := cond_f H hb
                                      refine wpS_quick 9 rfl ?_
                                      refine wpS_nil ?_
                                      refine QH_seq_k hK97 ?_
                                      refine wpC_ret ?_
                                      refine QH_ret rfl (RV.tmp rfl RV.nil) rfl ?_
                                      obtain rfl := Option.some.inj H
                                      replace hS := hS.cut 0
                                      exact ⟨rfl, hS⟩
                                  · replace H := cond_f H hb
                                    refine wpS_quick 12 rfl ?_
                                    refine wpS_nil ?_
                                    refine QH_seq_k hK97 ?_
                                    refine wpC_ret ?_
                                    refine QH_ret rfl (RV.tmp rfl RV.nil) rfl ?_
                                    obtain rfl := Option.some.inj H
                                    replace hS := hS.cut 0
                                    exact ⟨rfl, hS⟩
                                · replace H := cond_f H hb
                                  refine wpS_quick 16 rfl ?_
                                  refine wpS_nil ?_
                                  refine QH_seq_k hK97 ?_
                                  refine wpC_ret ?_
                                  refine QH_ret rfl (RV.tmp rfl RV.nil) rfl ?_
                                  obtain rfl := Option.some.inj H
                                  replace hS := hS.cut 0
                                  exact ⟨rfl, hS⟩
                              · replace H := cond_f H hb
                                refine wpS_quick 20 rfl ?_
                                refine wpS_nil ?_
                                refine QH_seq_k hK97 ?_
                                refine wpC_ret ?_
                                refine QH_ret rfl (RV.tmp rfl RV.nil) rfl ?_
                                obtain rfl := Option.some.inj H
                                replace hS := hS.cut 0
                                exact ⟨rfl, hS⟩
                            · replace H := cond_f H hb
                              refine wpS_quick 24 rfl ?_
                              refine wpS_nil ?_
                              refine QH_seq_k hK97 ?_
                              refine wpC_ret ?_
                              refine QH_ret rfl (RV.tmp rfl RV.nil) rfl ?_
                              obtain rfl := Option.some.inj H
                              replace hS := hS.cut 0
                              exact ⟨rfl, hS⟩
                          · replace H := cond_f H hb
                            refine wpS_quick 29 rfl ?_
                            refine wpS_nil ?_
                            refine QH_seq_k hK97 ?_
                            refine wpC_ret ?_
                            refine QH_ret rfl (RV.tmp rfl RV.nil) rfl ?_
                            obtain rfl := Option.some.inj H
                            replace hS := hS.cut 0
                            exact ⟨rfl, hS⟩
                        · replace H := cond_f H hb
                          refine wpS_quick 35 rfl ?_
                          refine wpS_nil ?_
                          refine QH_seq_k hK97 ?_
                          refine wpC_ret ?_
                          refine QH_ret rfl (RV.tmp rfl RV.nil) rfl ?_
                          obtain rfl := Option.some.inj H
                          replace hS := hS.cut 0
                          exact ⟨rfl, hS⟩
                      · replace H := cond_f H hb
                        refine wpS_quick 39 rfl ?_
                        refine wpS_nil ?_
                        refine QH_seq_k hK97 ?_
                        refine wpC_ret ?_
                        refine QH_ret rfl (RV.tmp rfl RV.nil) rfl ?_
                        obtain rfl := Option.some.inj H
                        replace hS := hS.cut 0
                        exact ⟨rfl, hS⟩
                    · replace H := cond_f H hb
                      refine wpS_quick 45 rfl ?_
                      refine wpS_nil ?_
                      refine QH_seq_k hK97 ?_
                      refine wpC_ret ?_
                      refine QH_ret rfl (RV.tmp rfl RV.nil) rfl ?_
                      obtain rfl := Option.some.inj H
                      replace hS := hS.cut 0
                      exact ⟨rfl, hS⟩
                  · replace H := cond_f H hb
                    refine wpS_quick 51 rfl ?_
                    refine wpS_nil ?_
                    refine QH_seq_k hK97 ?_
                    refine wpC_ret ?_
                    refine QH_ret rfl (RV.tmp rfl RV.nil) rfl ?_
                    obtain rfl := Option.some.inj H
                    replace hS := hS.cut 0
                    exact ⟨rfl, hS⟩
                · replace H := cond_f H hb
                  refine wpS_quick 55 rfl ?_
                  refine wpS_nil ?_
                  refine QH_seq_k hK97 ?_
                  refine wpC_ret ?_
                  refine QH_ret rfl (RV.tmp rfl RV.nil) rfl ?_
                  obtain rfl := Option.some.inj H
                  replace hS := hS.cut 0
                  exact ⟨rfl, hS⟩
              · replace H := cond_f H hb
                refine wpS_quick 60 rfl ?_
                refine wpS_nil ?_
                refine QH_seq_k hK97 ?_
                refine wpC_ret ?_
                refine QH_ret rfl (RV.tmp rfl RV.nil) rfl ?_
                obtain rfl := Option.some.inj H
                replace hS := hS.cut 0
                exact ⟨rfl, hS⟩
            · replace H := cond_f H hb
              refine wpS_quick 63 rfl ?_
              refine wpS_nil ?_
              refine QH_seq_k hK97 ?_
              refine wpC_ret ?_
              refine QH_ret rfl (RV.tmp rfl RV.nil) rfl ?_
              obtain rfl := Option.some.inj H
              replace hS := hS.cut 0
              exact ⟨rfl, hS⟩
          · replace H := cond_f H hb
            refine wpS_quick 69 rfl ?_
            refine wpS_nil ?_
            refine QH_seq_k hK97 ?_
            refine wpC_ret ?_
            refine QH_ret rfl (RV.tmp rfl RV.nil) rfl ?_
            obtain rfl := Option.some.inj H
            replace hS := hS.cut 0
            exact ⟨rfl, hS⟩
        · replace H := cond_f H hb
          refine wpS_quick 73 rfl ?_
          refine wpS_nil ?_
          refine QH_seq_k hK97 ?_
          refine wpC_ret ?_
          refine QH_ret rfl (RV.tmp rfl RV.nil) rfl ?_
          obtain rfl := Option.some.inj H
          replace hS := hS.cut 0
          exact ⟨rfl, hS⟩
      · replace H := cond_f H hb
        refine wpS_quick 78 rfl ?_
        refine wpS_nil ?_
        refine QH_seq_k hK97 ?_
        refine wpC_ret ?_
        refine QH_ret rfl (RV.tmp rfl RV.nil) rfl ?_
        obtain rfl := Option.some.inj H
        replace hS := hS.cut 0
        exact ⟨rfl, hS⟩
    · replace H := cond_f H hb
      refine wpS_quick 82 rfl ?_
      refine wpS_nil ?_
      refine QH_seq_k hK97 ?_
      refine wpC_ret ?_
      refine QH_ret rfl (RV.tmp rfl RV.nil) rfl ?_
      obtain rfl := Option.some.inj H
      replace hS := hS.cut 0
      exact ⟨rfl, hS⟩
  · replace H := cond_f H hb
    refine wpS_quick 86 rfl ?_
    refine wpS_nil ?_
    refine QH_seq_k hK97 ?_
    refine wpC_ret ?_
    refine QH_ret rfl (RV.tmp rfl RV.nil) rfl ?_
    obtain rfl := Option.some.inj H
    replace hS := hS.cut 0
    exact ⟨rfl, hS⟩
theorem c_ref06_Same (x0 : List En) (x1 : List En) (A0_ : Option Addr) (c0_ : Nat) (A1_ : Option Addr) (c1_ : Nat) (w0 : World) (s0_ : SlI w0 enE A0_ c0_ x0) (s1_ : SlI w0 enE A1_ c1_ x1) {r : Bool} (H : m_ref06_Same x0 x1 = some r) : Calls Try.prog 18 #[.slice A0_ x0.length c0_, .slice A1_ x1.length c1_] w0 fun e w' => e = .returned (.bool r) ∧ St0 All w0 w' [] := by
  unfold m_ref06_Same at H
  refine gw_enter2 Try.func18 rfl Try.ntmps18 rfl ?_
  have hS := St0.start All w0
  refine wpC_seq_k (fun K hK1 => ?_)
  refine wpC_region ?_
  refine wpS_quick 1 rfl ?_
  refine wpS_nil ?_
  refine QH_seq_k hK1 ?_
  refine wpC_seq_k (fun K hK2 => ?_)
  refine wpC_seq_k (fun K hK3 => ?_)
  refine wpC_region ?_
  refine wpS_quick 1 rfl ?_
  refine wpS_put rfl rfl rfl (yv_len el_24 rfl) ?_
  refine wpS_quick 1 rfl ?_
  refine wpS_put rfl rfl rfl (yv_len el_24 rfl) ?_
  refine wpS_put rfl rfl rfl (yv_neq rfl rfl) ?_
  refine wpS_nil ?_
  refine QH_seq_k hK3 ?_
  refine wpC_cond rfl (fun hb => ?_) (fun hb => ?_)
  · replace H := cond_t H hb
    refine wpC_seq_k (fun K hK4 => ?_)
    refine wpC_region ?_
    refine wpS_quick 1 rfl ?_
    refine wpS_nil ?_
    refine QH_seq_k hK4 ?_
    refine wpC_ret ?_
    refine QH_then_ret ?_
    refine QH_ret rfl (RV.tmp rfl RV.nil) rfl ?_
    obtain rfl := Option.some.inj H
    replace hS := hS.cut 0
    exact ⟨rfl, hS⟩
  · replace H := cond_f H hb
    refine wpC_skip ?_
    refine QH_seq_k hK2 ?_
    refine wpC_seq_k (fun K hK5 => ?_)
    refine wpC_seq_k (fun K hK6 => ?_)
    refine wpC_region ?_
    refine wpS_quick 1 rfl ?_
    refine wpS_nil ?_
    refine QH_seq_k hK6 ?_
    refine wpC_block ?_
    refine wpC_loop (X := Nat × Bool × Int) (fun x => [(0, .slice A0_ x0.length c0_), (1, .slice A1_ x1.length c1_), (4, .bool x.2.1), (5, .int .i64 x.2.2)]) (fun x w => St0 All w0 w [] ∧ m_ref06_Same_l1 x0 x1 x.1 x.2.1 x.2.2 = some r) (fun x => x.1) (fuelN, false, 0) (by repeat (first | exact Sub.nil | refine Sub.cons rfl ?_)) ⟨hS, H⟩ ?_
    rintro ⟨n, v7, v8⟩ w ⟨hS, H⟩
    dsimp only at hS H ⊢
    obtain _ | n := n
    · have H0 : none = some r := H
      cases H0
    rw [m_ref06_Same_l1] at H
    refine wpC_seq_k (fun K hK9 => ?_)
    refine wpC_seq_k (fun K hK10 => ?_)
    refine wpC_region ?_
    refine wpS_quick 2 rfl ?_
    refine wpS_put rfl rfl rfl (yv_len el_24 rfl) ?_
    refine wpS_put rfl rfl rfl (yv_lss rfl rfl) ?_
    refine wpS_nil ?_
    refine QH_seq_k hK10 ?_
    refine wpC_cond rfl (fun hb => ?_) (fun hb => ?_)
    · replace H := cond_t H hb
      refine wpC_skip ?_
      refine QH_seq_k hK9 ?_
      refine wpC_seq_k (fun K hK11 => ?_)
      refine wpC_block ?_
      refine wpC_seq_k (fun K hK12 => ?_)
      refine wpC_draw 9 [] (fun _ _ => True) ⟨by kernel_rfl, by kernel_rfl⟩ hS (fun w hS hB => ?_)
      refine wpR_batch [true, true, true, true, true, true, true, true, true] (by decide +kernel) (by repeat (first | exact PF.body | exact PF.round | apply PF.then | apply PF.inBlock | apply PF.jump)) ?_
      refine LtK.put rfl rfl rfl (yv_move rfl) ?_
      refine LtK.put rfl rfl rfl (yv_move rfl) ?_
      obtain ⟨e13, hi15, H⟩ := bind_some H
      obtain ⟨j14, hi15a, hi15b, hi15c⟩ := idx_some hi15
      refine LtK.put rfl rfl rfl (yx_idx el_24 rfl rfl hi15a hi15c (Rd.el (hS.rd0 s0_.rd) he_enE hi15b)) ?_
      refine LtK.put rfl rfl rfl (yx_ldA0 ag_50 rfl (RW.below _) (Rd.el (hS.rd0 s0_.rd) he_enE hi15b) sg0_3) ?_
      refine LtK.put rfl rfl rfl (yv_move rfl) ?_
      refine LtK.put rfl rfl rfl (yv_move rfl) ?_
      obtain ⟨e16, hi18, H⟩ := bind_some H
      obtain ⟨j17, hi18a, hi18b, hi18c⟩ := idx_some hi18
      refine LtK.put rfl rfl rfl (yx_idx el_24 rfl rfl hi18a hi18c (Rd.el (hS.rd0 s1_.rd) he_enE hi18b)) ?_
      refine LtK.put rfl rfl rfl (yx_ldA0 ag_50 rfl (RW.below _) (Rd.el (hS.rd0 s1_.rd) he_enE hi18b) sg0_3) ?_
      refine LtK.put rfl rfl rfl (yv_neqS (by kernel_rfl) rfl rfl (eqT_50 _ _ _ _ _ _)) ?_
      refine LtK.nil ?_
      refine wpR_end (by kernel_rfl) ?_
      refine QH_seq_k hK12 ?_
      refine wpC_cond rfl (fun hb => ?_) (fun hb => ?_)
      · replace H := cond_t H hb
        refine wpC_seq_k (fun K hK19 => ?_)
        refine wpC_region ?_
        refine wpS_quick 1 rfl ?_
        refine wpS_nil ?_
        refine QH_seq_k hK19 ?_
        refine wpC_ret ?_
        refine QH_block_ret ?_
        refine QH_then_ret ?_
        refine QH_then_ret ?_
        refine QH_block_ret ?_
        refine QH_then_ret ?_
        refine QH_ret rfl (RV.tmp rfl RV.nil) rfl ?_
        obtain rfl := Option.some.inj H
        replace hS := hS.cut 0
        exact ⟨rfl, hS⟩
      · replace H := cond_f H hb
        refine wpC_skip ?_
        refine QH_block_normal ?_
        refine QH_seq_k hK11 ?_
        refine wpC_region ?_
        refine wpS_quick 1 rfl ?_
        refine wpS_put rfl rfl rfl (yx_add rfl rfl) ?_
        refine wpS_quick 1 rfl ?_
        refine wpS_nil ?_
        exact QH_again (n, v7, (IntKind.wrap .i64 (v8 + 1))) (by repeat (first | exact Sub.nil | refine Sub.cons rfl ?_)) ⟨hS, H⟩ (Nat.lt_succ_self _)
    · replace H := cond_f H hb
      refine wpC_exit ?_
      refine QH_then_exit ?_
      refine QH_then_exit ?_
      refine QH_block_hit ?_
      refine QH_seq_k hK5 ?_
      refine wpC_seq_k (fun K hK20 => ?_)
      refine wpC_region ?_
      refine wpS_quick 1 rfl ?_
      refine wpS_nil ?_
      refine QH_seq_k hK20 ?_
      refine wpC_ret ?_
      refine QH_ret rfl (RV.tmp rfl RV.nil) rfl ?_
      obtain rfl := Option.some.inj H
      replace hS := hS.cut 0
      exact ⟨rfl, hS⟩
theorem c_ref12_Same (x0 : Tu) (x1 : Tu) (A0_ : Option Addr) (c0_ : Nat) (A1_ : Option Addr) (c1_ : Nat) (w0 : World) (s0_ : SlI w0 enE A0_ c0_ x0.log) (s1_ : SlI w0 enE A1_ c1_ x1.log) {r : Bool} (H : m_ref12_Same x0 x1 = some r) : Calls Try.prog 11 #[.agg #[.int .i64 x0.snap.index, .int .i64 x0.snap.term, .int .i64 x0.snap.sum, .int .i64 x0.snap.level, .bool x0.snap.final, .slice A0_ x0.log.length c0_, .int .i64 x0.term, .int .i64 x0.vote], .agg #[.int .i64 x1.snap.index, .int .i64 x1.snap.term, .int .i64 x1.snap.sum, .int .i64 x1.snap.level, .bool x1.snap.final, .slice A1_ x1.log.length c1_, .int .i64 x1.term, .int .i64 x1.vote]] w0 fun e w' => e = .returned (.bool r) ∧ St0 All w0 w' [] := by
  unfold m_ref12_Same at H
  refine gw_enter2 Try.func11 rfl Try.ntmps11 rfl ?_
  have hS := St0.start All w0
  refine wpC_seq_k (fun K hK1 => ?_)
  refine wpC_region ?_
  refine wpS_box rfl rfl rfl CellsOf.agg hS (fun b2 w hS hB => ?_)
  refine wpS_box rfl rfl rfl CellsOf.agg hS (fun b4 w hS hB => ?_)
  refine wpS_quick 1 rfl ?_
  refine wpS_nil ?_
  refine QH_seq_k hK1 ?_
  refine wpC_seq_k (fun K hK6 => ?_)
  refine wpC_region ?_
  refine wpS_put rfl rfl rfl (yv_fieldAddr fo_26_0 rfl) ?_
  refine wpS_put rfl rfl rfl (yv_load_boxA ag_23 rfl (RW.here _) hS hs1 trivial sg0_5) ?_
  refine wpS_put rfl rfl rfl (yv_fieldAddr fo_26_0 rfl) ?_
  refine wpS_put rfl rfl rfl (yv_load_boxA ag_23 rfl (RW.here _) hS hs0 trivial sg0_5) ?_
  refine wpS_put rfl rfl rfl (yv_eqlS (by kernel_rfl) rfl rfl (eqT_23 _ _ _ _ _ _ _ _ _ _)) ?_
  refine wpS_quick 1 rfl ?_
  refine wpS_case 10 rfl (fun hb => ?_) (fun hb => ?_)
  · replace H := cond_t H hb
    refine wpS_put rfl rfl rfl (yv_fieldAddr fo_26_2 rfl) ?_
    refine wpS_put rfl rfl rfl (yv_load_box sc_3 rfl (RW.here _) hS hs1 trivial sg6_1) ?_
    refine wpS_put rfl rfl rfl (yv_fieldAddr fo_26_2 rfl) ?_
    refine wpS_put rfl rfl rfl (yv_load_box sc_3 rfl (RW.here _) hS hs0 trivial sg6_1) ?_
    refine wpS_put rfl rfl rfl (yv_eql rfl rfl) ?_
    refine wpS_quick 2 rfl ?_
    refine wpS_case 17 rfl (fun hb => ?_) (fun hb => ?_)
    · replace H := cond_t H hb
      refine wpS_put rfl rfl rfl (yv_fieldAddr fo_26_3 rfl) ?_
      refine wpS_put rfl rfl rfl (yv_load_box sc_3 rfl (RW.here _) hS hs1 trivial sg7_1) ?_
      refine wpS_put rfl rfl rfl (yv_fieldAddr fo_26_3 rfl) ?_
      refine wpS_put rfl rfl rfl (yv_load_box sc_3 rfl (RW.here _) hS hs0 trivial sg7_1) ?_
      refine wpS_put rfl rfl rfl (yv_eql rfl rfl) ?_
      refine wpS_quick 2 rfl ?_
      refine wpS_case 24 rfl (fun hb => ?_) (fun hb => ?_)
      · replace H := cond_t H hb
        refine wpS_put rfl rfl rfl (yv_fieldAddr fo_26_1 rfl) ?_
        refine wpS_put rfl rfl rfl (yv_load_box sc_24 rfl (RW.here _) hS hs1 trivial sg5_1) ?_
        refine wpS_put rfl rfl rfl (yv_fieldAddr fo_26_1 rfl) ?_
        refine wpS_put rfl rfl rfl (yv_load_box sc_24 rfl (RW.here _) hS hs0 trivial sg5_1) ?_
        obtain ⟨r7, hm8, H⟩ := bind_some H
        refine wpS_call rfl rfl rfl rfl (by kernel_rfl) rfl (c_ref06_Same x0.log x1.log A0_ c0_ A1_ c1_ _ (SlI.of_rd s0_.k (hS.rd0 s0_.rd) (hS.blk0 s0_.blk)) (SlI.of_rd s1_.k (hS.rd0 s1_.rd) (hS.blk0 s1_.blk)) hm8) ?_
        rintro e w ⟨rfl, hN⟩; refine ⟨_, rfl, ?_⟩; have hB := hN.pure; have hS := hS.join hN; clear hN
        refine wpS_quick 2 rfl ?_
        refine wpS_nil ?_
        refine QH_seq_k hK6 ?_
        refine wpC_ret ?_
        refine QH_ret rfl (RV.tmp rfl RV.nil) rfl ?_
        obtain rfl := Option.some.inj H
        replace hS := hS.cut 0
        exact ⟨rfl, hS⟩
      · replace H := cond_f H hb
        refine wpS_quick 7 rfl ?_
        refine wpS_nil ?_
        refine QH_seq_k hK6 ?_
        refine wpC_ret ?_
        refine QH_ret rfl (RV.tmp rfl RV.nil) rfl ?_
        obtain rfl := Option.some.inj H
        replace hS := hS.cut 0
        exact ⟨rfl, hS⟩
    · replace H := cond_f H hb
      refine wpS_quick 14 rfl ?_
      refine wpS_nil ?_
      refine QH_seq_k hK6 ?_
      refine wpC_ret ?_
      refine QH_ret rfl (RV.tmp rfl RV.nil) rfl ?_
      obtain rfl := Option.some.inj H
      replace hS := hS.cut 0
      exact ⟨rfl, hS⟩
  · replace H := cond_f H hb
    refine wpS_quick 21 rfl ?_
    refine wpS_nil ?_
    refine QH_seq_k hK6 ?_
    refine wpC_ret ?_
    refine QH_ret rfl (RV.tmp rfl RV.nil) rfl ?_
    obtain rfl := Option.some.inj H
    replace hS := hS.cut 0
    exact ⟨rfl, hS⟩
theorem c_law12_TupleSaves (x0 : Tu) (x1 : Int) (x2 : Int) (A0_ : Option Addr) (c0_ : Nat) (w0 : World) (s0_ : SlI w0 enE A0_ c0_ x0.log) {r : Bool} (H : m_law12_TupleSaves x0 x1 x2 = some r) : Calls Try.prog 4 #[.agg #[.int .i64 x0.snap.index, .int .i64 x0.snap.term, .int .i64 x0.snap.sum, .int .i64 x0.snap.level, .bool x0.snap.final, .slice A0_ x0.log.length c0_, .int .i64 x0.term, .int .i64 x0.vote], .int .i64 x1, .int .i64 x2] w0 fun e w' => e = .returned (.bool r) ∧ St0 All w0 w' [] := by
  unfold m_law12_TupleSaves at H
  refine gw_enter3 Try.func4 rfl Try.ntmps4 rfl ?_
  have hS := St0.start All w0
  refine wpC_seq_k (fun K hK1 => ?_)
  refine wpC_region ?_
  refine wpS_box rfl rfl rfl CellsOf.agg hS (fun b2 w hS hB => ?_)
  refine wpS_quick 1 rfl ?_
  refine wpS_nil ?_
  refine QH_seq_k hK1 ?_
  refine wpC_seq_k (fun K hK4 => ?_)
  refine wpC_seq_k (fun K hK5 => ?_)
  refine wpC_region ?_
  refine wpS_put rfl rfl rfl (yv_load_boxA ag_26 rfl (RW.here _) hS hs0 trivial sg0_8) ?_
  obtain ⟨r6, hm7, H⟩ := bind_some H
  refine wpS_call rfl rfl rfl rfl (by kernel_rfl) rfl (c_ref12_Right x0 A0_ c0_ _ (SlI.of_rd s0_.k (hS.rd0 s0_.rd) (hS.blk0 s0_.blk)) hm7) ?_
  rintro e w ⟨rfl, hN⟩; refine ⟨_, rfl, ?_⟩; have hB := hN.pure; have hS := hS.join hN; clear hN
  refine wpS_put rfl rfl rfl (yv_not rfl) ?_
  refine wpS_nil ?_
  refine QH_seq_k hK5 ?_
  refine wpC_cond rfl (fun hb => ?_) (fun hb => ?_)
  · replace H := cond_t H hb
    refine wpC_seq_k (fun K hK8 => ?_)
    refine wpC_region ?_
    obtain ⟨r9, hm10, H⟩ := bind_some H
    refine wpS_call rfl rfl rfl rfl (by kernel_rfl) rfl (c_law12_wakes _ hm10) ?_
    rintro e w ⟨rfl, hN⟩; refine ⟨_, rfl, ?_⟩; have hB := hN.pure; have hS := hS.join hN; clear hN
    refine wpS_quick 1 rfl ?_
    refine wpS_nil ?_
    refine QH_seq_k hK8 ?_
    refine wpC_ret ?_
    refine QH_then_ret ?_
    refine QH_ret rfl (RV.tmp rfl RV.nil) rfl ?_
    obtain rfl := Option.some.inj H
    replace hS := hS.cut 0
    exact ⟨rfl, hS⟩
  · replace H := cond_f H hb
    refine wpC_skip ?_
    refine QH_seq_k hK4 ?_
    refine wpC_seq_k (fun K hK11 => ?_)
    refine wpC_region ?_
    refine wpS_put rfl rfl rfl (yv_fieldAddr fo_26_1 rfl) ?_
    refine wpS_put rfl rfl rfl (yv_load_box sc_24 rfl (RW.here _) hS hs0 trivial sg5_1) ?_
    refine wpS_put rfl rfl rfl (yv_len el_24 rfl) ?_
    refine wpS_put rfl rfl rfl (yx_add rfl rfl) ?_
    refine wpS_quick 1 rfl ?_
    refine wpS_nil ?_
    refine QH_seq_k hK11 ?_
    refine wpC_seq_k (fun K hK12 => ?_)
    refine wpC_draw 12 [] (fun _ _ => True) ⟨by kernel_rfl, by kernel_rfl⟩ hS (fun w hS hB => ?_)
    refine wpR_batch [true, true, true, true, true, true, true, true, true, true, true, true] (by decide +kernel) (by repeat (first | exact PF.body | exact PF.round | apply PF.then | apply PF.inBlock | apply PF.jump)) ?_
    refine LtK.put rfl rfl rfl (yv_fieldAddr fo_26_0 rfl) ?_
    refine LtK.put rfl rfl rfl (yv_fieldAddr fo_23_0 rfl) ?_
    refine LtK.put rfl rfl rfl (yv_load_box sc_3 rfl (RW.below _) hS hs0 trivial sg0_1) ?_
    refine LtK.put rfl rfl rfl (yv_move rfl) ?_
    refine LtK.put rfl rfl rfl (yv_move rfl) ?_
    obtain ⟨q13, hq14, H⟩ := bind_some H
    obtain ⟨hq14n, rfl⟩ := remI_some hq14
    refine LtK.put rfl rfl rfl (yx_rem rfl rfl hq14n) ?_
    refine LtK.put rfl rfl rfl (yv_move rfl) ?_
    refine LtK.put rfl rfl rfl (yx_add rfl rfl) ?_
    refine LtK.put rfl rfl rfl (yv_move rfl) ?_
    obtain ⟨q15, hq16, H⟩ := bind_some H
    obtain ⟨hq16n, rfl⟩ := remI_some hq16
    refine LtK.put rfl rfl rfl (yx_rem rfl rfl hq16n) ?_
    refine LtK.put rfl rfl rfl (yx_add rfl rfl) ?_
    refine LtK.put rfl rfl rfl (yv_assign rfl) ?_
    refine LtK.nil ?_
    refine wpR_end (by kernel_rfl) ?_
    refine QH_seq_k hK12 ?_
    refine wpC_seq_k (fun K hK17 => ?_)
    refine wpC_draw 12 [] (fun _ _ => True) ⟨by kernel_rfl, by kernel_rfl⟩ hS (fun w hS hB => ?_)
    refine wpR_batch [true, true, true, true, true, true, true, true, true, true, true, true] (by decide +kernel) (by repeat (first | exact PF.body | exact PF.round | apply PF.then | apply PF.inBlock | apply PF.jump)) ?_
    refine LtK.put rfl rfl rfl (yv_fieldAddr fo_26_0 rfl) ?_
    refine LtK.put rfl rfl rfl (yv_fieldAddr fo_23_0 rfl) ?_
    refine LtK.put rfl rfl rfl (yv_load_box sc_3 rfl (RW.below _) hS hs0 trivial sg0_1) ?_
    refine LtK.put rfl rfl rfl (yv_move rfl) ?_
    refine LtK.put rfl rfl rfl (yv_move rfl) ?_
    obtain ⟨q18, hq19, H⟩ := bind_some H
    obtain ⟨hq19n, rfl⟩ := remI_some hq19
    refine LtK.put rfl rfl rfl (yx_rem rfl rfl hq19n) ?_
    refine LtK.put rfl rfl rfl (yv_move rfl) ?_
    refine LtK.put rfl rfl rfl (yx_add rfl rfl) ?_
    refine LtK.put rfl rfl rfl (yv_move rfl) ?_
    obtain ⟨q20, hq21, H⟩ := bind_some H
    obtain ⟨hq21n, rfl⟩ := remI_some hq21
    refine LtK.put rfl rfl rfl (yx_rem rfl rfl hq21n) ?_
    refine LtK.put rfl rfl rfl (yx_add rfl rfl) ?_
    refine LtK.put rfl rfl rfl (yv_assign rfl) ?_
    refine LtK.nil ?_
    refine wpR_end (by kernel_rfl) ?_
    refine QH_seq_k hK17 ?_
    refine wpC_seq_k (fun K hK22 => ?_)
    refine wpC_region ?_
    refine wpS_put rfl rfl rfl (yv_load_boxA ag_26 rfl (RW.here _) hS hs0 trivial sg0_8) ?_
    refine wpS_quick 1 rfl ?_
    obtain ⟨r23, hm24, H⟩ := bind_some H
    refine wpS_call rfl rfl rfl rfl (by kernel_rfl) rfl (c_tuple_State x0 (IntKind.wrap .i64 (x0.snap.index + (Int.tmod (IntKind.wrap .i64 ((Int.tmod x1 (IntKind.wrap .i64 ((x0.log.length : Int) + 1))) + (IntKind.wrap .i64 ((x0.log.length : Int) + 1)))) (IntKind.wrap .i64 ((x0.log.length : Int) + 1))))) A0_ c0_ _ (SlI.of_rd s0_.k (hS.rd0 s0_.rd) (hS.blk0 s0_.blk)) hm24) ?_
    rintro e w ⟨rfl, hN⟩; refine ⟨_, rfl, ?_⟩; have hB := hN.pure; have hS := hS.join hN; clear hN
    refine wpS_quick 1 rfl ?_
    refine wpS_put rfl rfl rfl (yv_extract rfl rfl) ?_
    refine wpS_put rfl rfl rfl (yv_extract rfl rfl) ?_
    refine wpS_alloc rfl rfl zc_23 hS (fun b25 w hS hB => ?_)
    refine wpS_store rfl rfl rfl CellsOf.agg hS ps0 st0_5 (by kernel_rfl) rfl (fun w hS hB => ?_)
    refine wpS_quick 1 rfl ?_
    refine wpS_nil ?_
    refine QH_seq_k hK22 ?_
    refine wpC_seq_k (fun K hK27 => ?_)
    refine wpC_region ?_
    refine wpS_put rfl rfl rfl (yv_load_boxA ag_26 rfl (RW.here _) hS hs1 trivial sg0_8) ?_
    refine wpS_put rfl rfl rfl (yv_load_boxA ag_23 rfl (RW.here _) hS hs0 trivial sg0_5) ?_
    obtain ⟨r28, hm29, H⟩ := bind_some H
    refine wpS_call rfl rfl rfl rfl (by kernel_rfl) rfl (c_tuple_Save x0 r23.1 A0_ c0_ _ (SlI.of_rd s0_.k (hS.rd0 s0_.rd) (hS.blk0 s0_.blk)) hm29) ?_
    rintro e w ⟨A30, c31, rfl, k32, hN⟩; refine ⟨_, rfl, ?_⟩; have hB := hN.pure; have hS := hS.join hN; clear hN
    refine wpS_quick 1 rfl ?_
    refine wpS_put rfl rfl rfl (yv_extract rfl rfl) ?_
    refine wpS_put rfl rfl rfl (yv_extract rfl rfl) ?_
    refine wpS_alloc rfl rfl zc_26 hS (fun b34 w hS hB => ?_)
    refine wpS_store rfl rfl rfl CellsOf.agg hS ps0 st0_8 (by kernel_rfl) rfl (fun w hS hB => ?_)
    refine wpS_quick 1 rfl ?_
    refine wpS_nil ?_
    refine QH_seq_k hK27 ?_
    refine wpC_seq_k (fun K hK36 => ?_)
    refine wpC_seq_k (fun K hK37 => ?_)
    refine wpC_region ?_
    refine wpS_quick 1 rfl ?_
    refine wpS_put rfl rfl rfl (yv_not rfl) ?_
    refine wpS_quick 1 rfl ?_
    refine wpS_case 64 rfl (fun hb => ?_) (fun hb => ?_)
    · replace H := cond_t H hb
      refine wpS_quick 5 rfl ?_
      refine wpS_nil ?_
      refine QH_seq_k hK37 ?_
      refine wpC_cond_t rfl rfl ?_
      refine wpC_seq_k (fun K hK38 => ?_)
      refine wpC_region ?_
      refine wpS_quick 1 rfl ?_
      refine wpS_nil ?_
      refine QH_seq_k hK38 ?_
      refine wpC_ret ?_
      refine QH_then_ret ?_
      refine QH_ret rfl (RV.tmp rfl RV.nil) rfl ?_
      obtain rfl := Option.some.inj H
      replace hS := hS.cut 0
      exact ⟨rfl, hS⟩
    · replace H := cond_f H hb
      refine wpS_put rfl rfl rfl (yv_fieldAddr fo_23_0 rfl) ?_
      refine wpS_put rfl rfl rfl (yv_load_box sc_3 rfl (RW.here _) hS hs2 trivial sg0_1) ?_
      refine wpS_quick 1 rfl ?_
      refine wpS_put rfl rfl rfl (yv_neq rfl rfl) ?_
      refine wpS_quick 1 rfl ?_
      refine wpS_nil ?_
      refine QH_seq_k hK37 ?_
      refine wpC_cond rfl (fun hb => ?_) (fun hb => ?_)
      · replace H := cond_t H hb
        refine wpC_seq_k (fun K hK39 => ?_)
        refine wpC_region ?_
        refine wpS_quick 1 rfl ?_
        refine wpS_nil ?_
        refine QH_seq_k hK39 ?_
        refine wpC_ret ?_
        refine QH_then_ret ?_
        refine QH_ret rfl (RV.tmp rfl RV.nil) rfl ?_
        obtain rfl := Option.some.inj H
        replace hS := hS.cut 0
        exact ⟨rfl, hS⟩
      · replace H := cond_f H hb
        refine wpC_skip ?_
        refine QH_seq_k hK36 ?_
        refine wpC_seq_k (fun K hK40 => ?_)
        refine wpC_seq_k (fun K hK41 => ?_)
        refine wpC_region ?_
        refine wpS_quick 1 rfl ?_
        refine wpS_put rfl rfl rfl (yv_gtr rfl rfl) ?_
        refine wpS_nil ?_
        refine QH_seq_k hK41 ?_
        refine wpC_cond rfl (fun hb => ?_) (fun hb => ?_)
        · replace H := cond_t H hb
          refine wpC_seq_k (fun K hK42 => ?_)
          refine wpC_region ?_
          refine wpS_quick 1 rfl ?_
          refine wpS_put rfl rfl rfl (yv_eql rfl rfl) ?_
          refine wpS_quick 1 rfl ?_
          refine wpS_case 74 rfl (fun hb => ?_) (fun hb => ?_)
          · replace H := cond_t H hb
            obtain ⟨r43, hm44, H⟩ := bind_some H
            refine wpS_call rfl rfl rfl rfl (by kernel_rfl) rfl (c_law12_wakes _ hm44) ?_
            rintro e w ⟨rfl, hN⟩; refine ⟨_, rfl, ?_⟩; have hB := hN.pure; have hS := hS.join hN; clear hN
            refine wpS_quick 2 rfl ?_
            refine wpS_nil ?_
            refine QH_seq_k hK42 ?_
            refine wpC_ret ?_
            refine QH_then_ret ?_
            refine QH_ret rfl (RV.tmp rfl RV.nil) rfl ?_
            obtain rfl := Option.some.inj H
            replace hS := hS.cut 0
            exact ⟨rfl, hS⟩
          · replace H := cond_f H hb
            refine wpS_quick 3 rfl ?_
            refine wpS_nil ?_
            refine QH_seq_k hK42 ?_
            refine wpC_ret ?_
            refine QH_then_ret ?_
            refine QH_ret rfl (RV.tmp rfl RV.nil) rfl ?_
            obtain rfl := Option.some.inj H
            replace hS := hS.cut 0
            exact ⟨rfl, hS⟩
        · replace H := cond_f H hb
          refine wpC_skip ?_
          refine QH_seq_k hK40 ?_
          refine wpC_seq_k (fun K hK45 => ?_)
          refine wpC_region ?_
          refine wpS_put rfl rfl rfl (yv_load_boxA ag_26 rfl (RW.here _) hS hs3 trivial sg0_8) ?_
          refine wpS_quick 1 rfl ?_
          obtain ⟨r46, hm47, H⟩ := bind_some H
          refine wpS_call rfl rfl rfl rfl (by kernel_rfl) rfl (c_tuple_State x0 (IntKind.wrap .i64 (x0.snap.index + (Int.tmod (IntKind.wrap .i64 ((Int.tmod x2 (IntKind.wrap .i64 ((x0.log.length : Int) + 1))) + (IntKind.wrap .i64 ((x0.log.length : Int) + 1)))) (IntKind.wrap .i64 ((x0.log.length : Int) + 1))))) A0_ c0_ _ (SlI.of_rd s0_.k (hS.rd0 s0_.rd) (hS.blk0 s0_.blk)) hm47) ?_
          rintro e w ⟨rfl, hN⟩; refine ⟨_, rfl, ?_⟩; have hB := hN.pure; have hS := hS.join hN; clear hN
          refine wpS_quick 1 rfl ?_
          refine wpS_put rfl rfl rfl (yv_extract rfl rfl) ?_
          refine wpS_put rfl rfl rfl (yv_extract rfl rfl) ?_
          refine wpS_alloc rfl rfl zc_23 hS (fun b48 w hS hB => ?_)
          refine wpS_store rfl rfl rfl CellsOf.agg hS ps0 st0_5 (by kernel_rfl) rfl (fun w hS hB => ?_)
          refine wpS_quick 1 rfl ?_
          refine wpS_nil ?_
          refine QH_seq_k hK45 ?_
          refine wpC_seq_k (fun K hK50 => ?_)
          refine wpC_region ?_
          refine wpS_put rfl rfl rfl (yv_load_boxA ag_26 rfl (RW.here _) hS hs1 trivial sg0_8) ?_
          refine wpS_quick 1 rfl ?_
          obtain ⟨r51, hm52, H⟩ := bind_some H
          refine wpS_call rfl rfl rfl rfl (by kernel_rfl) rfl (c_tuple_State r28.1 (IntKind.wrap .i64 (x0.snap.index + (Int.tmod (IntKind.wrap .i64 ((Int.tmod x2 (IntKind.wrap .i64 ((x0.log.length : Int) + 1))) + (IntKind.wrap .i64 ((x0.log.length : Int) + 1)))) (IntKind.wrap .i64 ((x0.log.length : Int) + 1))))) A30 c31 _ (SlI.of_rd k32 (hS.rd hs2) (hS.rd_blk hs2)) hm52) ?_
          rintro e w ⟨rfl, hN⟩; refine ⟨_, rfl, ?_⟩; have hB := hN.pure; have hS := hS.join hN; clear hN
          refine wpS_quick 1 rfl ?_
          refine wpS_put rfl rfl rfl (yv_extract rfl rfl) ?_
          refine wpS_put rfl rfl rfl (yv_extract rfl rfl) ?_
          refine wpS_alloc rfl rfl zc_23 hS (fun b53 w hS hB => ?_)
          refine wpS_store rfl rfl rfl CellsOf.agg hS ps0 st0_5 (by kernel_rfl) rfl (fun w hS hB => ?_)
          refine wpS_quick 1 rfl ?_
          refine wpS_nil ?_
          refine QH_seq_k hK50 ?_
          refine wpC_seq_k (fun K hK55 => ?_)
          refine wpC_region ?_
          refine wpS_put rfl rfl rfl (yv_load_boxA ag_26 rfl (RW.here _) hS hs5 trivial sg0_8) ?_
          refine wpS_quick 1 rfl ?_
          obtain ⟨r56, hm57, H⟩ := bind_some H
          refine wpS_call rfl rfl rfl rfl (by kernel_rfl) rfl (c_tuple_TermAt x0 (IntKind.wrap .i64 (x0.snap.index + (Int.tmod (IntKind.wrap .i64 ((Int.tmod x2 (IntKind.wrap .i64 ((x0.log.length : Int) + 1))) + (IntKind.wrap .i64 ((x0.log.length : Int) + 1)))) (IntKind.wrap .i64 ((x0.log.length : Int) + 1))))) A0_ c0_ _ (SlI.of_rd s0_.k (hS.rd0 s0_.rd) (hS.blk0 s0_.blk)) hm57) ?_
          rintro e w ⟨rfl, hN⟩; refine ⟨_, rfl, ?_⟩; have hB := hN.pure; have hS := hS.join hN; clear hN
          refine wpS_quick 1 rfl ?_
          refine wpS_put rfl rfl rfl (yv_extract rfl rfl) ?_
          refine wpS_put rfl rfl rfl (yv_extract rfl rfl) ?_
          refine wpS_quick 2 rfl ?_
          refine wpS_nil ?_
          refine QH_seq_k hK55 ?_
          refine wpC_seq_k (fun K hK58 => ?_)
          refine wpC_region ?_
          refine wpS_put rfl rfl rfl (yv_load_boxA ag_26 rfl (RW.here _) hS hs2 trivial sg0_8) ?_
          refine wpS_quick 1 rfl ?_
          obtain ⟨r59, hm60, H⟩ := bind_some H
          refine wpS_call rfl rfl rfl rfl (by kernel_rfl) rfl (c_tuple_TermAt r28.1 (IntKind.wrap .i64 (x0.snap.index + (Int.tmod (IntKind.wrap .i64 ((Int.tmod x2 (IntKind.wrap .i64 ((x0.log.length : Int) + 1))) + (IntKind.wrap .i64 ((x0.log.length : Int) + 1)))) (IntKind.wrap .i64 ((x0.log.length : Int) + 1))))) A30 c31 _ (SlI.of_rd k32 (hS.rd hs3) (hS.rd_blk hs3)) hm60) ?_
          rintro e w ⟨rfl, hN⟩; refine ⟨_, rfl, ?_⟩; have hB := hN.pure; have hS := hS.join hN; clear hN
          refine wpS_quick 1 rfl ?_
          refine wpS_put rfl rfl rfl (yv_extract rfl rfl) ?_
          refine wpS_put rfl rfl rfl (yv_extract rfl rfl) ?_
          refine wpS_quick 2 rfl ?_
          refine wpS_nil ?_
          refine QH_seq_k hK58 ?_
          refine wpC_seq_k (fun K hK61 => ?_)
          refine wpC_seq_k (fun K hK62 => ?_)
          refine wpC_draw 37 [] (fun _ _ => True) ⟨by kernel_rfl, by kernel_rfl⟩ hS (fun w hS hB => ?_)
          refine wpR_batch [true, true, true] (by decide +kernel) (by repeat (first | exact PF.body | exact PF.round | apply PF.then | apply PF.inBlock | apply PF.jump)) ?_
          refine LtK.put rfl rfl rfl (yv_move rfl) ?_
          refine LtK.put rfl rfl rfl (yv_neq rfl rfl) ?_
          refine LtK.put rfl rfl rfl (yv_move rfl) ?_
          refine LtK.nil ?_
          refine wpR_case 103 rfl (fun hb => ?_) (fun hb => ?_)
          · replace H := cond_t H hb
            refine wpR_batch [false, false, false, true, true, true, true, true, true, true, false, true] (by decide +kernel) (by repeat (first | exact PF.body | exact PF.round | apply PF.then | apply PF.inBlock | apply PF.jump)) ?_
            refine LtK.skip rfl rfl rfl ?_
            refine LtK.skip rfl rfl rfl ?_
            refine LtK.skip rfl rfl rfl ?_
            refine LtK.skip rfl rfl rfl ?_
            refine LtK.put rfl rfl rfl (yv_pick_t rfl rfl rfl) ?_
            refine LtK.put rfl rfl rfl (yv_move rfl) ?_
            refine LtK.skip rfl rfl rfl ?_
            refine LtK.skip rfl rfl rfl ?_
            refine LtK.nil ?_
            refine wpR_call [false, false, false, false, false, false, false, false, false, false, true] 10 ⟨by decide, by kernel_rfl, by kernel_rfl⟩ rfl rfl ?_
            dsimp only [pickL]
            refine wpS_skip rfl rfl rfl ?_
            refine wpS_nil ?_
            refine QH_step (Below.refl _ _) ?_
            refine wpR_call [false, false, false, false, false, false, false, false, false, false, false, false, true] 12 ⟨by decide, by kernel_rfl, by kernel_rfl⟩ rfl rfl ?_
            dsimp only [pickL]
            refine wpS_skip rfl rfl rfl ?_
            refine wpS_nil ?_
            refine QH_step (Below.refl _ _) ?_
            refine wpR_batch [false, false, false, false, false, false, false, false, false, false, false, false, false, true, true, true, true, true, true, true, true, true, true, true, true, true, true, true, true, true, true, true, true, true, true, true, true] (by decide +kernel) (by repeat (first | exact PF.body | exact PF.round | apply PF.then | apply PF.inBlock | apply PF.jump)) ?_
            refine LtK.skip rfl rfl rfl ?_
            refine LtK.put rfl rfl rfl (yv_pick_t rfl rfl rfl) ?_
            refine LtK.put rfl rfl rfl (yv_move rfl) ?_
            refine LtK.skip rfl rfl rfl ?_
            refine LtK.skip rfl rfl rfl ?_
            refine LtK.put rfl rfl rfl (yv_pick_t rfl rfl rfl) ?_
            refine LtK.put rfl rfl rfl (yv_move rfl) ?_
            refine LtK.skip rfl rfl rfl ?_
            refine LtK.skip rfl rfl rfl ?_
            refine LtK.put rfl rfl rfl (yv_pick_t rfl rfl rfl) ?_
            refine LtK.put rfl rfl rfl (yv_move rfl) ?_
            refine LtK.skip rfl rfl rfl ?_
            refine LtK.skip rfl rfl rfl ?_
            refine LtK.skip rfl rfl rfl ?_
            refine LtK.skip rfl rfl rfl ?_
            refine LtK.skip rfl rfl rfl ?_
            refine LtK.put rfl rfl rfl (yv_pick_t rfl rfl rfl) ?_
            refine LtK.put rfl rfl rfl (yv_move rfl) ?_
            refine LtK.skip rfl rfl rfl ?_
            refine LtK.skip rfl rfl rfl ?_
            refine LtK.skip rfl rfl rfl ?_
            refine LtK.skip rfl rfl rfl ?_
            refine LtK.skip rfl rfl rfl ?_
            refine LtK.put rfl rfl rfl (yv_pick_t rfl rfl rfl) ?_
            refine LtK.nil ?_
            refine wpR_end (by kernel_rfl) ?_
            refine QH_seq_k hK62 ?_
            refine wpC_cond_t rfl rfl ?_
            refine wpC_seq_k (fun K hK63 => ?_)
            refine wpC_region ?_
            refine wpS_quick 1 rfl ?_
            refine wpS_nil ?_
            refine QH_seq_k hK63 ?_
            refine wpC_ret ?_
            refine QH_then_ret ?_
            refine QH_ret rfl (RV.tmp rfl RV.nil) rfl ?_
            obtain rfl := Option.some.inj H
            replace hS := hS.cut 0
            exact ⟨rfl, hS⟩
          · replace H := cond_f H hb
            refine wpR_batch [false, false, false, true, true, true, true, true, true] (by decide +kernel) (by repeat (first | exact PF.body | exact PF.round | apply PF.then | apply PF.inBlock | apply PF.jump)) ?_
            refine LtK.put rfl rfl rfl (yv_fieldAddr fo_26_0 rfl) ?_
            refine LtK.put rfl rfl rfl (yv_load_boxA ag_23 rfl (RW.below _) hS hs2 trivial sg0_5) ?_
            refine LtK.put rfl rfl rfl (yv_load_boxA ag_23 rfl (RW.below _) hS hs4 trivial sg0_5) ?_
            refine LtK.put rfl rfl rfl (yv_neqS (by kernel_rfl) rfl rfl (eqT_23 _ _ _ _ _ _ _ _ _ _)) ?_
            refine LtK.put rfl rfl rfl (yv_pick_f rfl rfl rfl) ?_
            refine LtK.put rfl rfl rfl (yv_move rfl) ?_
            refine LtK.nil ?_
            refine wpR_case 109 rfl (fun hb => ?_) (fun hb => ?_)
            · replace H := cond_t H hb
              refine wpR_batch [false, false, false, false, false, false, false, false, false, true, false, true] (by decide +kernel) (by repeat (first | exact PF.body | exact PF.round | apply PF.then | apply PF.inBlock | apply PF.jump)) ?_
              refine LtK.skip rfl rfl rfl ?_
              refine LtK.skip rfl rfl rfl ?_
              refine LtK.nil ?_
              refine wpR_call [false, false, false, false, false, false, false, false, false, false, true] 10 ⟨by decide, by kernel_rfl, by kernel_rfl⟩ rfl rfl ?_
              dsimp only [pickL]
              refine wpS_skip rfl rfl rfl ?_
              refine wpS_nil ?_
              refine QH_step (Below.refl _ _) ?_
              refine wpR_call [false, false, false, false, false, false, false, false, false, false, false, false, true] 12 ⟨by decide, by kernel_rfl, by kernel_rfl⟩ rfl rfl ?_
              dsimp only [pickL]
              refine wpS_skip rfl rfl rfl ?_
              refine wpS_nil ?_
              refine QH_step (Below.refl _ _) ?_
              refine wpR_batch [false, false, false, false, false, false, false, false, false, false, false, false, false, true, true, true, true, true, true, true, true, true, true, true, true, true, true, true, true, true, true, true, true, true, true, true, true] (by decide +kernel) (by repeat (first | exact PF.body | exact PF.round | apply PF.then | apply PF.inBlock | apply PF.jump)) ?_
              refine LtK.skip rfl rfl rfl ?_
              refine LtK.put rfl rfl rfl (yv_pick_t rfl rfl rfl) ?_
              refine LtK.put rfl rfl rfl (yv_move rfl) ?_
              refine LtK.skip rfl rfl rfl ?_
              refine LtK.skip rfl rfl rfl ?_
              refine LtK.put rfl rfl rfl (yv_pick_t rfl rfl rfl) ?_
              refine LtK.put rfl rfl rfl (yv_move rfl) ?_
              refine LtK.skip rfl rfl rfl ?_
              refine LtK.skip rfl rfl rfl ?_
              refine LtK.put rfl rfl rfl (yv_pick_t rfl rfl rfl) ?_
              refine LtK.put rfl rfl rfl (yv_move rfl) ?_
              refine LtK.skip rfl rfl rfl ?_
              refine LtK.skip rfl rfl rfl ?_
              refine LtK.skip rfl rfl rfl ?_
              refine LtK.skip rfl rfl rfl ?_
              refine LtK.skip rfl rfl rfl ?_
              refine LtK.put rfl rfl rfl (yv_pick_t rfl rfl rfl) ?_
              refine LtK.put rfl rfl rfl (yv_move rfl) ?_
              refine LtK.skip rfl rfl rfl ?_
              refine LtK.skip rfl rfl rfl ?_
              refine LtK.skip rfl rfl rfl ?_
              refine LtK.skip rfl rfl rfl ?_
              refine LtK.skip rfl rfl rfl ?_
              refine LtK.put rfl rfl rfl (yv_pick_t rfl rfl rfl) ?_
              refine LtK.nil ?_
              refine wpR_end (by kernel_rfl) ?_
              refine QH_seq_k hK62 ?_
              refine wpC_cond_t rfl rfl ?_
              refine wpC_seq_k (fun K hK64 => ?_)
              refine wpC_region ?_
              refine wpS_quick 1 rfl ?_
              refine wpS_nil ?_
              refine QH_seq_k hK64 ?_
              refine wpC_ret ?_
              refine QH_then_ret ?_
              refine QH_ret rfl (RV.tmp rfl RV.nil) rfl ?_
              obtain rfl := Option.some.inj H
              replace hS := hS.cut 0
              exact ⟨rfl, hS⟩
            · replace H := cond_f H hb
              refine wpR_batch [false, false, false, false, false, false, false, false, false, true, false, true] (by decide +kernel) (by repeat (first | exact PF.body | exact PF.round | apply PF.then | apply PF.inBlock | apply PF.jump)) ?_
              refine LtK.put rfl rfl rfl (yv_load_boxA ag_26 rfl (RW.below _) hS hs2 trivial sg0_8) ?_
              refine LtK.put rfl rfl rfl (yv_load_boxA ag_26 rfl (RW.below _) hS hs5 trivial sg0_8) ?_
              refine LtK.nil ?_
              refine wpR_call [false, false, false, false, false, false, false, false, false, false, true] 10 ⟨by decide, by kernel_rfl, by kernel_rfl⟩ rfl rfl ?_
              dsimp only [pickL]
              obtain ⟨r65, hm66, H⟩ := bind_some H
              refine wpS_call rfl rfl rfl rfl (by kernel_rfl) rfl (c_tuple_Last r28.1 A30 c31 _ (SlI.of_rd k32 (hS.rd hs3) (hS.rd_blk hs3)) hm66) ?_
              rintro e w ⟨rfl, hN⟩; refine ⟨_, rfl, ?_⟩; have hB := hN.pure; have hS := hS.join hN; clear hN
              refine wpS_nil ?_
              refine QH_step hB ?_
              refine wpR_call [false, false, false, false, false, false, false, false, false, false, false, false, true] 12 ⟨by decide, by kernel_rfl, by kernel_rfl⟩ rfl rfl ?_
              dsimp only [pickL]
              obtain ⟨r67, hm68, H⟩ := bind_some H
              refine wpS_call rfl rfl rfl rfl (by kernel_rfl) rfl (c_tuple_Last x0 A0_ c0_ _ (SlI.of_rd s0_.k (hS.rd0 s0_.rd) (hS.blk0 s0_.blk)) hm68) ?_
              rintro e w ⟨rfl, hN⟩; refine ⟨_, rfl, ?_⟩; have hB := hN.pure; have hS := hS.join hN; clear hN
              refine wpS_nil ?_
              refine QH_step hB ?_
              refine wpR_batch [false, false, false, false, false, false, false, false, false, false, false, false, false, true, true, true] (by decide +kernel) (by repeat (first | exact PF.body | exact PF.round | apply PF.then | apply PF.inBlock | apply PF.jump)) ?_
              refine LtK.put rfl rfl rfl (yv_neq rfl rfl) ?_
              refine LtK.put rfl rfl rfl (yv_pick_f rfl rfl rfl) ?_
              refine LtK.put rfl rfl rfl (yv_move rfl) ?_
              refine LtK.nil ?_
              refine wpR_case 116 rfl (fun hb => ?_) (fun hb => ?_)
              · replace H := cond_t H hb
                refine wpR_batch [false, false, false, false, false, false, false, false, false, false, false, false, false, false, false, false, true, true, true, true, true, true, true, true, true, true, true, true, true, true, true, true, true, true, true, true, true] (by decide +kernel) (by repeat (first | exact PF.body | exact PF.round | apply PF.then | apply PF.inBlock | apply PF.jump)) ?_
                refine LtK.skip rfl rfl rfl ?_
                refine LtK.skip rfl rfl rfl ?_
                refine LtK.put rfl rfl rfl (yv_pick_t rfl rfl rfl) ?_
                refine LtK.put rfl rfl rfl (yv_move rfl) ?_
                refine LtK.skip rfl rfl rfl ?_
                refine LtK.skip rfl rfl rfl ?_
                refine LtK.put rfl rfl rfl (yv_pick_t rfl rfl rfl) ?_
                refine LtK.put rfl rfl rfl (yv_move rfl) ?_
                refine LtK.skip rfl rfl rfl ?_
                refine LtK.skip rfl rfl rfl ?_
                refine LtK.skip rfl rfl rfl ?_
                refine LtK.skip rfl rfl rfl ?_
                refine LtK.skip rfl rfl rfl ?_
                refine LtK.put rfl rfl rfl (yv_pick_t rfl rfl rfl) ?_
                refine LtK.put rfl rfl rfl (yv_move rfl) ?_
                refine LtK.skip rfl rfl rfl ?_
                refine LtK.skip rfl rfl rfl ?_
                refine LtK.skip rfl rfl rfl ?_
                refine LtK.skip rfl rfl rfl ?_
                refine LtK.skip rfl rfl rfl ?_
                refine LtK.put rfl rfl rfl (yv_pick_t rfl rfl rfl) ?_
                refine LtK.nil ?_
                refine wpR_end (by kernel_rfl) ?_
                refine QH_seq_k hK62 ?_
                refine wpC_cond_t rfl rfl ?_
                refine wpC_seq_k (fun K hK69 => ?_)
                refine wpC_region ?_
                refine wpS_quick 1 rfl ?_
                refine wpS_nil ?_
                refine QH_seq_k hK69 ?_
                refine wpC_ret ?_
                refine QH_then_ret ?_
                refine QH_ret rfl (RV.tmp rfl RV.nil) rfl ?_
                obtain rfl := Option.some.inj H
                replace hS := hS.cut 0
                exact ⟨rfl, hS⟩
              · replace H := cond_f H hb
                refine wpR_batch [false, false, false, false, false, false, false, false, false, false, false, false, false, false, false, false, true, true, true, true] (by decide +kernel) (by repeat (first | exact PF.body | exact PF.round | apply PF.then | apply PF.inBlock | apply PF.jump)) ?_
                refine LtK.put rfl rfl rfl (yv_move rfl) ?_
                refine LtK.put rfl rfl rfl (yv_not rfl) ?_
                refine LtK.put rfl rfl rfl (yv_pick_f rfl rfl rfl) ?_
                refine LtK.put rfl rfl rfl (yv_move rfl) ?_
                refine LtK.nil ?_
                refine wpR_case 120 rfl (fun hb => ?_) (fun hb => ?_)
                · replace H := cond_t H hb
                  refine wpR_batch [false, false, false, false, false, false, false, false, false, false, false, false, false, false, false, false, false, false, false, false, true, true, true, true, true, true, true, true, true, true, true, true, true, true, true, true, true] (by decide +kernel) (by repeat (first | exact PF.body | exact PF.round | apply PF.then | apply PF.inBlock | apply PF.jump)) ?_
                  refine LtK.skip rfl rfl rfl ?_
                  refine LtK.skip rfl rfl rfl ?_
                  refine LtK.put rfl rfl rfl (yv_pick_t rfl rfl rfl) ?_
                  refine LtK.put rfl rfl rfl (yv_move rfl) ?_
                  refine LtK.skip rfl rfl rfl ?_
                  refine LtK.skip rfl rfl rfl ?_
                  refine LtK.skip rfl rfl rfl ?_
                  refine LtK.skip rfl rfl rfl ?_
                  refine LtK.skip rfl rfl rfl ?_
                  refine LtK.put rfl rfl rfl (yv_pick_t rfl rfl rfl) ?_
                  refine LtK.put rfl rfl rfl (yv_move rfl) ?_
                  refine LtK.skip rfl rfl rfl ?_
                  refine LtK.skip rfl rfl rfl ?_
                  refine LtK.skip rfl rfl rfl ?_
                  refine LtK.skip rfl rfl rfl ?_
                  refine LtK.skip rfl rfl rfl ?_
                  refine LtK.put rfl rfl rfl (yv_pick_t rfl rfl rfl) ?_
                  refine LtK.nil ?_
                  refine wpR_end (by kernel_rfl) ?_
                  refine QH_seq_k hK62 ?_
                  refine wpC_cond_t rfl rfl ?_
                  refine wpC_seq_k (fun K hK70 => ?_)
                  refine wpC_region ?_
                  refine wpS_quick 1 rfl ?_
                  refine wpS_nil ?_
                  refine QH_seq_k hK70 ?_
                  refine wpC_ret ?_
                  refine QH_then_ret ?_
                  refine QH_ret rfl (RV.tmp rfl RV.nil) rfl ?_
                  obtain rfl := Option.some.inj H
                  replace hS := hS.cut 0
                  exact ⟨rfl, hS⟩
                · replace H := cond_f H hb
                  refine wpR_batch [false, false, false, false, false, false, false, false, false, false, false, false, false, false, false, false, false, false, false, false, true, true, true, true] (by decide +kernel) (by repeat (first | exact PF.body | exact PF.round | apply PF.then | apply PF.inBlock | apply PF.jump)) ?_
                  refine LtK.put rfl rfl rfl (yv_move rfl) ?_
                  refine LtK.put rfl rfl rfl (yv_not rfl) ?_
                  refine LtK.put rfl rfl rfl (yv_pick_f rfl rfl rfl) ?_
                  refine LtK.put rfl rfl rfl (yv_move rfl) ?_
                  refine LtK.nil ?_
                  refine wpR_case 124 rfl (fun hb => ?_) (fun hb => ?_)
                  · replace H := cond_t H hb
                    refine wpR_batch [false, false, false, false, false, false, false, false, false, false, false, false, false, false, false, false, false, false, false, false, false, false, false, false, true, true, true, true, true, true, true, true, true, true, true, true, true] (by decide +kernel) (by repeat (first | exact PF.body | exact PF.round | apply PF.then | apply PF.inBlock | apply PF.jump)) ?_
                    refine LtK.skip rfl rfl rfl ?_
                    refine LtK.skip rfl rfl rfl ?_
                    refine LtK.skip rfl rfl rfl ?_
                    refine LtK.skip rfl rfl rfl ?_
                    refine LtK.skip rfl rfl rfl ?_
                    refine LtK.put rfl rfl rfl (yv_pick_t rfl rfl rfl) ?_
                    refine LtK.put rfl rfl rfl (yv_move rfl) ?_
                    refine LtK.skip rfl rfl rfl ?_
                    refine LtK.skip rfl rfl rfl ?_
                    refine LtK.skip rfl rfl rfl ?_
                    refine LtK.skip rfl rfl rfl ?_
                    refine LtK.skip rfl rfl rfl ?_
                    refine LtK.put rfl rfl rfl (yv_pick_t rfl rfl rfl) ?_
                    refine LtK.nil ?_
                    refine wpR_end (by kernel_rfl) ?_
                    refine QH_seq_k hK62 ?_
                    refine wpC_cond_t rfl rfl ?_
                    refine wpC_seq_k (fun K hK71 => ?_)
                    refine wpC_region ?_
                    refine wpS_quick 1 rfl ?_
                    refine wpS_nil ?_
                    refine QH_seq_k hK71 ?_
                    refine wpC_ret ?_
                    refine QH_then_ret ?_
                    refine QH_ret rfl (RV.tmp rfl RV.nil) rfl ?_
                    obtain rfl := Option.some.inj H
                    replace hS := hS.cut 0
                    exact ⟨rfl, hS⟩
                  · replace H := cond_f H hb
                    refine wpR_batch [false, false, false, false, false, false, false, false, false, false, false, false, false, false, false, false, false, false, false, false, false, false, false, false, true, true, true, true, true, true, true] (by decide +kernel) (by repeat (first | exact PF.body | exact PF.round | apply PF.then | apply PF.inBlock | apply PF.jump)) ?_
                    refine LtK.put rfl rfl rfl (yv_move rfl) ?_
                    refine LtK.put rfl rfl rfl (yv_move rfl) ?_
                    refine LtK.put rfl rfl rfl (yv_move rfl) ?_
                    refine LtK.put rfl rfl rfl (yv_geq rfl rfl) ?_
                    refine LtK.put rfl rfl rfl (yv_neqB (by kernel_rfl) rfl rfl) ?_
                    refine LtK.put rfl rfl rfl (yv_pick_f rfl rfl rfl) ?_
                    refine LtK.put rfl rfl rfl (yv_move rfl) ?_
                    refine LtK.nil ?_
                    refine wpR_case 131 rfl (fun hb => ?_) (fun hb => ?_)
                    · replace H := cond_t H hb
                      refine wpR_batch [false, false, false, false, false, false, false, false, false, false, false, false, false, false, false, false, false, false, false, false, false, false, false, false, false, false, false, false, false, false, false, true, true, true, true, true, true] (by decide +kernel) (by repeat (first | exact PF.body | exact PF.round | apply PF.then | apply PF.inBlock | apply PF.jump)) ?_
                      refine LtK.skip rfl rfl rfl ?_
                      refine LtK.skip rfl rfl rfl ?_
                      refine LtK.skip rfl rfl rfl ?_
                      refine LtK.skip rfl rfl rfl ?_
                      refine LtK.skip rfl rfl rfl ?_
                      refine LtK.put rfl rfl rfl (yv_pick_t rfl rfl rfl) ?_
                      refine LtK.nil ?_
                      refine wpR_end (by kernel_rfl) ?_
                      refine QH_seq_k hK62 ?_
                      refine wpC_cond_t rfl rfl ?_
                      refine wpC_seq_k (fun K hK72 => ?_)
                      refine wpC_region ?_
                      refine wpS_quick 1 rfl ?_
                      refine wpS_nil ?_
                      refine QH_seq_k hK72 ?_
                      refine wpC_ret ?_
                      refine QH_then_ret ?_
                      refine QH_ret rfl (RV.tmp rfl RV.nil) rfl ?_
                      obtain rfl := Option.some.inj H
                      replace hS := hS.cut 0
                      exact ⟨rfl, hS⟩
                    · replace H := cond_f H hb
                      refine wpR_batch [false, false, false, false, false, false, false, false, false, false, false, false, false, false, false, false, false, false, false, false, false, false, false, false, false, false, false, false, false, false, false, true, true, true, true, true, true] (by decide +kernel) (by repeat (first | exact PF.body | exact PF.round | apply PF.then | apply PF.inBlock | apply PF.jump)) ?_
                      refine LtK.put rfl rfl rfl (yv_move rfl) ?_
                      refine LtK.put rfl rfl rfl (yv_move rfl) ?_
                      refine LtK.put rfl rfl rfl (yv_move rfl) ?_
                      refine LtK.put rfl rfl rfl (yv_geq rfl rfl) ?_
                      refine LtK.put rfl rfl rfl (yv_neqB (by kernel_rfl) rfl rfl) ?_
                      refine LtK.put rfl rfl rfl (yv_pick_f rfl rfl rfl) ?_
                      refine LtK.nil ?_
                      refine wpR_end (by kernel_rfl) ?_
                      refine QH_seq_k hK62 ?_
                      refine wpC_cond rfl (fun hb => ?_) (fun hb => ?_)
                      · replace H := cond_t H hb
                        refine wpC_seq_k (fun K hK73 => ?_)
                        refine wpC_region ?_
                        refine wpS_quick 1 rfl ?_
                        refine wpS_nil ?_
                        refine QH_seq_k hK73 ?_
                        refine wpC_ret ?_
                        refine QH_then_ret ?_
                        refine QH_ret rfl (RV.tmp rfl RV.nil) rfl ?_
                        obtain rfl := Option.some.inj H
                        replace hS := hS.cut 0
                        exact ⟨rfl, hS⟩
                      · replace H := cond_f H hb
                        refine wpC_skip ?_
                        refine QH_seq_k hK61 ?_
                        refine wpC_seq_k (fun K hK74 => ?_)
                        refine wpC_region ?_
                        refine wpS_quick 2 rfl ?_
                        refine wpS_put rfl rfl rfl (yv_lss rfl rfl) ?_
                        refine wpS_quick 1 rfl ?_
                        refine wpS_case 141 rfl (fun hb => ?_) (fun hb => ?_)
                        · replace H := cond_t H hb
                          refine wpS_quick 10 rfl ?_
                          refine wpS_put rfl rfl rfl (yv_fieldAddr fo_26_2 rfl) ?_
                          refine wpS_put rfl rfl rfl (yv_load_box sc_3 rfl (RW.here _) hS hs2 trivial sg6_1) ?_
                          refine wpS_put rfl rfl rfl (yv_fieldAddr fo_26_2 rfl) ?_
                          refine wpS_put rfl rfl rfl (yv_load_box sc_3 rfl (RW.here _) hS hs5 trivial sg6_1) ?_
                          refine wpS_put rfl rfl rfl (yv_eql rfl rfl) ?_
                          refine wpS_quick 2 rfl ?_
                          refine wpS_case 158 rfl (fun hb => ?_) (fun hb => ?_)
                          · replace H := cond_t H hb
                            refine wpS_put rfl rfl rfl (yv_fieldAddr fo_26_3 rfl) ?_
                            refine wpS_put rfl rfl rfl (yv_load_box sc_3 rfl (RW.here _) hS hs2 trivial sg7_1) ?_
                            refine wpS_put rfl rfl rfl (yv_fieldAddr fo_26_3 rfl) ?_
                            refine wpS_put rfl rfl rfl (yv_load_box sc_3 rfl (RW.here _) hS hs5 trivial sg7_1) ?_
                            refine wpS_put rfl rfl rfl (yv_eql rfl rfl) ?_
                            refine wpS_quick 2 rfl ?_
                            refine wpS_case 165 rfl (fun hb => ?_) (fun hb => ?_)
                            · replace H := cond_t H hb
                              obtain ⟨r75, hm76, H⟩ := bind_some H
                              refine wpS_call rfl rfl rfl rfl (by kernel_rfl) rfl (c_law12_wakes _ hm76) ?_
                              rintro e w ⟨rfl, hN⟩; refine ⟨_, rfl, ?_⟩; have hB := hN.pure; have hS := hS.join hN; clear hN
                              refine wpS_quick 2 rfl ?_
                              refine wpS_nil ?_
                              refine QH_seq_k hK74 ?_
                              refine wpC_ret ?_
                              refine QH_ret rfl (RV.tmp rfl RV.nil) rfl ?_
                              obtain rfl := Option.some.inj H
                              replace hS := hS.cut 0
                              exact ⟨rfl, hS⟩
                            · replace H := cond_f H hb
                              refine wpS_quick 3 rfl ?_
                              refine wpS_nil ?_
                              refine QH_seq_k hK74 ?_
                              refine wpC_ret ?_
                              refine QH_ret rfl (RV.tmp rfl RV.nil) rfl ?_
                              obtain rfl := Option.some.inj H
                              replace hS := hS.cut 0
                              exact ⟨rfl, hS⟩
                          · replace H := cond_f H hb
                            refine wpS_quick 10 rfl ?_
                            refine wpS_nil ?_
                            refine QH_seq_k hK74 ?_
                            refine wpC_ret ?_
                            refine QH_ret rfl (RV.tmp rfl RV.nil) rfl ?_
                            obtain rfl := Option.some.inj H
                            replace hS := hS.cut 0
                            exact ⟨rfl, hS⟩
                        · replace H := cond_f H hb
                          refine wpS_put rfl rfl rfl (yv_load_boxA ag_23 rfl (RW.here _) hS hs1 trivial sg0_5) ?_
                          refine wpS_put rfl rfl rfl (yv_load_boxA ag_23 rfl (RW.here _) hS hs0 trivial sg0_5) ?_
                          refine wpS_put rfl rfl rfl (yv_eqlS (by kernel_rfl) rfl rfl (eqT_23 _ _ _ _ _ _ _ _ _ _)) ?_
                          refine wpS_quick 1 rfl ?_
                          refine wpS_case 145 rfl (fun hb => ?_) (fun hb => ?_)
                          · replace H := cond_t H hb
                            refine wpS_quick 2 rfl ?_
                            refine wpS_put rfl rfl rfl (yv_eql rfl rfl) ?_
                            refine wpS_quick 3 rfl ?_
                            refine wpS_case 151 rfl (fun hb => ?_) (fun hb => ?_)
                            · replace H := cond_t H hb
                              refine wpS_put rfl rfl rfl (yv_fieldAddr fo_26_2 rfl) ?_
                              refine wpS_put rfl rfl rfl (yv_load_box sc_3 rfl (RW.here _) hS hs2 trivial sg6_1) ?_
                              refine wpS_put rfl rfl rfl (yv_fieldAddr fo_26_2 rfl) ?_
                              refine wpS_put rfl rfl rfl (yv_load_box sc_3 rfl (RW.here _) hS hs5 trivial sg6_1) ?_
                              refine wpS_put rfl rfl rfl (yv_eql rfl rfl) ?_
                              refine wpS_quick 2 rfl ?_
                              refine wpS_case 158 rfl (fun hb => ?_) (fun hb => ?_)
                              · replace H := cond_t H hb
                                refine wpS_put rfl rfl rfl (yv_fieldAddr fo_26_3 rfl) ?_
                                refine wpS_put rfl rfl rfl (yv_load_box sc_3 rfl (RW.here _) hS hs2 trivial sg7_1) ?_
                                refine wpS_put rfl rfl rfl (yv_fieldAddr fo_26_3 rfl) ?_
                                refine wpS_put rfl rfl rfl (yv_load_box sc_3 rfl (RW.here _) hS hs5 trivial sg7_1) ?_
                                refine wpS_put rfl rfl rfl (yv_eql rfl rfl) ?_
                                refine wpS_quick 2 rfl ?_
                                refine wpS_case 165 rfl (fun hb => ?_) (fun hb => ?_)
                                · replace H := cond_t H hb
                                  obtain ⟨r77, hm78, H⟩ := bind_some H
                                  refine wpS_call rfl rfl rfl rfl (by kernel_rfl) rfl (c_law12_wakes _ hm78) ?_
                                  rintro e w ⟨rfl, hN⟩; refine ⟨_, rfl, ?_⟩; have hB := hN.pure; have hS := hS.join hN; clear hN
                                  refine wpS_quick 2 rfl ?_
                                  refine wpS_nil ?_
                                  refine QH_seq_k hK74 ?_
                                  refine wpC_ret ?_
                                  refine QH_ret rfl (RV.tmp rfl RV.nil) rfl ?_
                                  obtain rfl := Option.some.inj H
                                  replace hS := hS.cut 0
                                  exact ⟨rfl, hS⟩
                                · replace H := cond_f H hb
                                  refine wpS_quick 3 rfl ?_
                                  refine wpS_nil ?_
                                  refine QH_seq_k hK74 ?_
                                  refine wpC_ret ?_
                                  refine QH_ret rfl (RV.tmp rfl RV.nil) rfl ?_
                                  obtain rfl := Option.some.inj H
                                  replace hS := hS.cut 0
                                  exact ⟨rfl, hS⟩
                              · replace H := cond_f H hb
                                refine wpS_quick 10 rfl ?_
                                refine wpS_nil ?_
                                refine QH_seq_k hK74 ?_
                                refine wpC_ret ?_
                                refine QH_ret rfl (RV.tmp rfl RV.nil) rfl ?_
                                obtain rfl := Option.some.inj H
                                replace hS := hS.cut 0
                                exact ⟨rfl, hS⟩
                            · replace H := cond_f H hb
                              refine wpS_quick 17 rfl ?_
                              refine wpS_nil ?_
                              refine QH_seq_k hK74 ?_
                              refine wpC_ret ?_
                              refine QH_ret rfl (RV.tmp rfl RV.nil) rfl ?_
                              obtain rfl := Option.some.inj H
                              replace hS := hS.cut 0
                              exact ⟨rfl, hS⟩
                          · replace H := cond_f H hb
                            refine wpS_quick 23 rfl ?_
                            refine wpS_nil ?_
                            refine QH_seq_k hK74 ?_
                            refine wpC_ret ?_
                            refine QH_ret rfl (RV.tmp rfl RV.nil) rfl ?_
                            obtain rfl := Option.some.inj H
                            replace hS := hS.cut 0
                            exact ⟨rfl, hS⟩
theorem c_law12_TupleCuts (x0 : Tu) (x1 : Int) (A0_ : Option Addr) (c0_ : Nat) (w0 : World) (s0_ : SlI w0 enE A0_ c0_ x0.log) {r : Bool} (H : m_law12_TupleCuts x0 x1 = some r) : Calls Try.prog 5 #[.agg #[.int .i64 x0.snap.index, .int .i64 x0.snap.term, .int .i64 x0.snap.sum, .int .i64 x0.snap.level, .bool x0.snap.final, .slice A0_ x0.log.length c0_, .int .i64 x0.term, .int .i64 x0.vote], .int .i64 x1] w0 fun e w' => e = .returned (.bool r) ∧ St0 All w0 w' [] := by
  unfold m_law12_TupleCuts at H
  refine gw_enter2 Try.func5 rfl Try.ntmps5 rfl ?_
  have hS := St0.start All w0
  refine wpC_seq_k (fun K hK1 => ?_)
  refine wpC_region ?_
  refine wpS_box rfl rfl rfl CellsOf.agg hS (fun b2 w hS hB => ?_)
  refine wpS_quick 1 rfl ?_
  refine wpS_nil ?_
  refine QH_seq_k hK1 ?_
  refine wpC_seq_k (fun K hK4 => ?_)
  refine wpC_seq_k (fun K hK5 => ?_)
  refine wpC_region ?_
  refine wpS_put rfl rfl rfl (yv_load_boxA ag_26 rfl (RW.here _) hS hs0 trivial sg0_8) ?_
  obtain ⟨r6, hm7, H⟩ := bind_some H
  refine wpS_call rfl rfl rfl rfl (by kernel_rfl) rfl (c_ref12_Right x0 A0_ c0_ _ (SlI.of_rd s0_.k (hS.rd0 s0_.rd) (hS.blk0 s0_.blk)) hm7) ?_
  rintro e w ⟨rfl, hN⟩; refine ⟨_, rfl, ?_⟩; have hB := hN.pure; have hS := hS.join hN; clear hN
  refine wpS_put rfl rfl rfl (yv_not rfl) ?_
  refine wpS_nil ?_
  refine QH_seq_k hK5 ?_
  refine wpC_cond rfl (fun hb => ?_) (fun hb => ?_)
  · replace H := cond_t H hb
    refine wpC_seq_k (fun K hK8 => ?_)
    refine wpC_region ?_
    obtain ⟨r9, hm10, H⟩ := bind_some H
    refine wpS_call rfl rfl rfl rfl (by kernel_rfl) rfl (c_law12_wakes _ hm10) ?_
    rintro e w ⟨rfl, hN⟩; refine ⟨_, rfl, ?_⟩; have hB := hN.pure; have hS := hS.join hN; clear hN
    refine wpS_quick 1 rfl ?_
    refine wpS_nil ?_
    refine QH_seq_k hK8 ?_
    refine wpC_ret ?_
    refine QH_then_ret ?_
    refine QH_ret rfl (RV.tmp rfl RV.nil) rfl ?_
    obtain rfl := Option.some.inj H
    replace hS := hS.cut 0
    exact ⟨rfl, hS⟩
  · replace H := cond_f H hb
    refine wpC_skip ?_
    refine QH_seq_k hK4 ?_
    refine wpC_seq_k (fun K hK11 => ?_)
    refine wpC_region ?_
    refine wpS_put rfl rfl rfl (yv_fieldAddr fo_26_1 rfl) ?_
    refine wpS_put rfl rfl rfl (yv_load_box sc_24 rfl (RW.here _) hS hs0 trivial sg5_1) ?_
    refine wpS_put rfl rfl rfl (yv_len el_24 rfl) ?_
    refine wpS_put rfl rfl rfl (yx_add rfl rfl) ?_
    refine wpS_quick 1 rfl ?_
    refine wpS_nil ?_
    refine QH_seq_k hK11 ?_
    refine wpC_seq_k (fun K hK12 => ?_)
    refine wpC_region ?_
    refine wpS_quick 2 rfl ?_
    obtain ⟨q13, hq14, H⟩ := bind_some H
    obtain ⟨hq14n, rfl⟩ := remI_some hq14
    refine wpS_put rfl rfl rfl (yx_rem rfl rfl hq14n) ?_
    refine wpS_quick 1 rfl ?_
    refine wpS_put rfl rfl rfl (yx_add rfl rfl) ?_
    refine wpS_quick 1 rfl ?_
    obtain ⟨q15, hq16, H⟩ := bind_some H
    obtain ⟨hq16n, rfl⟩ := remI_some hq16
    refine wpS_put rfl rfl rfl (yx_rem rfl rfl hq16n) ?_
    refine wpS_quick 1 rfl ?_
    refine wpS_nil ?_
    refine QH_seq_k hK12 ?_
    refine wpC_seq_k (fun K hK17 => ?_)
    refine wpC_region ?_
    refine wpS_put rfl rfl rfl (yv_load_boxA ag_26 rfl (RW.here _) hS hs0 trivial sg0_8) ?_
    refine wpS_put rfl rfl rfl (yv_fieldAddr fo_26_0 rfl) ?_
    refine wpS_put rfl rfl rfl (yv_fieldAddr fo_23_0 rfl) ?_
    refine wpS_put rfl rfl rfl (yv_load_box sc_3 rfl (RW.here _) hS hs0 trivial sg0_1) ?_
    refine wpS_put rfl rfl rfl (yx_add rfl rfl) ?_
    refine wpS_quick 1 rfl ?_
    refine wpS_put rfl rfl rfl (yx_add rfl rfl) ?_
    obtain ⟨r18, hm19, H⟩ := bind_some H
    refine wpS_call rfl rfl rfl rfl (by kernel_rfl) rfl (c_tuple_Cut x0 (IntKind.wrap .i64 ((IntKind.wrap .i64 (x0.snap.index + 1)) + (Int.tmod (IntKind.wrap .i64 ((Int.tmod x1 (IntKind.wrap .i64 ((x0.log.length : Int) + 1))) + (IntKind.wrap .i64 ((x0.log.length : Int) + 1)))) (IntKind.wrap .i64 ((x0.log.length : Int) + 1))))) A0_ c0_ _ (SlI.of_rd s0_.k (hS.rd0 s0_.rd) (hS.blk0 s0_.blk)) hm19) ?_
    rintro e w ⟨A20, c21, rfl, k22, hN⟩; refine ⟨_, rfl, ?_⟩; have hB := hN.pure; have hS := hS.join hN; clear hN
    refine wpS_quick 1 rfl ?_
    refine wpS_put rfl rfl rfl (yv_extract rfl rfl) ?_
    refine wpS_put rfl rfl rfl (yv_extract rfl rfl) ?_
    refine wpS_alloc rfl rfl zc_26 hS (fun b24 w hS hB => ?_)
    refine wpS_store rfl rfl rfl CellsOf.agg hS ps0 st0_8 (by kernel_rfl) rfl (fun w hS hB => ?_)
    refine wpS_quick 1 rfl ?_
    refine wpS_nil ?_
    refine QH_seq_k hK17 ?_
    refine wpC_seq_k (fun K hK26 => ?_)
    refine wpC_draw 12 [10] (fun i b => (i = 10 → False)) ⟨by kernel_rfl, by kernel_rfl⟩ hS (fun w hS hB => ?_)
    refine wpRF_start [⟨9, 9, 26, [.int .i64 0, .int .i64 0, .int .i64 0, .int .i64 0, .bool false, .slice none 0 0, .int .i64 0, .int .i64 0]⟩] (.cons rfl zc_26 rfl rfl rfl .nil) hS (fun hok => ?_)
    dsimp only [List.cons_append, List.nil_append]
    refine wpRF_batch [true, true, true, true, true] [] (fun _ => True) (by decide +kernel) (fun _ h => by cases h) (by repeat (first | exact PF.body | exact PF.round | apply PF.then | apply PF.inBlock | apply PF.jump)) (fun X Y tk ht w hS => ?_)
    refine LtK.put rfl rfl rfl (yv_load_boxA ag_26 rfl (RW.keepB _ _) hS hs0 trivial sg0_8) ?_
    refine LtK.put rfl rfl rfl (yv_fieldAddr fo_26_1 rfl) ?_
    refine LtK.put rfl rfl rfl (yv_load_box sc_24 rfl (RW.keepB _ _) hS hs2 trivial sg5_1) ?_
    refine LtK.put rfl rfl rfl (yv_move rfl) ?_
    obtain ⟨l27, hd28, H⟩ := bind_some H
    refine LtK.put rfl rfl rfl (yx_slice_l el_24 rfl rfl hd28) ?_
    refine LtK_F' ht hS (by repeat (first | exact App.nil | apply App.cons)) (by repeat (first | exact App.nil | apply App.cons)) ?_
    dsimp only [List.cons_append, List.nil_append]
    refine wpRF_call [false, false, false, false, false, true] 5 hok ⟨by decide, by decide +kernel, by decide, by decide⟩ rfl rfl (fun _ => rfl) (fun _ => rfl) rfl (hend_of (by decide +kernel)) (fun X Y tk ht w hS => ?_)
    dsimp only [pickL]
    obtain ⟨r29, hm30, H⟩ := bind_some H
    refine wpS_call rfl rfl rfl rfl (by kernel_rfl) rfl (c_tuple_Append r18.1 l27 A20 c21 (cutA A0_ c0_ (Int.toNat (Int.tmod (IntKind.wrap .i64 ((Int.tmod x1 (IntKind.wrap .i64 ((x0.log.length : Int) + 1))) + (IntKind.wrap .i64 ((x0.log.length : Int) + 1)))) (IntKind.wrap .i64 ((x0.log.length : Int) + 1)))) 3) (c0_ - Int.toNat (Int.tmod (IntKind.wrap .i64 ((Int.tmod x1 (IntKind.wrap .i64 ((x0.log.length : Int) + 1))) + (IntKind.wrap .i64 ((x0.log.length : Int) + 1)))) (IntKind.wrap .i64 ((x0.log.length : Int) + 1)))) _ (SlI.of_rd k22 (hS.rd hs1) (hS.rd_blk hs1)) (SlI.of_rd (k_drop s0_.k hd28) (Rd.dropI he_enE (hS.rd0 s0_.rd) s0_.k.1 hd28) (cutA_blk (hS.blk0 s0_.blk))) hm30) ?_
    rintro e w ⟨A31, c32, rfl, k33, hN⟩; refine ⟨_, rfl, ?_⟩; have hB := hN.pure; have hS := hS.join hN; clear hN
    refine wpS_nil ?_
    refine QH_stepF' ht hS hB (by repeat (first | exact App.nil | apply App.cons)) (by repeat (first | exact App.nil | apply App.cons)) ?_
    dsimp only [List.cons_append, List.nil_append]
    refine wpRF_batch [false, false, false, false, false, false, true, true] [] (fun _ => True) (by decide +kernel) (fun _ h => by cases h) (by repeat (first | exact PF.body | exact PF.round | apply PF.then | apply PF.inBlock | apply PF.jump)) (fun X Y tk ht w hS => ?_)
    refine LtK.put rfl rfl rfl (yv_move rfl) ?_
    refine LtK.put rfl rfl rfl (yv_extract rfl rfl) ?_
    refine LtK_F' ht hS (by repeat (first | exact App.nil | apply App.cons)) (by repeat (first | exact App.nil | apply App.cons)) ?_
    dsimp only [List.cons_append, List.nil_append]
    refine wpRF_batch [false, false, false, false, false, false, false, false, true] [10] (fun _ => False) (by decide +kernel) (fun _ _ _ h => h.elim) (by repeat (first | exact PF.body | exact PF.round | apply PF.then | apply PF.inBlock | apply PF.jump)) (fun X Y tk ht w hS => ?_)
    refine LtK.put rfl rfl rfl (yv_extract rfl rfl) ?_
    refine LtK_F' ht hS (by repeat (first | exact App.nil | apply App.cons)) (by repeat (first | exact App.nil | apply App.cons)) ?_
    dsimp only [List.cons_append, List.nil_append]
    refine wpRF_done hok (by decide) (by decide +kernel) (fun _ => rfl) (fun _ => rfl) rfl (fun tk htk w hS => ?_)
    obtain ⟨b35, tkb35, rfl, htk37⟩ := tk_cons htk
    obtain rfl := tk_nil htk37
    dsimp only [tkH, tkL, List.map] at hS ⊢
    refine wpR_seal [false, false, false, false, false, false, false, false, false, false, true] 10 ⟨by decide, by kernel_rfl, by kernel_rfl⟩ rfl rfl ?_
    dsimp only [pickL]
    refine wpS_store rfl rfl rfl CellsOf.agg hS ps4 st0_8 (by kernel_rfl) rfl (fun w hS hB => ?_)
    refine wpS_nil ?_
    refine QH_stepG (hB.sub (fun _ _ h => by simp at h)) ?_
    refine wpR_batch [false, false, false, false, false, false, false, false, false, false, false, true] (by decide +kernel) (by repeat (first | exact PF.body | exact PF.round | apply PF.then | apply PF.inBlock | apply PF.jump)) ?_
    refine LtK.put rfl rfl rfl (yv_assign rfl) ?_
    refine LtK.nil ?_
    refine wpR_end (by kernel_rfl) ?_
    refine QH_seq_k hK26 ?_
    refine wpC_seq_k (fun K hK38 => ?_)
    refine wpC_region ?_
    refine wpS_put rfl rfl rfl (yv_load_boxA ag_26 rfl (RW.here _) hS hs3 trivial sg0_8) ?_
    refine wpS_put rfl rfl rfl (yv_fieldAddr fo_26_0 rfl) ?_
    refine wpS_put rfl rfl rfl (yv_fieldAddr fo_23_0 rfl) ?_
    refine wpS_put rfl rfl rfl (yv_load_box sc_3 rfl (RW.here _) hS hs3 trivial sg0_1) ?_
    obtain ⟨r39, hm40, H⟩ := bind_some H
    refine wpS_call rfl rfl rfl rfl (by kernel_rfl) rfl (c_tuple_Cut x0 x0.snap.index A0_ c0_ _ (SlI.of_rd s0_.k (hS.rd0 s0_.rd) (hS.blk0 s0_.blk)) hm40) ?_
    rintro e w ⟨A41, c42, rfl, k43, hN⟩; refine ⟨_, rfl, ?_⟩; have hB := hN.pure; have hS := hS.join hN; clear hN
    refine wpS_quick 1 rfl ?_
    refine wpS_put rfl rfl rfl (yv_extract rfl rfl) ?_
    refine wpS_put rfl rfl rfl (yv_extract rfl rfl) ?_
    refine wpS_alloc rfl rfl zc_26 hS (fun b45 w hS hB => ?_)
    refine wpS_store rfl rfl rfl CellsOf.agg hS ps0 st0_8 (by kernel_rfl) rfl (fun w hS hB => ?_)
    refine wpS_quick 1 rfl ?_
    refine wpS_nil ?_
    refine QH_seq_k hK38 ?_
    refine wpC_seq_k (fun K hK47 => ?_)
    refine wpC_draw 11 [9] (fun i b => (i = 9 → False)) ⟨by kernel_rfl, by kernel_rfl⟩ hS (fun w hS hB => ?_)
    refine wpRF_start [⟨8, 13, 26, [.int .i64 0, .int .i64 0, .int .i64 0, .int .i64 0, .bool false, .slice none 0 0, .int .i64 0, .int .i64 0]⟩] (.cons rfl zc_26 rfl rfl rfl .nil) hS (fun hok => ?_)
    dsimp only [List.cons_append, List.nil_append]
    refine wpRF_batch [true, true] [] (fun _ => True) (by decide +kernel) (fun _ h => by cases h) (by repeat (first | exact PF.body | exact PF.round | apply PF.then | apply PF.inBlock | apply PF.jump)) (fun X Y tk ht w hS => ?_)
    refine LtK.put rfl rfl rfl (yv_load_boxA ag_26 rfl (RW.keepB _ _) hS hs5 trivial sg0_8) ?_
    refine LtK.put rfl rfl rfl (yv_load_boxA ag_26 rfl (RW.keepB _ _) hS hs5 trivial sg0_8) ?_
    refine LtK_F' ht hS (by repeat (first | exact App.nil | apply App.cons)) (by repeat (first | exact App.nil | apply App.cons)) ?_
    dsimp only [List.cons_append, List.nil_append]
    refine wpRF_call [false, false, true] 2 hok ⟨by decide, by decide +kernel, by decide, by decide⟩ rfl rfl (fun _ => rfl) (fun _ => rfl) rfl (hend_of (by decide +kernel)) (fun X Y tk ht w hS => ?_)
    dsimp only [pickL]
    obtain ⟨r48, hm49, H⟩ := bind_some H
    refine wpS_call rfl rfl rfl rfl (by kernel_rfl) rfl (c_tuple_Last x0 A0_ c0_ _ (SlI.of_rd s0_.k (hS.rd0 s0_.rd) (hS.blk0 s0_.blk)) hm49) ?_
    rintro e w ⟨rfl, hN⟩; refine ⟨_, rfl, ?_⟩; have hB := hN.pure; have hS := hS.join hN; clear hN
    refine wpS_nil ?_
    refine QH_stepF' ht hS hB (by repeat (first | exact App.nil | apply App.cons)) (by repeat (first | exact App.nil | apply App.cons)) ?_
    dsimp only [List.cons_append, List.nil_append]
    refine wpRF_batch [false, false, false, true] [] (fun _ => True) (by decide +kernel) (fun _ h => by cases h) (by repeat (first | exact PF.body | exact PF.round | apply PF.then | apply PF.inBlock | apply PF.jump)) (fun X Y tk ht w hS => ?_)
    refine LtK.put rfl rfl rfl (yx_add rfl rfl) ?_
    refine LtK_F' ht hS (by repeat (first | exact App.nil | apply App.cons)) (by repeat (first | exact App.nil | apply App.cons)) ?_
    dsimp only [List.cons_append, List.nil_append]
    refine wpRF_call [false, false, false, false, true] 4 hok ⟨by decide, by decide +kernel, by decide, by decide⟩ rfl rfl (fun _ => rfl) (fun _ => rfl) rfl (hend_of (by decide +kernel)) (fun X Y tk ht w hS => ?_)
    dsimp only [pickL]
    obtain ⟨r50, hm51, H⟩ := bind_some H
    refine wpS_call rfl rfl rfl rfl (by kernel_rfl) rfl (c_tuple_Cut x0 (IntKind.wrap .i64 (r48 + 2)) A0_ c0_ _ (SlI.of_rd s0_.k (hS.rd0 s0_.rd) (hS.blk0 s0_.blk)) hm51) ?_
    rintro e w ⟨A52, c53, rfl, k54, hN⟩; refine ⟨_, rfl, ?_⟩; have hB := hN.pure; have hS := hS.join hN; clear hN
    refine wpS_nil ?_
    refine QH_stepF' ht hS hB (by repeat (first | exact App.nil | apply App.cons)) (by repeat (first | exact App.nil | apply App.cons)) ?_
    dsimp only [List.cons_append, List.nil_append]
    refine wpRF_batch [false, false, false, false, false, true, true] [] (fun _ => True) (by decide +kernel) (fun _ h => by cases h) (by repeat (first | exact PF.body | exact PF.round | apply PF.then | apply PF.inBlock | apply PF.jump)) (fun X Y tk ht w hS => ?_)
    refine LtK.put rfl rfl rfl (yv_move rfl) ?_
    refine LtK.put rfl rfl rfl (yv_extract rfl rfl) ?_
    refine LtK_F' ht hS (by repeat (first | exact App.nil | apply App.cons)) (by repeat (first | exact App.nil | apply App.cons)) ?_
    dsimp only [List.cons_append, List.nil_append]
    refine wpRF_batch [false, false, false, false, false, false, false, true] [9] (fun _ => False) (by decide +kernel) (fun _ _ _ h => h.elim) (by repeat (first | exact PF.body | exact PF.round | apply PF.then | apply PF.inBlock | apply PF.jump)) (fun X Y tk ht w hS => ?_)
    refine LtK.put rfl rfl rfl (yv_extract rfl rfl) ?_
    refine LtK_F' ht hS (by repeat (first | exact App.nil | apply App.cons)) (by repeat (first | exact App.nil | apply App.cons)) ?_
    dsimp only [List.cons_append, List.nil_append]
    refine wpRF_done hok (by decide) (by decide +kernel) (fun _ => rfl) (fun _ => rfl) rfl (fun tk htk w hS => ?_)
    obtain ⟨b56, tkb56, rfl, htk58⟩ := tk_cons htk
    obtain rfl := tk_nil htk58
    dsimp only [tkH, tkL, List.map] at hS ⊢
    refine wpR_seal [false, false, false, false, false, false, false, false, false, true] 9 ⟨by decide, by kernel_rfl, by kernel_rfl⟩ rfl rfl ?_
    dsimp only [pickL]
    refine wpS_store rfl rfl rfl CellsOf.agg hS ps8 st0_8 (by kernel_rfl) rfl (fun w hS hB => ?_)
    refine wpS_nil ?_
    refine QH_stepG (hB.sub (fun _ _ h => by simp at h)) ?_
    refine wpR_batch [false, false, false, false, false, false, false, false, false, false, true] (by decide +kernel) (by repeat (first | exact PF.body | exact PF.round | apply PF.then | apply PF.inBlock | apply PF.jump)) ?_
    refine LtK.put rfl rfl rfl (yv_assign rfl) ?_
    refine LtK.nil ?_
    refine wpR_end (by kernel_rfl) ?_
    refine QH_seq_k hK47 ?_
    refine wpC_seq_k (fun K hK59 => ?_)
    refine wpC_draw 49 [] (fun _ _ => True) ⟨by kernel_rfl, by kernel_rfl⟩ hS (fun w hS hB => ?_)
    refine wpR_batch [true, true, true] (by decide +kernel) (by repeat (first | exact PF.body | exact PF.round | apply PF.then | apply PF.inBlock | apply PF.jump)) ?_
    refine LtK.put rfl rfl rfl (yv_move rfl) ?_
    refine LtK.put rfl rfl rfl (yv_eql rfl rfl) ?_
    refine LtK.put rfl rfl rfl (yv_move rfl) ?_
    refine LtK.nil ?_
    refine wpR_case 68 rfl (fun hb => ?_) (fun hb => ?_)
    · replace H := cond_t H hb
      refine wpR_batch [false, false, false, true, true, true, true] (by decide +kernel) (by repeat (first | exact PF.body | exact PF.round | apply PF.then | apply PF.inBlock | apply PF.jump)) ?_
      refine LtK.put rfl rfl rfl (yv_move rfl) ?_
      refine LtK.put rfl rfl rfl (yv_eql rfl rfl) ?_
      refine LtK.put rfl rfl rfl (yv_pick_t rfl rfl rfl) ?_
      refine LtK.put rfl rfl rfl (yv_move rfl) ?_
      refine LtK.nil ?_
      refine wpR_case 72 rfl (fun hb => ?_) (fun hb => ?_)
      · replace H := cond_t H hb
        refine wpR_batch [false, false, false, false, false, false, false, true, true, true, true] (by decide +kernel) (by repeat (first | exact PF.body | exact PF.round | apply PF.then | apply PF.inBlock | apply PF.jump)) ?_
        refine LtK.put rfl rfl rfl (yv_move rfl) ?_
        refine LtK.put rfl rfl rfl (yv_eql rfl rfl) ?_
        refine LtK.put rfl rfl rfl (yv_pick_t rfl rfl rfl) ?_
        refine LtK.put rfl rfl rfl (yv_move rfl) ?_
        refine LtK.nil ?_
        refine wpR_case 76 rfl (fun hb => ?_) (fun hb => ?_)
        · replace H := cond_t H hb
          refine wpR_batch [false, false, false, false, false, false, false, false, false, false, false, true, true, true, true] (by decide +kernel) (by repeat (first | exact PF.body | exact PF.round | apply PF.then | apply PF.inBlock | apply PF.jump)) ?_
          refine LtK.put rfl rfl rfl (yv_move rfl) ?_
          refine LtK.put rfl rfl rfl (yv_eql rfl rfl) ?_
          refine LtK.put rfl rfl rfl (yv_pick_t rfl rfl rfl) ?_
          refine LtK.put rfl rfl rfl (yv_move rfl) ?_
          refine LtK.nil ?_
          refine wpR_case 80 rfl (fun hb => ?_) (fun hb => ?_)
          · replace H := cond_t H hb
            refine wpR_batch [false, false, false, false, false, false, false, false, false, false, false, false, false, false, false, true, true] (by decide +kernel) (by repeat (first | exact PF.body | exact PF.round | apply PF.then | apply PF.inBlock | apply PF.jump)) ?_
            refine LtK.put rfl rfl rfl (yv_load_boxA ag_26 rfl (RW.below _) hS hs7 trivial sg0_8) ?_
            refine LtK.put rfl rfl rfl (yv_load_boxA ag_26 rfl (RW.below _) hS hs6 trivial sg0_8) ?_
            refine LtK.nil ?_
            refine wpR_call [false, false, false, false, false, false, false, false, false, false, false, false, false, false, false, false, false, true] 17 ⟨by decide, by kernel_rfl, by kernel_rfl⟩ rfl rfl ?_
            dsimp only [pickL]
            obtain ⟨r60, hm61, H⟩ := bind_some H
            refine wpS_call rfl rfl rfl rfl (by kernel_rfl) rfl (c_ref12_Same r29.1 x0 A31 c32 A0_ c0_ _ (SlI.of_rd k33 (hS.rd hs3) (hS.rd_blk hs3)) (SlI.of_rd s0_.k (hS.rd0 s0_.rd) (hS.blk0 s0_.blk)) hm61) ?_
            rintro e w ⟨rfl, hN⟩; refine ⟨_, rfl, ?_⟩; have hB := hN.pure; have hS := hS.join hN; clear hN
            refine wpS_nil ?_
            refine QH_step hB ?_
            refine wpR_batch [false, false, false, false, false, false, false, false, false, false, false, false, false, false, false, false, false, false, true, true] (by decide +kernel) (by repeat (first | exact PF.body | exact PF.round | apply PF.then | apply PF.inBlock | apply PF.jump)) ?_
            refine LtK.put rfl rfl rfl (yv_pick_t rfl rfl rfl) ?_
            refine LtK.put rfl rfl rfl (yv_move rfl) ?_
            refine LtK.nil ?_
            refine wpR_case 85 rfl (fun hb => ?_) (fun hb => ?_)
            · replace H := cond_t H hb
              refine wpR_batch [false, false, false, false, false, false, false, false, false, false, false, false, false, false, false, false, false, false, false, false, true, false, true, true, true, true, true] (by decide +kernel) (by repeat (first | exact PF.body | exact PF.round | apply PF.then | apply PF.inBlock | apply PF.jump)) ?_
              refine LtK.put rfl rfl rfl (yv_load_boxA ag_26 rfl (RW.below _) hS hs4 trivial sg0_8) ?_
              refine LtK.put rfl rfl rfl (yv_fieldAddr fo_26_0 rfl) ?_
              refine LtK.put rfl rfl rfl (yv_fieldAddr fo_23_0 rfl) ?_
              refine LtK.put rfl rfl rfl (yv_load_box sc_3 rfl (RW.below _) hS hs6 trivial sg0_1) ?_
              refine LtK.put rfl rfl rfl (yv_move rfl) ?_
              refine LtK.put rfl rfl rfl (yx_add rfl rfl) ?_
              refine LtK.nil ?_
              refine wpR_call [false, false, false, false, false, false, false, false, false, false, false, false, false, false, false, false, false, false, false, false, false, true] 21 ⟨by decide, by kernel_rfl, by kernel_rfl⟩ rfl rfl ?_
              dsimp only [pickL]
              obtain ⟨r62, hm63, H⟩ := bind_some H
              refine wpS_call rfl rfl rfl rfl (by kernel_rfl) rfl (c_tuple_Last r18.1 A20 c21 _ (SlI.of_rd k22 (hS.rd hs5) (hS.rd_blk hs5)) hm63) ?_
              rintro e w ⟨rfl, hN⟩; refine ⟨_, rfl, ?_⟩; have hB := hN.pure; have hS := hS.join hN; clear hN
              refine wpS_nil ?_
              refine QH_step hB ?_
              refine wpR_batch [false, false, false, false, false, false, false, false, false, false, false, false, false, false, false, false, false, false, false, false, false, false, false, false, false, false, false, true, true, true] (by decide +kernel) (by repeat (first | exact PF.body | exact PF.round | apply PF.then | apply PF.inBlock | apply PF.jump)) ?_
              refine LtK.put rfl rfl rfl (yv_eql rfl rfl) ?_
              refine LtK.put rfl rfl rfl (yv_pick_t rfl rfl rfl) ?_
              refine LtK.put rfl rfl rfl (yv_move rfl) ?_
              refine LtK.nil ?_
              refine wpR_case 95 rfl (fun hb => ?_) (fun hb => ?_)
              · replace H := cond_t H hb
                refine wpR_batch [false, false, false, false, false, false, false, false, false, false, false, false, false, false, false, false, false, false, false, false, false, false, false, false, false, false, false, false, false, false, true, true, true, true, true, true] (by decide +kernel) (by repeat (first | exact PF.body | exact PF.round | apply PF.then | apply PF.inBlock | apply PF.jump)) ?_
                refine LtK.put rfl rfl rfl (yv_fieldAddr fo_26_1 rfl) ?_
                refine LtK.put rfl rfl rfl (yv_load_box sc_24 rfl (RW.below _) hS hs4 trivial sg5_1) ?_
                refine LtK.put rfl rfl rfl (yv_fieldAddr fo_26_1 rfl) ?_
                refine LtK.put rfl rfl rfl (yv_load_box sc_24 rfl (RW.below _) hS hs6 trivial sg5_1) ?_
                refine LtK.put rfl rfl rfl (yv_move rfl) ?_
                obtain ⟨l64, ht65, H⟩ := bind_some H
                refine LtK.put rfl rfl rfl (yx_slice_h el_24 rfl rfl s0_.k.1 ht65) ?_
                refine LtK.nil ?_
                refine wpR_call [false, false, false, false, false, false, false, false, false, false, false, false, false, false, false, false, false, false, false, false, false, false, false, false, false, false, false, false, false, false, false, false, false, false, false, false, true] 36 ⟨by decide, by kernel_rfl, by kernel_rfl⟩ rfl rfl ?_
                dsimp only [pickL]
                obtain ⟨r66, hm67, H⟩ := bind_some H
                refine wpS_call rfl rfl rfl rfl (by kernel_rfl) rfl (c_ref06_Same r18.1.log l64 A20 c21 A0_ c0_ _ (SlI.of_rd k22 (hS.rd hs5) (hS.rd_blk hs5)) (SlI.of_rd (k_take s0_.k ht65) (Rd.takeI he_enE (hS.rd0 s0_.rd) ht65) (hS.blk0 s0_.blk)) hm67) ?_
                rintro e w ⟨rfl, hN⟩; refine ⟨_, rfl, ?_⟩; have hB := hN.pure; have hS := hS.join hN; clear hN
                refine wpS_nil ?_
                refine QH_step hB ?_
                refine wpR_batch [false, false, false, false, false, false, false, false, false, false, false, false, false, false, false, false, false, false, false, false, false, false, false, false, false, false, false, false, false, false, false, false, false, false, false, false, false, true, true] (by decide +kernel) (by repeat (first | exact PF.body | exact PF.round | apply PF.then | apply PF.inBlock | apply PF.jump)) ?_
                refine LtK.put rfl rfl rfl (yv_pick_t rfl rfl rfl) ?_
                refine LtK.put rfl rfl rfl (yv_move rfl) ?_
                refine LtK.nil ?_
                refine wpR_case 104 rfl (fun hb => ?_) (fun hb => ?_)
                · replace H := cond_t H hb
                  refine wpR_batch [false, false, false, false, false, false, false, false, false, false, false, false, false, false, false, false, false, false, false, false, false, false, false, false, false, false, false, false, false, false, false, false, false, false, false, false, false, false, false, true, true, true, true, true, true, true] (by decide +kernel) (by repeat (first | exact PF.body | exact PF.round | apply PF.then | apply PF.inBlock | apply PF.jump)) ?_
                  refine LtK.put rfl rfl rfl (yv_fieldAddr fo_26_0 rfl) ?_
                  refine LtK.put rfl rfl rfl (yv_load_boxA ag_23 rfl (RW.below _) hS hs4 trivial sg0_5) ?_
                  refine LtK.put rfl rfl rfl (yv_fieldAddr fo_26_0 rfl) ?_
                  refine LtK.put rfl rfl rfl (yv_load_boxA ag_23 rfl (RW.below _) hS hs6 trivial sg0_5) ?_
                  refine LtK.put rfl rfl rfl (yv_eqlS (by kernel_rfl) rfl rfl (eqT_23 _ _ _ _ _ _ _ _ _ _)) ?_
                  refine LtK.put rfl rfl rfl (yv_pick_t rfl rfl rfl) ?_
                  refine LtK.put rfl rfl rfl (yv_move rfl) ?_
                  refine LtK.nil ?_
                  refine wpR_case 111 rfl (fun hb => ?_) (fun hb => ?_)
                  · replace H := cond_t H hb
                    refine wpR_call [false, false, false, false, false, false, false, false, false, false, false, false, false, false, false, false, false, false, false, false, false, false, false, false, false, false, false, false, false, false, false, false, false, false, false, false, false, false, false, false, false, false, false, false, false, false, true] 46 ⟨by decide, by kernel_rfl, by kernel_rfl⟩ rfl rfl ?_
                    dsimp only [pickL]
                    obtain ⟨r68, hm69, H⟩ := bind_some H
                    refine wpS_call rfl rfl rfl rfl (by kernel_rfl) rfl (c_law12_wakes _ hm69) ?_
                    rintro e w ⟨rfl, hN⟩; refine ⟨_, rfl, ?_⟩; have hB := hN.pure; have hS := hS.join hN; clear hN
                    refine wpS_nil ?_
                    refine QH_step hB ?_
                    refine wpR_batch [false, false, false, false, false, false, false, false, false, false, false, false, false, false, false, false, false, false, false, false, false, false, false, false, false, false, false, false, false, false, false, false, false, false, false, false, false, false, false, false, false, false, false, false, false, false, false, true, true] (by decide +kernel) (by repeat (first | exact PF.body | exact PF.round | apply PF.then | apply PF.inBlock | apply PF.jump)) ?_
                    refine LtK.put rfl rfl rfl (yv_pick_t rfl rfl rfl) ?_
                    refine LtK.put rfl rfl rfl (yv_assign rfl) ?_
                    refine LtK.nil ?_
                    refine wpR_end (by kernel_rfl) ?_
                    refine QH_seq_k hK59 ?_
                    refine wpC_ret ?_
                    refine QH_ret rfl (RV.tmp rfl RV.nil) rfl ?_
                    obtain rfl := Option.some.inj H
                    replace hS := hS.cut 0
                    exact ⟨rfl, hS⟩
                  · replace H := cond_f H hb
                    refine wpR_call [false, false, false, false, false, false, false, false, false, false, false, false, false, false, false, false, false, false, false, false, false, false, false, false, false, false, false, false, false, false, false, false, false, false, false, false, false, false, false, false, false, false, false, false, false, false, true] 46 ⟨by decide, by kernel_rfl, by kernel_rfl⟩ rfl rfl ?_
                    dsimp only [pickL]
                    refine wpS_skip rfl rfl rfl ?_
                    refine wpS_nil ?_
                    refine QH_step (Below.refl _ _) ?_
                    refine wpR_batch [false, false, false, false, false, false, false, false, false, false, false, false, false, false, false, false, false, false, false, false, false, false, false, false, false, false, false, false, false, false, false, false, false, false, false, false, false, false, false, false, false, false, false, false, false, false, false, true, true] (by decide +kernel) (by repeat (first | exact PF.body | exact PF.round | apply PF.then | apply PF.inBlock | apply PF.jump)) ?_
                    refine LtK.put rfl rfl rfl (yv_pick_f rfl rfl rfl) ?_
                    refine LtK.put rfl rfl rfl (yv_assign rfl) ?_
                    refine LtK.nil ?_
                    refine wpR_end (by kernel_rfl) ?_
                    refine QH_seq_k hK59 ?_
                    refine wpC_ret ?_
                    refine QH_ret rfl (RV.tmp rfl RV.nil) rfl ?_
                    obtain rfl := Option.some.inj H
                    replace hS := hS.cut 0
                    exact ⟨rfl, hS⟩
                · replace H := cond_f H hb
                  refine wpR_batch [false, false, false, false, false, false, false, false, false, false, false, false, false, false, false, false, false, false, false, false, false, false, false, false, false, false, false, false, false, false, false, false, false, false, false, false, false, false, false, true, true, true, true, true, true, true] (by decide +kernel) (by repeat (first | exact PF.body | exact PF.round | apply PF.then | apply PF.inBlock | apply PF.jump)) ?_
                  refine LtK.skip rfl rfl rfl ?_
                  refine LtK.skip rfl rfl rfl ?_
                  refine LtK.skip rfl rfl rfl ?_
                  refine LtK.skip rfl rfl rfl ?_
                  refine LtK.skip rfl rfl rfl ?_
                  refine LtK.put rfl rfl rfl (yv_pick_f rfl rfl rfl) ?_
                  refine LtK.put rfl rfl rfl (yv_move rfl) ?_
                  refine LtK.nil ?_
                  refine wpR_call [false, false, false, false, false, false, false, false, false, false, false, false, false, false, false, false, false, false, false, false, false, false, false, false, false, false, false, false, false, false, false, false, false, false, false, false, false, false, false, false, false, false, false, false, false, false, true] 46 ⟨by decide, by kernel_rfl, by kernel_rfl⟩ rfl rfl ?_
                  dsimp only [pickL]
                  refine wpS_skip rfl rfl rfl ?_
                  refine wpS_nil ?_
                  refine QH_step (Below.refl _ _) ?_
                  refine wpR_batch [false, false, false, false, false, false, false, false, false, false, false, false, false, false, false, false, false, false, false, false, false, false, false, false, false, false, false, false, false, false, false, false, false, false, false, false, false, false, false, false, false, false, false, false, false, false, false, true, true] (by decide +kernel) (by repeat (first | exact PF.body | exact PF.round | apply PF.then | apply PF.inBlock | apply PF.jump)) ?_
                  refine LtK.put rfl rfl rfl (yv_pick_f rfl rfl rfl) ?_
                  refine LtK.put rfl rfl rfl (yv_assign rfl) ?_
                  refine LtK.nil ?_
                  refine wpR_end (by kernel_rfl) ?_
                  refine QH_seq_k hK59 ?_
                  refine wpC_ret ?_
                  refine QH_ret rfl (RV.tmp rfl RV.nil) rfl ?_
                  obtain rfl := Option.some.inj H
                  replace hS := hS.cut 0
                  exact ⟨rfl, hS⟩
              · replace H := cond_f H hb
                refine wpR_batch [false, false, false, false, false, false, false, false, false, false, false, false, false, false, false, false, false, false, false, false, false, false, false, false, false, false, false, false, false, false, true, true, true, true, true, true] (by decide +kernel) (by repeat (first | exact PF.body | exact PF.round | apply PF.then | apply PF.inBlock | apply PF.jump)) ?_
                refine LtK.skip rfl rfl rfl ?_
                refine LtK.skip rfl rfl rfl ?_
                refine LtK.skip rfl rfl rfl ?_
                refine LtK.skip rfl rfl rfl ?_
                refine LtK.skip rfl rfl rfl ?_
                refine LtK.skip rfl rfl rfl ?_
                refine LtK.nil ?_
                refine wpR_call [false, false, false, false, false, false, false, false, false, false, false, false, false, false, false, false, false, false, false, false, false, false, false, false, false, false, false, false, false, false, false, false, false, false, false, false, true] 36 ⟨by decide, by kernel_rfl, by kernel_rfl⟩ rfl rfl ?_
                dsimp only [pickL]
                refine wpS_skip rfl rfl rfl ?_
                refine wpS_nil ?_
                refine QH_step (Below.refl _ _) ?_
                refine wpR_batch [false, false, false, false, false, false, false, false, false, false, false, false, false, false, false, false, false, false, false, false, false, false, false, false, false, false, false, false, false, false, false, false, false, false, false, false, false, true, true, true, true, true, true, true, true, true] (by decide +kernel) (by repeat (first | exact PF.body | exact PF.round | apply PF.then | apply PF.inBlock | apply PF.jump)) ?_
                refine LtK.put rfl rfl rfl (yv_pick_f rfl rfl rfl) ?_
                refine LtK.put rfl rfl rfl (yv_move rfl) ?_
                refine LtK.skip rfl rfl rfl ?_
                refine LtK.skip rfl rfl rfl ?_
                refine LtK.skip rfl rfl rfl ?_
                refine LtK.skip rfl rfl rfl ?_
                refine LtK.skip rfl rfl rfl ?_
                refine LtK.put rfl rfl rfl (yv_pick_f rfl rfl rfl) ?_
                refine LtK.put rfl rfl rfl (yv_move rfl) ?_
                refine LtK.nil ?_
                refine wpR_call [false, false, false, false, false, false, false, false, false, false, false, false, false, false, false, false, false, false, false, false, false, false, false, false, false, false, false, false, false, false, false, false, false, false, false, false, false, false, false, false, false, false, false, false, false, false, true] 46 ⟨by decide, by kernel_rfl, by kernel_rfl⟩ rfl rfl ?_
                dsimp only [pickL]
                refine wpS_skip rfl rfl rfl ?_
                refine wpS_nil ?_
                refine QH_step (Below.refl _ _) ?_
                refine wpR_batch [false, false, false, false, false, false, false, false, false, false, false, false, false, false, false, false, false, false, false, false, false, false, false, false, false, false, false, false, false, false, false, false, false, false, false, false, false, false, false, false, false, false, false, false, false, false, false, true, true] (by decide +kernel) (by repeat (first | exact PF.body | exact PF.round | apply PF.then | apply PF.inBlock | apply PF.jump)) ?_
                refine LtK.put rfl rfl rfl (yv_pick_f rfl rfl rfl) ?_
                refine LtK.put rfl rfl rfl (yv_assign rfl) ?_
                refine LtK.nil ?_
                refine wpR_end (by kernel_rfl) ?_
                refine QH_seq_k hK59 ?_
                refine wpC_ret ?_
                refine QH_ret rfl (RV.tmp rfl RV.nil) rfl ?_
                obtain rfl := Option.some.inj H
                replace hS := hS.cut 0
                exact ⟨rfl, hS⟩
            · replace H := cond_f H hb
              refine wpR_batch [false, false, false, false, false, false, false, false, false, false, false, false, false, false, false, false, false, false, false, false, true, false, true, true, true, true, true] (by decide +kernel) (by repeat (first | exact PF.body | exact PF.round | apply PF.then | apply PF.inBlock | apply PF.jump)) ?_
              refine LtK.skip rfl rfl rfl ?_
              refine LtK.skip rfl rfl rfl ?_
              refine LtK.skip rfl rfl rfl ?_
              refine LtK.skip rfl rfl rfl ?_
              refine LtK.skip rfl rfl rfl ?_
              refine LtK.skip rfl rfl rfl ?_
              refine LtK.nil ?_
              refine wpR_call [false, false, false, false, false, false, false, false, false, false, false, false, false, false, false, false, false, false, false, false, false, true] 21 ⟨by decide, by kernel_rfl, by kernel_rfl⟩ rfl rfl ?_
              dsimp only [pickL]
              refine wpS_skip rfl rfl rfl ?_
              refine wpS_nil ?_
              refine QH_step (Below.refl _ _) ?_
              refine wpR_batch [false, false, false, false, false, false, false, false, false, false, false, false, false, false, false, false, false, false, false, false, false, false, false, false, false, false, false, true, true, true, true, true, true, true, true, true] (by decide +kernel) (by repeat (first | exact PF.body | exact PF.round | apply PF.then | apply PF.inBlock | apply PF.jump)) ?_
              refine LtK.skip rfl rfl rfl ?_
              refine LtK.put rfl rfl rfl (yv_pick_f rfl rfl rfl) ?_
              refine LtK.put rfl rfl rfl (yv_move rfl) ?_
              refine LtK.skip rfl rfl rfl ?_
              refine LtK.skip rfl rfl rfl ?_
              refine LtK.skip rfl rfl rfl ?_
              refine LtK.skip rfl rfl rfl ?_
              refine LtK.skip rfl rfl rfl ?_
              refine LtK.skip rfl rfl rfl ?_
              refine LtK.nil ?_
              refine wpR_call [false, false, false, false, false, false, false, false, false, false, false, false, false, false, false, false, false, false, false, false, false, false, false, false, false, false, false, false, false, false, false, false, false, false, false, false, true] 36 ⟨by decide, by kernel_rfl, by kernel_rfl⟩ rfl rfl ?_
              dsimp only [pickL]
              refine wpS_skip rfl rfl rfl ?_
              refine wpS_nil ?_
              refine QH_step (Below.refl _ _) ?_
              refine wpR_batch [false, false, false, false, false, false, false, false, false, false, false, false, false, false, false, false, false, false, false, false, false, false, false, false, false, false, false, false, false, false, false, false, false, false, false, false, false, true, true, true, true, true, true, true, true, true] (by decide +kernel) (by repeat (first | exact PF.body | exact PF.round | apply PF.then | apply PF.inBlock | apply PF.jump)) ?_
              refine LtK.put rfl rfl rfl (yv_pick_f rfl rfl rfl) ?_
              refine LtK.put rfl rfl rfl (yv_move rfl) ?_
              refine LtK.skip rfl rfl rfl ?_
              refine LtK.skip rfl rfl rfl ?_
              refine LtK.skip rfl rfl rfl ?_
              refine LtK.skip rfl rfl rfl ?_
              refine LtK.skip rfl rfl rfl ?_
              refine LtK.put rfl rfl rfl (yv_pick_f rfl rfl rfl) ?_
              refine LtK.put rfl rfl rfl (yv_move rfl) ?_
              refine LtK.nil ?_
              refine wpR_call [false, false, false, false, false, false, false, false, false, false, false, false, false, false, false, false, false, false, false, false, false, false, false, false, false, false, false, false, false, false, false, false, false, false, false, false, false, false, false, false, false, false, false, false, false, false, true] 46 ⟨by decide, by kernel_rfl, by kernel_rfl⟩ rfl rfl ?_
              dsimp only [pickL]
              refine wpS_skip rfl rfl rfl ?_
              refine wpS_nil ?_
              refine QH_step (Below.refl _ _) ?_
              refine wpR_batch [false, false, false, false, false, false, false, false, false, false, false, false, false, false, false, false, false, false, false, false, false, false, false, false, false, false, false, false, false, false, false, false, false, false, false, false, false, false, false, false, false, false, false, false, false, false, false, true, true] (by decide +kernel) (by repeat (first | exact PF.body | exact PF.round | apply PF.then | apply PF.inBlock | apply PF.jump)) ?_
              refine LtK.put rfl rfl rfl (yv_pick_f rfl rfl rfl) ?_
              refine LtK.put rfl rfl rfl (yv_assign rfl) ?_
              refine LtK.nil ?_
              refine wpR_end (by kernel_rfl) ?_
              refine QH_seq_k hK59 ?_
              refine wpC_ret ?_
              refine QH_ret rfl (RV.tmp rfl RV.nil) rfl ?_
              obtain rfl := Option.some.inj H
              replace hS := hS.cut 0
              exact ⟨rfl, hS⟩
          · replace H := cond_f H hb
            refine wpR_batch [false, false, false, false, false, false, false, false, false, false, false, false, false, false, false, true, true] (by decide +kernel) (by repeat (first | exact PF.body | exact PF.round | apply PF.then | apply PF.inBlock | apply PF.jump)) ?_
            refine LtK.skip rfl rfl rfl ?_
            refine LtK.skip rfl rfl rfl ?_
            refine LtK.nil ?_
            refine wpR_call [false, false, false, false, false, false, false, false, false, false, false, false, false, false, false, false, false, true] 17 ⟨by decide, by kernel_rfl, by kernel_rfl⟩ rfl rfl ?_
            dsimp only [pickL]
            refine wpS_skip rfl rfl rfl ?_
            refine wpS_nil ?_
            refine QH_step (Below.refl _ _) ?_
            refine wpR_batch [false, false, false, false, false, false, false, false, false, false, false, false, false, false, false, false, false, false, true, true, true, false, true, true, true, true, true] (by decide +kernel) (by repeat (first | exact PF.body | exact PF.round | apply PF.then | apply PF.inBlock | apply PF.jump)) ?_
            refine LtK.put rfl rfl rfl (yv_pick_f rfl rfl rfl) ?_
            refine LtK.put rfl rfl rfl (yv_move rfl) ?_
            refine LtK.skip rfl rfl rfl ?_
            refine LtK.skip rfl rfl rfl ?_
            refine LtK.skip rfl rfl rfl ?_
            refine LtK.skip rfl rfl rfl ?_
            refine LtK.skip rfl rfl rfl ?_
            refine LtK.skip rfl rfl rfl ?_
            refine LtK.nil ?_
            refine wpR_call [false, false, false, false, false, false, false, false, false, false, false, false, false, false, false, false, false, false, false, false, false, true] 21 ⟨by decide, by kernel_rfl, by kernel_rfl⟩ rfl rfl ?_
            dsimp only [pickL]
            refine wpS_skip rfl rfl rfl ?_
            refine wpS_nil ?_
            refine QH_step (Below.refl _ _) ?_
            refine wpR_batch [false, false, false, false, false, false, false, false, false, false, false, false, false, false, false, false, false, false, false, false, false, false, false, false, false, false, false, true, true, true, true, true, true, true, true, true] (by decide +kernel) (by repeat (first | exact PF.body | exact PF.round | apply PF.then | apply PF.inBlock | apply PF.jump)) ?_
            refine LtK.skip rfl rfl rfl ?_
            refine LtK.put rfl rfl rfl (yv_pick_f rfl rfl rfl) ?_
            refine LtK.put rfl rfl rfl (yv_move rfl) ?_
            refine LtK.skip rfl rfl rfl ?_
            refine LtK.skip rfl rfl rfl ?_
            refine LtK.skip rfl rfl rfl ?_
            refine LtK.skip rfl rfl rfl ?_
            refine LtK.skip rfl rfl rfl ?_
            refine LtK.skip rfl rfl rfl ?_
            refine LtK.nil ?_
            refine wpR_call [false, false, false, false, false, false, false, false, false, false, false, false, false, false, false, false, false, false, false, false, false, false, false, false, false, false, false, false, false, false, false, false, false, false, false, false, true] 36 ⟨by decide, by kernel_rfl, by kernel_rfl⟩ rfl rfl ?_
            dsimp only [pickL]
            refine wpS_skip rfl rfl rfl ?_
            refine wpS_nil ?_
            refine QH_step (Below.refl _ _) ?_
            refine wpR_batch [false, false, false, false, false, false, false, false, false, false, false, false, false, false, false, false, false, false, false, false, false, false, false, false, false, false, false, false, false, false, false, false, false, false, false, false, false, true, true, true, true, true, true, true, true, true] (by decide +kernel) (by repeat (first | exact PF.body | exact PF.round | apply PF.then | apply PF.inBlock | apply PF.jump)) ?_
            refine LtK.put rfl rfl rfl (yv_pick_f rfl rfl rfl) ?_
            refine LtK.put rfl rfl rfl (yv_move rfl) ?_
            refine LtK.skip rfl rfl rfl ?_
            refine LtK.skip rfl rfl rfl ?_
            refine LtK.skip rfl rfl rfl ?_
            refine LtK.skip rfl rfl rfl ?_
            refine LtK.skip rfl rfl rfl ?_
            refine LtK.put rfl rfl rfl (yv_pick_f rfl rfl rfl) ?_
            refine LtK.put rfl rfl rfl (yv_move rfl) ?_
            refine LtK.nil ?_
            refine wpR_call [false, false, false, false, false, false, false, false, false, false, false, false, false, false, false, false, false, false, false, false, false, false, false, false, false, false, false, false, false, false, false, false, false, false, false, false, false, false, false, false, false, false, false, false, false, false, true] 46 ⟨by decide, by kernel_rfl, by kernel_rfl⟩ rfl rfl ?_
            dsimp only [pickL]
            refine wpS_skip rfl rfl rfl ?_
            refine wpS_nil ?_
            refine QH_step (Below.refl _ _) ?_
            refine wpR_batch [false, false, false, false, false, false, false, false, false, false, false, false, false, false, false, false, false, false, false, false, false, false, false, false, false, false, false, false, false, false, false, false, false, false, false, false, false, false, false, false, false, false, false, false, false, false, false, true, true] (by decide +kernel) (by repeat (first | exact PF.body | exact PF.round | apply PF.then | apply PF.inBlock | apply PF.jump)) ?_
            refine LtK.put rfl rfl rfl (yv_pick_f rfl rfl rfl) ?_
            refine LtK.put rfl rfl rfl (yv_assign rfl) ?_
            refine LtK.nil ?_
            refine wpR_end (by kernel_rfl) ?_
            refine QH_seq_k hK59 ?_
            refine wpC_ret ?_
            refine QH_ret rfl (RV.tmp rfl RV.nil) rfl ?_
            obtain rfl := Option.some.inj H
            replace hS := hS.cut 0
            exact ⟨rfl, hS⟩
        · replace H := cond_f H hb
          refine wpR_batch [false, false, false, false, false, false, false, false, false, false, false, true, true, true, true, true, true] (by decide +kernel) (by repeat (first | exact PF.body | exact PF.round | apply PF.then | apply PF.inBlock | apply PF.jump)) ?_
          refine LtK.skip rfl rfl rfl ?_
          refine LtK.skip rfl rfl rfl ?_
          refine LtK.put rfl rfl rfl (yv_pick_f rfl rfl rfl) ?_
          refine LtK.put rfl rfl rfl (yv_move rfl) ?_
          refine LtK.skip rfl rfl rfl ?_
          refine LtK.skip rfl rfl rfl ?_
          refine LtK.nil ?_
          refine wpR_call [false, false, false, false, false, false, false, false, false, false, false, false, false, false, false, false, false, true] 17 ⟨by decide, by kernel_rfl, by kernel_rfl⟩ rfl rfl ?_
          dsimp only [pickL]
          refine wpS_skip rfl rfl rfl ?_
          refine wpS_nil ?_
          refine QH_step (Below.refl _ _) ?_
          refine wpR_batch [false, false, false, false, false, false, false, false, false, false, false, false, false, false, false, false, false, false, true, true, true, false, true, true, true, true, true] (by decide +kernel) (by repeat (first | exact PF.body | exact PF.round | apply PF.then | apply PF.inBlock | apply PF.jump)) ?_
          refine LtK.put rfl rfl rfl (yv_pick_f rfl rfl rfl) ?_
          refine LtK.put rfl rfl rfl (yv_move rfl) ?_
          refine LtK.skip rfl rfl rfl ?_
          refine LtK.skip rfl rfl rfl ?_
          refine LtK.skip rfl rfl rfl ?_
          refine LtK.skip rfl rfl rfl ?_
          refine LtK.skip rfl rfl rfl ?_
          refine LtK.skip rfl rfl rfl ?_
          refine LtK.nil ?_
          refine wpR_call [false, false, false, false, false, false, false, false, false, false, false, false, false, false, false, false, false, false, false, false, false, true] 21 ⟨by decide, by kernel_rfl, by kernel_rfl⟩ rfl rfl ?_
          dsimp only [pickL]
          refine wpS_skip rfl rfl rfl ?_
          refine wpS_nil ?_
          refine QH_step (Below.refl _ _) ?_
          refine wpR_batch [false, false, false, false, false, false, false, false, false, false, false, false, false, false, false, false, false, false, false, false, false, false, false, false, false, false, false, true, true, true, true, true, true, true, true, true] (by decide +kernel) (by repeat (first | exact PF.body | exact PF.round | apply PF.then | apply PF.inBlock | apply PF.jump)) ?_
          refine LtK.skip rfl rfl rfl ?_
          refine LtK.put rfl rfl rfl (yv_pick_f rfl rfl rfl) ?_
          refine LtK.put rfl rfl rfl (yv_move rfl) ?_
          refine LtK.skip rfl rfl rfl ?_
          refine LtK.skip rfl rfl rfl ?_
          refine LtK.skip rfl rfl rfl ?_
          refine LtK.skip rfl rfl rfl ?_
          refine LtK.skip rfl rfl rfl ?_
          refine LtK.skip rfl rfl rfl ?_
          refine LtK.nil ?_
          refine wpR_call [false, false, false, false, false, false, false, false, false, false, false, false, false, false, false, false, false, false, false, false, false, false, false, false, false, false, false, false, false, false, false, false, false, false, false, false, true] 36 ⟨by decide, by kernel_rfl, by kernel_rfl⟩ rfl rfl ?_
          dsimp only [pickL]
          refine wpS_skip rfl rfl rfl ?_
          refine wpS_nil ?_
          refine QH_step (Below.refl _ _) ?_
          refine wpR_batch [false, false, false, false, false, false, false, false, false, false, false, false, false, false, false, false, false, false, false, false, false, false, false, false, false, false, false, false, false, false, false, false, false, false, false, false, false, true, true, true, true, true, true, true, true, true] (by decide +kernel) (by repeat (first | exact PF.body | exact PF.round | apply PF.then | apply PF.inBlock | apply PF.jump)) ?_
          refine LtK.put rfl rfl rfl (yv_pick_f rfl rfl rfl) ?_
          refine LtK.put rfl rfl rfl (yv_move rfl) ?_
          refine LtK.skip rfl rfl rfl ?_
          refine LtK.skip rfl rfl rfl ?_
          refine LtK.skip rfl rfl rfl ?_
          refine LtK.skip rfl rfl rfl ?_
          refine LtK.skip rfl rfl rfl ?_
          refine LtK.put rfl rfl rfl (yv_pick_f rfl rfl rfl) ?_
          refine LtK.put rfl rfl rfl (yv_move rfl) ?_
          refine LtK.nil ?_
          refine wpR_call [false, false, false, false, false, false, false, false, false, false, false, false, false, false, false, false, false, false, false, false, false, false, false, false, false, false, false, false, false, false, false, false, false, false, false, false, false, false, false, false, false, false, false, false, false, false, true] 46 ⟨by decide, by kernel_rfl, by kernel_rfl⟩ rfl rfl ?_
          dsimp only [pickL]
          refine wpS_skip rfl rfl rfl ?_
          refine wpS_nil ?_
          refine QH_step (Below.refl _ _) ?_
          refine wpR_batch [false, false, false, false, false, false, false, false, false, false, false, false, false, false, false, false, false, false, false, false, false, false, false, false, false, false, false, false, false, false, false, false, false, false, false, false, false, false, false, false, false, false, false, false, false, false, false, true, true] (by decide +kernel) (by repeat (first | exact PF.body | exact PF.round | apply PF.then | apply PF.inBlock | apply PF.jump)) ?_
          refine LtK.put rfl rfl rfl (yv_pick_f rfl rfl rfl) ?_
          refine LtK.put rfl rfl rfl (yv_assign rfl) ?_
          refine LtK.nil ?_
          refine wpR_end (by kernel_rfl) ?_
          refine QH_seq_k hK59 ?_
          refine wpC_ret ?_
          refine QH_ret rfl (RV.tmp rfl RV.nil) rfl ?_
          obtain rfl := Option.some.inj H
          replace hS := hS.cut 0
          exact ⟨rfl, hS⟩
      · replace H := cond_f H hb
        refine wpR_batch [false, false, false, false, false, false, false, true, true, true, true, true, true, true, true, true, true] (by decide +kernel) (by repeat (first | exact PF.body | exact PF.round | apply PF.then | apply PF.inBlock | apply PF.jump)) ?_
        refine LtK.skip rfl rfl rfl ?_
        refine LtK.skip rfl rfl rfl ?_
        refine LtK.put rfl rfl rfl (yv_pick_f rfl rfl rfl) ?_
        refine LtK.put rfl rfl rfl (yv_move rfl) ?_
        refine LtK.skip rfl rfl rfl ?_
        refine LtK.skip rfl rfl rfl ?_
        refine LtK.put rfl rfl rfl (yv_pick_f rfl rfl rfl) ?_
        refine LtK.put rfl rfl rfl (yv_move rfl) ?_
        refine LtK.skip rfl rfl rfl ?_
        refine LtK.skip rfl rfl rfl ?_
        refine LtK.nil ?_
        refine wpR_call [false, false, false, false, false, false, false, false, false, false, false, false, false, false, false, false, false, true] 17 ⟨by decide, by kernel_rfl, by kernel_rfl⟩ rfl rfl ?_
        dsimp only [pickL]
        refine wpS_skip rfl rfl rfl ?_
        refine wpS_nil ?_
        refine QH_step (Below.refl _ _) ?_
        refine wpR_batch [false, false, false, false, false, false, false, false, false, false, false, false, false, false, false, false, false, false, true, true, true, false, true, true, true, true, true] (by decide +kernel) (by repeat (first | exact PF.body | exact PF.round | apply PF.then | apply PF.inBlock | apply PF.jump)) ?_
        refine LtK.put rfl rfl rfl (yv_pick_f rfl rfl rfl) ?_
        refine LtK.put rfl rfl rfl (yv_move rfl) ?_
        refine LtK.skip rfl rfl rfl ?_
        refine LtK.skip rfl rfl rfl ?_
        refine LtK.skip rfl rfl rfl ?_
        refine LtK.skip rfl rfl rfl ?_
        refine LtK.skip rfl rfl rfl ?_
        refine LtK.skip rfl rfl rfl ?_
        refine LtK.nil ?_
        refine wpR_call [false, false, false, false, false, false, false, false, false, false, false, false, false, false, false, false, false, false, false, false, false, true] 21 ⟨by decide, by kernel_rfl, by kernel_rfl⟩ rfl rfl ?_
        dsimp only [pickL]
        refine wpS_skip rfl rfl rfl ?_
        refine wpS_nil ?_
        refine QH_step (Below.refl _ _) ?_
        refine wpR_batch [false, false, false, false, false, false, false, false, false, false, false, false, false, false, false, false, false, false, false, false, false, false, false, false, false, false, false, true, true, true, true, true, true, true, true, true] (by decide +kernel) (by repeat (first | exact PF.body | exact PF.round | apply PF.then | apply PF.inBlock | apply PF.jump)) ?_
        refine LtK.skip rfl rfl rfl ?_
        refine LtK.put rfl rfl rfl (yv_pick_f rfl rfl rfl) ?_
        refine LtK.put rfl rfl rfl (yv_move rfl) ?_
        refine LtK.skip rfl rfl rfl ?_
        refine LtK.skip rfl rfl rfl ?_
        refine LtK.skip rfl rfl rfl ?_
        refine LtK.skip rfl rfl rfl ?_
        refine LtK.skip rfl rfl rfl ?_
        refine LtK.skip rfl rfl rfl ?_
        refine LtK.nil ?_
        refine wpR_call [false, false, false, false, false, false, false, false, false, false, false, false, false, false, false, false, false, false, false, false, false, false, false, false, false, false, false, false, false, false, false, false, false, false, false, false, true] 36 ⟨by decide, by kernel_rfl, by kernel_rfl⟩ rfl rfl ?_
        dsimp only [pickL]
        refine wpS_skip rfl rfl rfl ?_
        refine wpS_nil ?_
        refine QH_step (Below.refl _ _) ?_
        refine wpR_batch [false, false, false, false, false, false, false, false, false, false, false, false, false, false, false, false, false, false, false, false, false, false, false, false, false, false, false, false, false, false, false, false, false, false, false, false, false, true, true, true, true, true, true, true, true, true] (by decide +kernel) (by repeat (first | exact PF.body | exact PF.round | apply PF.then | apply PF.inBlock | apply PF.jump)) ?_
        refine LtK.put rfl rfl rfl (yv_pick_f rfl rfl rfl) ?_
        refine LtK.put rfl rfl rfl (yv_move rfl) ?_
        refine LtK.skip rfl rfl rfl ?_
        refine LtK.skip rfl rfl rfl ?_
        refine LtK.skip rfl rfl rfl ?_
        refine LtK.skip rfl rfl rfl ?_
        refine LtK.skip rfl rfl rfl ?_
        refine LtK.put rfl rfl rfl (yv_pick_f rfl rfl rfl) ?_
        refine LtK.put rfl rfl rfl (yv_move rfl) ?_
        refine LtK.nil ?_
        refine wpR_call [false, false, false, false, false, false, false, false, false, false, false, false, false, false, false, false, false, false, false, false, false, false, false, false, false, false, false, false, false, false, false, false, false, false, false, false, false, false, false, false, false, false, false, false, false, false, true] 46 ⟨by decide, by kernel_rfl, by kernel_rfl⟩ rfl rfl ?_
        dsimp only [pickL]
        refine wpS_skip rfl rfl rfl ?_
        refine wpS_nil ?_
        refine QH_step (Below.refl _ _) ?_
        refine wpR_batch [false, false, false, false, false, false, false, false, false, false, false, false, false, false, false, false, false, false, false, false, false, false, false, false, false, false, false, false, false, false, false, false, false, false, false, false, false, false, false, false, false, false, false, false, false, false, false, true, true] (by decide +kernel) (by repeat (first | exact PF.body | exact PF.round | apply PF.then | apply PF.inBlock | apply PF.jump)) ?_
        refine LtK.put rfl rfl rfl (yv_pick_f rfl rfl rfl) ?_
        refine LtK.put rfl rfl rfl (yv_assign rfl) ?_
        refine LtK.nil ?_
        refine wpR_end (by kernel_rfl) ?_
        refine QH_seq_k hK59 ?_
        refine wpC_ret ?_
        refine QH_ret rfl (RV.tmp rfl RV.nil) rfl ?_
        obtain rfl := Option.some.inj H
        replace hS := hS.cut 0
        exact ⟨rfl, hS⟩
    · replace H := cond_f H hb
      refine wpR_batch [false, false, false, true, true, true, true, true, true, true, true, true, true, true, true, true, true] (by decide +kernel) (by repeat (first | exact PF.body | exact PF.round | apply PF.then | apply PF.inBlock | apply PF.jump)) ?_
      refine LtK.skip rfl rfl rfl ?_
      refine LtK.skip rfl rfl rfl ?_
      refine LtK.put rfl rfl rfl (yv_pick_f rfl rfl rfl) ?_
      refine LtK.put rfl rfl rfl (yv_move rfl) ?_
      refine LtK.skip rfl rfl rfl ?_
      refine LtK.skip rfl rfl rfl ?_
      refine LtK.put rfl rfl rfl (yv_pick_f rfl rfl rfl) ?_
      refine LtK.put rfl rfl rfl (yv_move rfl) ?_
      refine LtK.skip rfl rfl rfl ?_
      refine LtK.skip rfl rfl rfl ?_
      refine LtK.put rfl rfl rfl (yv_pick_f rfl rfl rfl) ?_
      refine LtK.put rfl rfl rfl (yv_move rfl) ?_
      refine LtK.skip rfl rfl rfl ?_
      refine LtK.skip rfl rfl rfl ?_
      refine LtK.nil ?_
      refine wpR_call [false, false, false, false, false, false, false, false, false, false, false, false, false, false, false, false, false, true] 17 ⟨by decide, by kernel_rfl, by kernel_rfl⟩ rfl rfl ?_
      dsimp only [pickL]
      refine wpS_skip rfl rfl rfl ?_
      refine wpS_nil ?_
      refine QH_step (Below.refl _ _) ?_
      refine wpR_batch [false, false, false, false, false, false, false, false, false, false, false, false, false, false, false, false, false, false, true, true, true, false, true, true, true, true, true] (by decide +kernel) (by repeat (first | exact PF.body | exact PF.round | apply PF.then | apply PF.inBlock | apply PF.jump)) ?_
      refine LtK.put rfl rfl rfl (yv_pick_f rfl rfl rfl) ?_
      refine LtK.put rfl rfl rfl (yv_move rfl) ?_
      refine LtK.skip rfl rfl rfl ?_
      refine LtK.skip rfl rfl rfl ?_
      refine LtK.skip rfl rfl rfl ?_
      refine LtK.skip rfl rfl rfl ?_
      refine LtK.skip rfl rfl rfl ?_
      refine LtK.skip rfl rfl rfl ?_
      refine LtK.nil ?_
      refine wpR_call [false, false, false, false, false, false, false, false, false, false, false, false, false, false, false, false, false, false, false, false, false, true] 21 ⟨by decide, by kernel_rfl, by kernel_rfl⟩ rfl rfl ?_
      dsimp only [pickL]
      refine wpS_skip rfl rfl rfl ?_
      refine wpS_nil ?_
      refine QH_step (Below.refl _ _) ?_
      refine wpR_batch [false, false, false, false, false, false, false, false, false, false, false, false, false, false, false, false, false, false, false, false, false, false, false, false, false, false, false, true, true, true, true, true, true, true, true, true] (by decide +kernel) (by repeat (first | exact PF.body | exact PF.round | apply PF.then | apply PF.inBlock | apply PF.jump)) ?_
      refine LtK.skip rfl rfl rfl ?_
      refine LtK.put rfl rfl rfl (yv_pick_f rfl rfl rfl) ?_
      refine LtK.put rfl rfl rfl (yv_move rfl) ?_
      refine LtK.skip rfl rfl rfl ?_
      refine LtK.skip rfl rfl rfl ?_
      refine LtK.skip rfl rfl rfl ?_
      refine LtK.skip rfl rfl rfl ?_
      refine LtK.skip rfl rfl rfl ?_
      refine LtK.skip rfl rfl rfl ?_
      refine LtK.nil ?_
      refine wpR_call [false, false, false, false, false, false, false, false, false, false, false, false, false, false, false, false, false, false, false, false, false, false, false, false, false, false, false, false, false, false, false, false, false, false, false, false, true] 36 ⟨by decide, by kernel_rfl, by kernel_rfl⟩ rfl rfl ?_
      dsimp only [pickL]
      refine wpS_skip rfl rfl rfl ?_
      refine wpS_nil ?_
      refine QH_step (Below.refl _ _) ?_
      refine wpR_batch [false, false, false, false, false, false, false, false, false, false, false, false, false, false, false, false, false, false, false, false, false, false, false, false, false, false, false, false, false, false, false, false, false, false, false, false, false, true, true, true, true, true, true, true, true, true] (by decide +kernel) (by repeat (first | exact PF.body | exact PF.round | apply PF.then | apply PF.inBlock | apply PF.jump)) ?_
      refine LtK.put rfl rfl rfl (yv_pick_f rfl rfl rfl) ?_
      refine LtK.put rfl rfl rfl (yv_move rfl) ?_
      refine LtK.skip rfl rfl rfl ?_
      refine LtK.skip rfl rfl rfl ?_
      refine LtK.skip rfl rfl rfl ?_
      refine LtK.skip rfl rfl rfl ?_
      refine LtK.skip rfl rfl rfl ?_
      refine LtK.put rfl rfl rfl (yv_pick_f rfl rfl rfl) ?_
      refine LtK.put rfl rfl rfl (yv_move rfl) ?_
      refine LtK.nil ?_
      refine wpR_call [false, false, false, false, false, false, false, false, false, false, false, false, false, false, false, false, false, false, false, false, false, false, false, false, false, false, false, false, false, false, false, false, false, false, false, false, false, false, false, false, false, false, false, false, false, false, true] 46 ⟨by decide, by kernel_rfl, by kernel_rfl⟩ rfl rfl ?_
      dsimp only [pickL]
      refine wpS_skip rfl rfl rfl ?_
      refine wpS_nil ?_
      refine QH_step (Below.refl _ _) ?_
      refine wpR_batch [false, false, false, false, false, false, false, false, false, false, false, false, false, false, false, false, false, false, false, false, false, false, false, false, false, false, false, false, false, false, false, false, false, false, false, false, false, false, false, false, false, false, false, false, false, false, false, true, true] (by decide +kernel) (by repeat (first | exact PF.body | exact PF.round | apply PF.then | apply PF.inBlock | apply PF.jump)) ?_
      refine LtK.put rfl rfl rfl (yv_pick_f rfl rfl rfl) ?_
      refine LtK.put rfl rfl rfl (yv_assign rfl) ?_
      refine LtK.nil ?_
      refine wpR_end (by kernel_rfl) ?_
      refine QH_seq_k hK59 ?_
      refine wpC_ret ?_
      refine QH_ret rfl (RV.tmp rfl RV.nil) rfl ?_
      obtain rfl := Option.some.inj H
      replace hS := hS.cut 0
      exact ⟨rfl, hS⟩
end Go.Proofs.Ythngkojbokknfaa
