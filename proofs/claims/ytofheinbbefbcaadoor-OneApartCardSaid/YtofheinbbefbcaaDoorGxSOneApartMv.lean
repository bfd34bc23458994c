/- What functions compute, in plain terms, and that they do; printed. -/
import Derived.Test.YtofheinbbefbcaaDoorMv1
import Derived.Test.YtofheinbbefbcaaDoorMv2
namespace Go.Proofs.YtofheinbbefbcaaDoor
open Go Go.RowKit
set_option maxRecDepth 100000
set_option maxHeartbeats 4000000
theorem c_law07_OneApart (x0 : En) (x1 : En) (x2 : Int) (x3 : Int) (w0 : World) (hT_ : SlI w0 enU (some ⟨0, 0, none⟩) 16 tabU) {r : Bool} (H : m_law07_OneApart x0 x1 x2 x3 = some r) : Calls Tryd.prog 7 #[.agg #[.int .i64 x0.term, .int .i64 x0.kind, .int .i64 x0.value], .agg #[.int .i64 x1.term, .int .i64 x1.kind, .int .i64 x1.value], .int .i64 x2, .int .i64 x3] w0 fun e w' => e = .returned (.bool r) ∧ St0 All w0 w' [] := by
  unfold m_law07_OneApart at H
  refine gw_enter4 Tryd.func7 rfl Tryd.ntmps7 rfl ?_
  have hS := St0.start All w0
  refine wpC_seq_k (fun K hK1 => ?_)
  refine wpC_region ?_
  refine wpS_box rfl rfl rfl CellsOf.agg hS (fun b2 w hS hB => ?_)
  refine wpS_box rfl rfl rfl CellsOf.agg hS (fun b4 w hS hB => ?_)
  refine wpS_quick 1 rfl ?_
  refine wpS_nil ?_
  refine QH_seq_k hK1 ?_
  refine wpC_seq_k (fun K hK6 => ?_)
  refine wpC_region ?_
  refine wpS_put rfl rfl rfl (yv_load_boxA ag_40 rfl (RW.here _) hS hs1 trivial sg0_3) ?_
  refine wpS_sliceM (ps := [(0, .tmp 18)]) [.int .i64 x0.term, .int .i64 x0.kind, .int .i64 x0.value] el_22 zc_40 rfl rfl rfl rfl rfl (by kernel_rfl) hS (fun b7 w hS hB => ?_)
  obtain ⟨r9, hm10, H⟩ := bind_some H
  refine wpS_call rfl rfl rfl rfl (by kernel_rfl) rfl (c_one_Put ([x0] : List En) (some ⟨b7, 0, none⟩) 1 _ (SlI.of_rd ⟨Nat.le_refl 1, by decide⟩ (hS.box_rd hs0) (hS.box_blk hs0)) (SlI.of_rd hT_.k (hS.rd0 hT_.rd) (hS.blk0 hT_.blk)) hm10) ?_
  rintro e w ⟨A11, c12, rfl, k13, hN⟩; refine ⟨_, rfl, ?_⟩; have hB := hN.pure; have hS := hS.join hN; clear hN
  refine wpS_quick 1 rfl ?_
  refine wpS_put rfl rfl rfl (yv_extract rfl rfl) ?_
  refine wpS_put rfl rfl rfl (yv_extract rfl rfl) ?_
  refine wpS_quick 2 rfl ?_
  refine wpS_nil ?_
  refine QH_seq_k hK6 ?_
  refine wpC_seq_k (fun K hK15 => ?_)
  refine wpC_region ?_
  refine wpS_put rfl rfl rfl (yv_load_boxA ag_40 rfl (RW.here _) hS hs2 trivial sg0_3) ?_
  refine wpS_sliceM (ps := [(0, .tmp 24)]) [.int .i64 x1.term, .int .i64 x1.kind, .int .i64 x1.value] el_22 zc_40 rfl rfl rfl rfl rfl (by kernel_rfl) hS (fun b16 w hS hB => ?_)
  obtain ⟨r18, hm19, H⟩ := bind_some H
  refine wpS_call rfl rfl rfl rfl (by kernel_rfl) rfl (c_one_Put ([x1] : List En) (some ⟨b16, 0, none⟩) 1 _ (SlI.of_rd ⟨Nat.le_refl 1, by decide⟩ (hS.box_rd hs0) (hS.box_blk hs0)) (SlI.of_rd hT_.k (hS.rd0 hT_.rd) (hS.blk0 hT_.blk)) hm19) ?_
  rintro e w ⟨A20, c21, rfl, k22, hN⟩; refine ⟨_, rfl, ?_⟩; have hB := hN.pure; have hS := hS.join hN; clear hN
  refine wpS_quick 1 rfl ?_
  refine wpS_put rfl rfl rfl (yv_extract rfl rfl) ?_
  refine wpS_put rfl rfl rfl (yv_extract rfl rfl) ?_
  refine wpS_quick 2 rfl ?_
  refine wpS_nil ?_
  refine QH_seq_k hK15 ?_
  refine wpC_seq_k (fun K hK24 => ?_)
  refine wpC_region ?_
  refine wpS_quick 1 rfl ?_
  obtain ⟨r25, hm26, H⟩ := bind_some H
  refine wpS_call rfl rfl rfl rfl (by kernel_rfl) rfl (c_one_Head x2 _ hm26) ?_
  rintro e w ⟨A27, c28, rfl, k29, hN⟩; refine ⟨_, rfl, ?_⟩; have hB := hN.pure; have hS := hS.join hN; clear hN
  refine wpS_quick 1 rfl ?_
  refine wpS_put rfl rfl rfl (yv_extract rfl rfl) ?_
  refine wpS_put rfl rfl rfl (yv_extract rfl rfl) ?_
  refine wpS_quick 2 rfl ?_
  refine wpS_nil ?_
  refine QH_seq_k hK24 ?_
  refine wpC_seq_k (fun K hK31 => ?_)
  refine wpC_region ?_
  refine wpS_quick 1 rfl ?_
  obtain ⟨r32, hm33, H⟩ := bind_some H
  refine wpS_call rfl rfl rfl rfl (by kernel_rfl) rfl (c_one_Head x3 _ hm33) ?_
  rintro e w ⟨A34, c35, rfl, k36, hN⟩; refine ⟨_, rfl, ?_⟩; have hB := hN.pure; have hS := hS.join hN; clear hN
  refine wpS_quick 1 rfl ?_
  refine wpS_put rfl rfl rfl (yv_extract rfl rfl) ?_
  refine wpS_put rfl rfl rfl (yv_extract rfl rfl) ?_
  refine wpS_quick 2 rfl ?_
  refine wpS_nil ?_
  refine QH_seq_k hK31 ?_
  refine wpC_seq_k (fun K hK38 => ?_)
  refine wpC_seq_k (fun K hK39 => ?_)
  refine wpC_draw 29 [] (fun _ _ => True) ⟨by kernel_rfl, by kernel_rfl⟩ hS (fun w hS hB => ?_)
  refine wpR_batch [true, true, true] (by decide +kernel) (by repeat (first | exact PF.body | exact PF.round | apply PF.then | apply PF.inBlock | apply PF.jump)) ?_
  refine LtK.put rfl rfl rfl (yv_move rfl) ?_
  refine LtK.put rfl rfl rfl (yv_eql rfl rfl) ?_
  refine LtK.put rfl rfl rfl (yv_move rfl) ?_
  refine LtK.nil ?_
  refine wpR_case 41 rfl (fun hb => ?_) (fun hb => ?_)
  rotate_left
  · replace H := cond_f H hb
    refine wpR_batch [false, false, false, true, true, true, true, true, true, false, true, true, true] (by decide +kernel) (by repeat (first | exact PF.body | exact PF.round | apply PF.then | apply PF.inBlock | apply PF.jump)) ?_
    refine LtK.skip rfl rfl rfl ?_
    refine LtK.skip rfl rfl rfl ?_
    refine LtK.put rfl rfl rfl (yv_pick_f rfl rfl rfl) ?_
    refine LtK.put rfl rfl rfl (yv_move rfl) ?_
    refine LtK.skip rfl rfl rfl ?_
    refine LtK.skip rfl rfl rfl ?_
    refine LtK.skip rfl rfl rfl ?_
    refine LtK.skip rfl rfl rfl ?_
    refine LtK.skip rfl rfl rfl ?_
    refine LtK.nil ?_
    refine wpR_call [false, false, false, false, false, false, false, false, false, true] 9 ⟨by decide, by kernel_rfl, by kernel_rfl⟩ rfl rfl ?_
    try dsimp only [pickL]
    refine wpS_skip rfl rfl rfl ?_
    refine wpS_nil ?_
    refine QH_step (Below.refl _ _) ?_
    refine wpR_batch [false, false, false, false, false, false, false, false, false, false, false, false, false, true, true, true, true, true, true] (by decide +kernel) (by repeat (first | exact PF.body | exact PF.round | apply PF.then | apply PF.inBlock | apply PF.jump)) ?_
    refine LtK.skip rfl rfl rfl ?_
    refine LtK.put rfl rfl rfl (yv_pick_f rfl rfl rfl) ?_
    refine LtK.put rfl rfl rfl (yv_move rfl) ?_
    refine LtK.put rfl rfl rfl (yv_move rfl) ?_
    refine LtK.put rfl rfl rfl (yv_eql rfl rfl) ?_
    refine LtK.put rfl rfl rfl (yv_load_boxA ag_40 rfl (RW.below _) hS hs7 trivial sg0_3) ?_
    refine LtK.nil ?_
    refine wpR_call [false, false, false, false, false, false, false, false, false, false, false, false, false, false, false, false, false, false, false, true] 19 ⟨by decide, by kernel_rfl, by kernel_rfl⟩ rfl rfl ?_
    try dsimp only [pickL]
    obtain ⟨r241, hm242, H⟩ := bind_some H
    refine wpS_call rfl rfl rfl rfl (by kernel_rfl) rfl (c_ref06_Right x0 _ hm242) ?_
    rintro e w ⟨rfl, hN⟩; refine ⟨_, rfl, ?_⟩; have hB := hN.pure; have hS := hS.join hN; clear hN
    refine wpS_nil ?_
    refine QH_step hB ?_
    refine wpR_batch [false, false, false, false, false, false, false, false, false, false, false, false, false, false, false, false, false, false, false, false, true, true, true] (by decide +kernel) (by repeat (first | exact PF.body | exact PF.round | apply PF.then | apply PF.inBlock | apply PF.jump)) ?_
    refine LtK.put rfl rfl rfl (yv_neqB (by kernel_rfl) rfl rfl) ?_
    refine LtK.put rfl rfl rfl (yv_pick_f rfl rfl rfl) ?_
    refine LtK.put rfl rfl rfl (yv_move rfl) ?_
    refine LtK.nil ?_
    refine wpR_case 61 rfl (fun hb => ?_) (fun hb => ?_)
    · replace H := cond_t H hb
      refine wpR_batch [false, false, false, false, false, false, false, false, false, false, false, false, false, false, false, false, false, false, false, false, false, false, false, true, true, true] (by decide +kernel) (by repeat (first | exact PF.body | exact PF.round | apply PF.then | apply PF.inBlock | apply PF.jump)) ?_
      refine LtK.skip rfl rfl rfl ?_
      refine LtK.skip rfl rfl rfl ?_
      refine LtK.skip rfl rfl rfl ?_
      refine LtK.nil ?_
      refine wpR_call [false, false, false, false, false, false, false, false, false, false, false, false, false, false, false, false, false, false, false, false, false, false, false, false, false, false, true] 26 ⟨by decide, by kernel_rfl, by kernel_rfl⟩ rfl rfl ?_
      try dsimp only [pickL]
      refine wpS_skip rfl rfl rfl ?_
      refine wpS_nil ?_
      refine QH_step (Below.refl _ _) ?_
      refine wpR_batch [false, false, false, false, false, false, false, false, false, false, false, false, false, false, false, false, false, false, false, false, false, false, false, false, false, false, false, true, true] (by decide +kernel) (by repeat (first | exact PF.body | exact PF.round | apply PF.then | apply PF.inBlock | apply PF.jump)) ?_
      refine LtK.skip rfl rfl rfl ?_
      refine LtK.put rfl rfl rfl (yv_pick_t rfl rfl rfl) ?_
      refine LtK.nil ?_
      refine wpR_end (by kernel_rfl) ?_
      refine QH_seq_k hK39 ?_
      refine wpC_cond_t rfl rfl ?_
      refine wpC_seq_k (fun K hK244 => ?_)
      refine wpC_region ?_
      refine wpS_quick 1 rfl ?_
      refine wpS_nil ?_
      refine QH_seq_k hK244 ?_
      refine wpC_ret ?_
      refine QH_then_ret ?_
      refine QH_ret rfl (RV.tmp rfl RV.nil) rfl ?_
      obtain rfl := Option.some.inj H
      replace hS := hS.cut 0
      exact ⟨rfl, hS⟩
    replace H := cond_f H hb
    refine wpR_batch [false, false, false, false, false, false, false, false, false, false, false, false, false, false, false, false, false, false, false, false, false, false, false, true, true, true] (by decide +kernel) (by repeat (first | exact PF.body | exact PF.round | apply PF.then | apply PF.inBlock | apply PF.jump)) ?_
    refine LtK.put rfl rfl rfl (yv_move rfl) ?_
    refine LtK.put rfl rfl rfl (yv_eql rfl rfl) ?_
    refine LtK.put rfl rfl rfl (yv_load_boxA ag_40 rfl (RW.below _) hS hs6 trivial sg0_3) ?_
    refine LtK.nil ?_
    refine wpR_call [false, false, false, false, false, false, false, false, false, false, false, false, false, false, false, false, false, false, false, false, false, false, false, false, false, false, true] 26 ⟨by decide, by kernel_rfl, by kernel_rfl⟩ rfl rfl ?_
    try dsimp only [pickL]
    obtain ⟨r246, hm247, H⟩ := bind_some H
    refine wpS_call rfl rfl rfl rfl (by kernel_rfl) rfl (c_ref06_Right x1 _ hm247) ?_
    rintro e w ⟨rfl, hN⟩; refine ⟨_, rfl, ?_⟩; have hB := hN.pure; have hS := hS.join hN; clear hN
    refine wpS_nil ?_
    refine QH_step hB ?_
    refine wpR_batch [false, false, false, false, false, false, false, false, false, false, false, false, false, false, false, false, false, false, false, false, false, false, false, false, false, false, false, true, true] (by decide +kernel) (by repeat (first | exact PF.body | exact PF.round | apply PF.then | apply PF.inBlock | apply PF.jump)) ?_
    refine LtK.put rfl rfl rfl (yv_neqB (by kernel_rfl) rfl rfl) ?_
    refine LtK.put rfl rfl rfl (yv_pick_f rfl rfl rfl) ?_
    refine LtK.nil ?_
    refine wpR_end (by kernel_rfl) ?_
    refine QH_seq_k hK39 ?_
    refine wpC_cond rfl (fun hb => ?_) (fun hb => ?_)
    · replace H := cond_t H hb
      refine wpC_seq_k (fun K hK249 => ?_)
      refine wpC_region ?_
      refine wpS_quick 1 rfl ?_
      refine wpS_nil ?_
      refine QH_seq_k hK249 ?_
      refine wpC_ret ?_
      refine QH_then_ret ?_
      refine QH_ret rfl (RV.tmp rfl RV.nil) rfl ?_
      obtain rfl := Option.some.inj H
      replace hS := hS.cut 0
      exact ⟨rfl, hS⟩
    replace H := cond_f H hb
    refine wpC_skip ?_
    refine QH_seq_k hK38 ?_
    refine wpC_seq_k (fun K hK251 => ?_)
    refine wpC_seq_k (fun K hK252 => ?_)
    refine wpC_region ?_
    refine wpS_quick 1 rfl ?_
    refine wpS_put rfl rfl rfl (yv_eql rfl rfl) ?_
    refine wpS_quick 1 rfl ?_
    refine wpS_case 70 rfl (fun hb => ?_) (fun hb => ?_)
    rotate_left
    · replace H := cond_f H hb
      refine wpS_quick 12 rfl ?_
      refine wpS_nil ?_
      refine QH_seq_k hK252 ?_
      refine wpC_cond_f rfl rfl ?_
      refine wpC_skip ?_
      refine QH_seq_k hK251 ?_
      refine wpC_seq_k (fun K hK312 => ?_)
      refine wpC_region ?_
      refine wpS_quick 1 rfl ?_
      refine wpS_put rfl rfl rfl (yv_neq rfl rfl) ?_
      refine wpS_quick 1 rfl ?_
      refine wpS_case 85 rfl (fun hb => ?_) (fun hb => ?_)
      · replace H := cond_t H hb
        refine wpS_quick 6 rfl ?_
        refine wpS_put rfl rfl rfl (yv_eql rfl rfl) ?_
        refine wpS_quick 1 rfl ?_
        refine wpS_put rfl rfl rfl (yv_geq rfl rfl) ?_
        refine wpS_quick 1 rfl ?_
        refine wpS_case 95 rfl (fun hb => ?_) (fun hb => ?_)
        rotate_left
        · replace H := cond_f H hb
          refine wpS_quick 3 rfl ?_
          refine wpS_put rfl rfl rfl (yv_eqlB (by kernel_rfl) rfl rfl) ?_
          refine wpS_quick 2 rfl ?_
          refine wpS_case 101 rfl (fun hb => ?_) (fun hb => ?_)
          rotate_left
          · replace H := cond_f H hb
            refine wpS_quick 3 rfl ?_
            refine wpS_nil ?_
            refine QH_seq_k hK312 ?_
            refine wpC_ret ?_
            refine QH_ret rfl (RV.tmp rfl RV.nil) rfl ?_
            obtain rfl := Option.some.inj H
            replace hS := hS.cut 0
            exact ⟨rfl, hS⟩
          replace H := cond_t H hb
          obtain ⟨r321, hm322, H⟩ := bind_some H
          refine wpS_call rfl rfl rfl rfl (by kernel_rfl) rfl (c_law07_wakes _ (SlI.of_rd hT_.k (hS.rd0 hT_.rd) (hS.blk0 hT_.blk)) hm322) ?_
          rintro e w ⟨rfl, hN⟩; refine ⟨_, rfl, ?_⟩; have hB := hN.pure; have hS := hS.join hN; clear hN
          refine wpS_quick 2 rfl ?_
          refine wpS_nil ?_
          refine QH_seq_k hK312 ?_
          refine wpC_ret ?_
          refine QH_ret rfl (RV.tmp rfl RV.nil) rfl ?_
          obtain rfl := Option.some.inj H
          replace hS := hS.cut 0
          exact ⟨rfl, hS⟩
        replace H := cond_t H hb
        refine wpS_quick 1 rfl ?_
        refine wpS_put rfl rfl rfl (yv_leq rfl rfl) ?_
        refine wpS_quick 1 rfl ?_
        refine wpS_put rfl rfl rfl (yv_eqlB (by kernel_rfl) rfl rfl) ?_
        refine wpS_quick 2 rfl ?_
        refine wpS_case 101 rfl (fun hb => ?_) (fun hb => ?_)
        rotate_left
        · replace H := cond_f H hb
          refine wpS_quick 3 rfl ?_
          refine wpS_nil ?_
          refine QH_seq_k hK312 ?_
          refine wpC_ret ?_
          refine QH_ret rfl (RV.tmp rfl RV.nil) rfl ?_
          obtain rfl := Option.some.inj H
          replace hS := hS.cut 0
          exact ⟨rfl, hS⟩
        replace H := cond_t H hb
        obtain ⟨r316, hm317, H⟩ := bind_some H
        refine wpS_call rfl rfl rfl rfl (by kernel_rfl) rfl (c_law07_wakes _ (SlI.of_rd hT_.k (hS.rd0 hT_.rd) (hS.blk0 hT_.blk)) hm317) ?_
        rintro e w ⟨rfl, hN⟩; refine ⟨_, rfl, ?_⟩; have hB := hN.pure; have hS := hS.join hN; clear hN
        refine wpS_quick 2 rfl ?_
        refine wpS_nil ?_
        refine QH_seq_k hK312 ?_
        refine wpC_ret ?_
        refine QH_ret rfl (RV.tmp rfl RV.nil) rfl ?_
        obtain rfl := Option.some.inj H
        replace hS := hS.cut 0
        exact ⟨rfl, hS⟩
      replace H := cond_f H hb
      refine wpS_quick 1 rfl ?_
      refine wpS_put rfl rfl rfl (yv_len el_23 rfl) ?_
      refine wpS_put rfl rfl rfl (yv_eql rfl rfl) ?_
      refine wpS_quick 2 rfl ?_
      refine wpS_case 90 rfl (fun hb => ?_) (fun hb => ?_)
      rotate_left
      · replace H := cond_f H hb
        refine wpS_quick 14 rfl ?_
        refine wpS_nil ?_
        refine QH_seq_k hK312 ?_
        refine wpC_ret ?_
        refine QH_ret rfl (RV.tmp rfl RV.nil) rfl ?_
        obtain rfl := Option.some.inj H
        replace hS := hS.cut 0
        exact ⟨rfl, hS⟩
      replace H := cond_t H hb
      refine wpS_quick 1 rfl ?_
      refine wpS_put rfl rfl rfl (yv_eql rfl rfl) ?_
      refine wpS_quick 1 rfl ?_
      refine wpS_put rfl rfl rfl (yv_geq rfl rfl) ?_
      refine wpS_quick 1 rfl ?_
      refine wpS_case 95 rfl (fun hb => ?_) (fun hb => ?_)
      rotate_left
      · replace H := cond_f H hb
        refine wpS_quick 3 rfl ?_
        refine wpS_put rfl rfl rfl (yv_eqlB (by kernel_rfl) rfl rfl) ?_
        refine wpS_quick 2 rfl ?_
        refine wpS_case 101 rfl (fun hb => ?_) (fun hb => ?_)
        rotate_left
        · replace H := cond_f H hb
          refine wpS_quick 3 rfl ?_
          refine wpS_nil ?_
          refine QH_seq_k hK312 ?_
          refine wpC_ret ?_
          refine QH_ret rfl (RV.tmp rfl RV.nil) rfl ?_
          obtain rfl := Option.some.inj H
          replace hS := hS.cut 0
          exact ⟨rfl, hS⟩
        replace H := cond_t H hb
        obtain ⟨r333, hm334, H⟩ := bind_some H
        refine wpS_call rfl rfl rfl rfl (by kernel_rfl) rfl (c_law07_wakes _ (SlI.of_rd hT_.k (hS.rd0 hT_.rd) (hS.blk0 hT_.blk)) hm334) ?_
        rintro e w ⟨rfl, hN⟩; refine ⟨_, rfl, ?_⟩; have hB := hN.pure; have hS := hS.join hN; clear hN
        refine wpS_quick 2 rfl ?_
        refine wpS_nil ?_
        refine QH_seq_k hK312 ?_
        refine wpC_ret ?_
        refine QH_ret rfl (RV.tmp rfl RV.nil) rfl ?_
        obtain rfl := Option.some.inj H
        replace hS := hS.cut 0
        exact ⟨rfl, hS⟩
      replace H := cond_t H hb
      refine wpS_quick 1 rfl ?_
      refine wpS_put rfl rfl rfl (yv_leq rfl rfl) ?_
      refine wpS_quick 1 rfl ?_
      refine wpS_put rfl rfl rfl (yv_eqlB (by kernel_rfl) rfl rfl) ?_
      refine wpS_quick 2 rfl ?_
      refine wpS_case 101 rfl (fun hb => ?_) (fun hb => ?_)
      rotate_left
      · replace H := cond_f H hb
        refine wpS_quick 3 rfl ?_
        refine wpS_nil ?_
        refine QH_seq_k hK312 ?_
        refine wpC_ret ?_
        refine QH_ret rfl (RV.tmp rfl RV.nil) rfl ?_
        obtain rfl := Option.some.inj H
        replace hS := hS.cut 0
        exact ⟨rfl, hS⟩
      replace H := cond_t H hb
      obtain ⟨r328, hm329, H⟩ := bind_some H
      refine wpS_call rfl rfl rfl rfl (by kernel_rfl) rfl (c_law07_wakes _ (SlI.of_rd hT_.k (hS.rd0 hT_.rd) (hS.blk0 hT_.blk)) hm329) ?_
      rintro e w ⟨rfl, hN⟩; refine ⟨_, rfl, ?_⟩; have hB := hN.pure; have hS := hS.join hN; clear hN
      refine wpS_quick 2 rfl ?_
      refine wpS_nil ?_
      refine QH_seq_k hK312 ?_
      refine wpC_ret ?_
      refine QH_ret rfl (RV.tmp rfl RV.nil) rfl ?_
      obtain rfl := Option.some.inj H
      replace hS := hS.cut 0
      exact ⟨rfl, hS⟩
    replace H := cond_t H hb
    refine wpS_quick 1 rfl ?_
    refine wpS_put rfl rfl rfl (yv_eql rfl rfl) ?_
    refine wpS_quick 2 rfl ?_
    refine wpS_case 74 rfl (fun hb => ?_) (fun hb => ?_)
    rotate_left
    · replace H := cond_f H hb
      refine wpS_quick 8 rfl ?_
      refine wpS_nil ?_
      refine QH_seq_k hK252 ?_
      refine wpC_cond_f rfl rfl ?_
      refine wpC_skip ?_
      refine QH_seq_k hK251 ?_
      refine wpC_seq_k (fun K hK286 => ?_)
      refine wpC_region ?_
      refine wpS_quick 1 rfl ?_
      refine wpS_put rfl rfl rfl (yv_neq rfl rfl) ?_
      refine wpS_quick 1 rfl ?_
      refine wpS_case 85 rfl (fun hb => ?_) (fun hb => ?_)
      · replace H := cond_t H hb
        refine wpS_quick 6 rfl ?_
        refine wpS_put rfl rfl rfl (yv_eql rfl rfl) ?_
        refine wpS_quick 1 rfl ?_
        refine wpS_put rfl rfl rfl (yv_geq rfl rfl) ?_
        refine wpS_quick 1 rfl ?_
        refine wpS_case 95 rfl (fun hb => ?_) (fun hb => ?_)
        rotate_left
        · replace H := cond_f H hb
          refine wpS_quick 3 rfl ?_
          refine wpS_put rfl rfl rfl (yv_eqlB (by kernel_rfl) rfl rfl) ?_
          refine wpS_quick 2 rfl ?_
          refine wpS_case 101 rfl (fun hb => ?_) (fun hb => ?_)
          rotate_left
          · replace H := cond_f H hb
            refine wpS_quick 3 rfl ?_
            refine wpS_nil ?_
            refine QH_seq_k hK286 ?_
            refine wpC_ret ?_
            refine QH_ret rfl (RV.tmp rfl RV.nil) rfl ?_
            obtain rfl := Option.some.inj H
            replace hS := hS.cut 0
            exact ⟨rfl, hS⟩
          replace H := cond_t H hb
          obtain ⟨r295, hm296, H⟩ := bind_some H
          refine wpS_call rfl rfl rfl rfl (by kernel_rfl) rfl (c_law07_wakes _ (SlI.of_rd hT_.k (hS.rd0 hT_.rd) (hS.blk0 hT_.blk)) hm296) ?_
          rintro e w ⟨rfl, hN⟩; refine ⟨_, rfl, ?_⟩; have hB := hN.pure; have hS := hS.join hN; clear hN
          refine wpS_quick 2 rfl ?_
          refine wpS_nil ?_
          refine QH_seq_k hK286 ?_
          refine wpC_ret ?_
          refine QH_ret rfl (RV.tmp rfl RV.nil) rfl ?_
          obtain rfl := Option.some.inj H
          replace hS := hS.cut 0
          exact ⟨rfl, hS⟩
        replace H := cond_t H hb
        refine wpS_quick 1 rfl ?_
        refine wpS_put rfl rfl rfl (yv_leq rfl rfl) ?_
        refine wpS_quick 1 rfl ?_
        refine wpS_put rfl rfl rfl (yv_eqlB (by kernel_rfl) rfl rfl) ?_
        refine wpS_quick 2 rfl ?_
        refine wpS_case 101 rfl (fun hb => ?_) (fun hb => ?_)
        rotate_left
        · replace H := cond_f H hb
          refine wpS_quick 3 rfl ?_
          refine wpS_nil ?_
          refine QH_seq_k hK286 ?_
          refine wpC_ret ?_
          refine QH_ret rfl (RV.tmp rfl RV.nil) rfl ?_
          obtain rfl := Option.some.inj H
          replace hS := hS.cut 0
          exact ⟨rfl, hS⟩
        replace H := cond_t H hb
        obtain ⟨r290, hm291, H⟩ := bind_some H
        refine wpS_call rfl rfl rfl rfl (by kernel_rfl) rfl (c_law07_wakes _ (SlI.of_rd hT_.k (hS.rd0 hT_.rd) (hS.blk0 hT_.blk)) hm291) ?_
        rintro e w ⟨rfl, hN⟩; refine ⟨_, rfl, ?_⟩; have hB := hN.pure; have hS := hS.join hN; clear hN
        refine wpS_quick 2 rfl ?_
        refine wpS_nil ?_
        refine QH_seq_k hK286 ?_
        refine wpC_ret ?_
        refine QH_ret rfl (RV.tmp rfl RV.nil) rfl ?_
        obtain rfl := Option.some.inj H
        replace hS := hS.cut 0
        exact ⟨rfl, hS⟩
      replace H := cond_f H hb
      refine wpS_quick 1 rfl ?_
      refine wpS_put rfl rfl rfl (yv_len el_23 rfl) ?_
      refine wpS_put rfl rfl rfl (yv_eql rfl rfl) ?_
      refine wpS_quick 2 rfl ?_
      refine wpS_case 90 rfl (fun hb => ?_) (fun hb => ?_)
      rotate_left
      · replace H := cond_f H hb
        refine wpS_quick 14 rfl ?_
        refine wpS_nil ?_
        refine QH_seq_k hK286 ?_
        refine wpC_ret ?_
        refine QH_ret rfl (RV.tmp rfl RV.nil) rfl ?_
        obtain rfl := Option.some.inj H
        replace hS := hS.cut 0
        exact ⟨rfl, hS⟩
      replace H := cond_t H hb
      refine wpS_quick 1 rfl ?_
      refine wpS_put rfl rfl rfl (yv_eql rfl rfl) ?_
      refine wpS_quick 1 rfl ?_
      refine wpS_put rfl rfl rfl (yv_geq rfl rfl) ?_
      refine wpS_quick 1 rfl ?_
      refine wpS_case 95 rfl (fun hb => ?_) (fun hb => ?_)
      rotate_left
      · replace H := cond_f H hb
        refine wpS_quick 3 rfl ?_
        refine wpS_put rfl rfl rfl (yv_eqlB (by kernel_rfl) rfl rfl) ?_
        refine wpS_quick 2 rfl ?_
        refine wpS_case 101 rfl (fun hb => ?_) (fun hb => ?_)
        rotate_left
        · replace H := cond_f H hb
          refine wpS_quick 3 rfl ?_
          refine wpS_nil ?_
          refine QH_seq_k hK286 ?_
          refine wpC_ret ?_
          refine QH_ret rfl (RV.tmp rfl RV.nil) rfl ?_
          obtain rfl := Option.some.inj H
          replace hS := hS.cut 0
          exact ⟨rfl, hS⟩
        replace H := cond_t H hb
        obtain ⟨r307, hm308, H⟩ := bind_some H
        refine wpS_call rfl rfl rfl rfl (by kernel_rfl) rfl (c_law07_wakes _ (SlI.of_rd hT_.k (hS.rd0 hT_.rd) (hS.blk0 hT_.blk)) hm308) ?_
        rintro e w ⟨rfl, hN⟩; refine ⟨_, rfl, ?_⟩; have hB := hN.pure; have hS := hS.join hN; clear hN
        refine wpS_quick 2 rfl ?_
        refine wpS_nil ?_
        refine QH_seq_k hK286 ?_
        refine wpC_ret ?_
        refine QH_ret rfl (RV.tmp rfl RV.nil) rfl ?_
        obtain rfl := Option.some.inj H
        replace hS := hS.cut 0
        exact ⟨rfl, hS⟩
      replace H := cond_t H hb
      refine wpS_quick 1 rfl ?_
      refine wpS_put rfl rfl rfl (yv_leq rfl rfl) ?_
      refine wpS_quick 1 rfl ?_
      refine wpS_put rfl rfl rfl (yv_eqlB (by kernel_rfl) rfl rfl) ?_
      refine wpS_quick 2 rfl ?_
      refine wpS_case 101 rfl (fun hb => ?_) (fun hb => ?_)
      rotate_left
      · replace H := cond_f H hb
        refine wpS_quick 3 rfl ?_
        refine wpS_nil ?_
        refine QH_seq_k hK286 ?_
        refine wpC_ret ?_
        refine QH_ret rfl (RV.tmp rfl RV.nil) rfl ?_
        obtain rfl := Option.some.inj H
        replace hS := hS.cut 0
        exact ⟨rfl, hS⟩
      replace H := cond_t H hb
      obtain ⟨r302, hm303, H⟩ := bind_some H
      refine wpS_call rfl rfl rfl rfl (by kernel_rfl) rfl (c_law07_wakes _ (SlI.of_rd hT_.k (hS.rd0 hT_.rd) (hS.blk0 hT_.blk)) hm303) ?_
      rintro e w ⟨rfl, hN⟩; refine ⟨_, rfl, ?_⟩; have hB := hN.pure; have hS := hS.join hN; clear hN
      refine wpS_quick 2 rfl ?_
      refine wpS_nil ?_
      refine QH_seq_k hK286 ?_
      refine wpC_ret ?_
      refine QH_ret rfl (RV.tmp rfl RV.nil) rfl ?_
      obtain rfl := Option.some.inj H
      replace hS := hS.cut 0
      exact ⟨rfl, hS⟩
    replace H := cond_t H hb
    refine wpS_quick 2 rfl ?_
    obtain ⟨r255, hm256, H⟩ := bind_some H
    refine wpS_call rfl rfl rfl rfl (by kernel_rfl) rfl (c_law07_same r25.1 r32.1 A27 c28 A34 c35 _ (SlI.of_rd k29 (hS.row_rd hs1) (hS.row_blk hs1)) (SlI.of_rd k36 (hS.row_rd hs0) (hS.row_blk hs0)) hm256) ?_
    rintro e w ⟨rfl, hN⟩; refine ⟨_, rfl, ?_⟩; have hB := hN.pure; have hS := hS.join hN; clear hN
    refine wpS_quick 2 rfl ?_
    refine wpS_put rfl rfl rfl (yv_eql rfl rfl) ?_
    refine wpS_put rfl rfl rfl (yv_neqB (by kernel_rfl) rfl rfl) ?_
    refine wpS_quick 1 rfl ?_
    refine wpS_nil ?_
    refine QH_seq_k hK252 ?_
    refine wpC_cond rfl (fun hb => ?_) (fun hb => ?_)
    · replace H := cond_t H hb
      refine wpC_seq_k (fun K hK258 => ?_)
      refine wpC_region ?_
      refine wpS_quick 1 rfl ?_
      refine wpS_nil ?_
      refine QH_seq_k hK258 ?_
      refine wpC_ret ?_
      refine QH_then_ret ?_
      refine QH_ret rfl (RV.tmp rfl RV.nil) rfl ?_
      obtain rfl := Option.some.inj H
      replace hS := hS.cut 0
      exact ⟨rfl, hS⟩
    replace H := cond_f H hb
    refine wpC_skip ?_
    refine QH_seq_k hK251 ?_
    refine wpC_seq_k (fun K hK260 => ?_)
    refine wpC_region ?_
    refine wpS_quick 1 rfl ?_
    refine wpS_put rfl rfl rfl (yv_neq rfl rfl) ?_
    refine wpS_quick 1 rfl ?_
    refine wpS_case 85 rfl (fun hb => ?_) (fun hb => ?_)
    · replace H := cond_t H hb
      refine wpS_quick 6 rfl ?_
      refine wpS_put rfl rfl rfl (yv_eql rfl rfl) ?_
      refine wpS_quick 1 rfl ?_
      refine wpS_put rfl rfl rfl (yv_geq rfl rfl) ?_
      refine wpS_quick 1 rfl ?_
      refine wpS_case 95 rfl (fun hb => ?_) (fun hb => ?_)
      rotate_left
      · replace H := cond_f H hb
        refine wpS_quick 3 rfl ?_
        refine wpS_put rfl rfl rfl (yv_eqlB (by kernel_rfl) rfl rfl) ?_
        refine wpS_quick 2 rfl ?_
        refine wpS_case 101 rfl (fun hb => ?_) (fun hb => ?_)
        rotate_left
        · replace H := cond_f H hb
          refine wpS_quick 3 rfl ?_
          refine wpS_nil ?_
          refine QH_seq_k hK260 ?_
          refine wpC_ret ?_
          refine QH_ret rfl (RV.tmp rfl RV.nil) rfl ?_
          obtain rfl := Option.some.inj H
          replace hS := hS.cut 0
          exact ⟨rfl, hS⟩
        replace H := cond_t H hb
        obtain ⟨r269, hm270, H⟩ := bind_some H
        refine wpS_call rfl rfl rfl rfl (by kernel_rfl) rfl (c_law07_wakes _ (SlI.of_rd hT_.k (hS.rd0 hT_.rd) (hS.blk0 hT_.blk)) hm270) ?_
        rintro e w ⟨rfl, hN⟩; refine ⟨_, rfl, ?_⟩; have hB := hN.pure; have hS := hS.join hN; clear hN
        refine wpS_quick 2 rfl ?_
        refine wpS_nil ?_
        refine QH_seq_k hK260 ?_
        refine wpC_ret ?_
        refine QH_ret rfl (RV.tmp rfl RV.nil) rfl ?_
        obtain rfl := Option.some.inj H
        replace hS := hS.cut 0
        exact ⟨rfl, hS⟩
      replace H := cond_t H hb
      refine wpS_quick 1 rfl ?_
      refine wpS_put rfl rfl rfl (yv_leq rfl rfl) ?_
      refine wpS_quick 1 rfl ?_
      refine wpS_put rfl rfl rfl (yv_eqlB (by kernel_rfl) rfl rfl) ?_
      refine wpS_quick 2 rfl ?_
      refine wpS_case 101 rfl (fun hb => ?_) (fun hb => ?_)
      rotate_left
      · replace H := cond_f H hb
        refine wpS_quick 3 rfl ?_
        refine wpS_nil ?_
        refine QH_seq_k hK260 ?_
        refine wpC_ret ?_
        refine QH_ret rfl (RV.tmp rfl RV.nil) rfl ?_
        obtain rfl := Option.some.inj H
        replace hS := hS.cut 0
        exact ⟨rfl, hS⟩
      replace H := cond_t H hb
      obtain ⟨r264, hm265, H⟩ := bind_some H
      refine wpS_call rfl rfl rfl rfl (by kernel_rfl) rfl (c_law07_wakes _ (SlI.of_rd hT_.k (hS.rd0 hT_.rd) (hS.blk0 hT_.blk)) hm265) ?_
      rintro e w ⟨rfl, hN⟩; refine ⟨_, rfl, ?_⟩; have hB := hN.pure; have hS := hS.join hN; clear hN
      refine wpS_quick 2 rfl ?_
      refine wpS_nil ?_
      refine QH_seq_k hK260 ?_
      refine wpC_ret ?_
      refine QH_ret rfl (RV.tmp rfl RV.nil) rfl ?_
      obtain rfl := Option.some.inj H
      replace hS := hS.cut 0
      exact ⟨rfl, hS⟩
    replace H := cond_f H hb
    refine wpS_quick 1 rfl ?_
    refine wpS_put rfl rfl rfl (yv_len el_23 rfl) ?_
    refine wpS_put rfl rfl rfl (yv_eql rfl rfl) ?_
    refine wpS_quick 2 rfl ?_
    refine wpS_case 90 rfl (fun hb => ?_) (fun hb => ?_)
    rotate_left
    · replace H := cond_f H hb
      refine wpS_quick 14 rfl ?_
      refine wpS_nil ?_
      refine QH_seq_k hK260 ?_
      refine wpC_ret ?_
      refine QH_ret rfl (RV.tmp rfl RV.nil) rfl ?_
      obtain rfl := Option.some.inj H
      replace hS := hS.cut 0
      exact ⟨rfl, hS⟩
    replace H := cond_t H hb
    refine wpS_quick 1 rfl ?_
    refine wpS_put rfl rfl rfl (yv_eql rfl rfl) ?_
    refine wpS_quick 1 rfl ?_
    refine wpS_put rfl rfl rfl (yv_geq rfl rfl) ?_
    refine wpS_quick 1 rfl ?_
    refine wpS_case 95 rfl (fun hb => ?_) (fun hb => ?_)
    rotate_left
    · replace H := cond_f H hb
      refine wpS_quick 3 rfl ?_
      refine wpS_put rfl rfl rfl (yv_eqlB (by kernel_rfl) rfl rfl) ?_
      refine wpS_quick 2 rfl ?_
      refine wpS_case 101 rfl (fun hb => ?_) (fun hb => ?_)
      rotate_left
      · replace H := cond_f H hb
        refine wpS_quick 3 rfl ?_
        refine wpS_nil ?_
        refine QH_seq_k hK260 ?_
        refine wpC_ret ?_
        refine QH_ret rfl (RV.tmp rfl RV.nil) rfl ?_
        obtain rfl := Option.some.inj H
        replace hS := hS.cut 0
        exact ⟨rfl, hS⟩
      replace H := cond_t H hb
      obtain ⟨r281, hm282, H⟩ := bind_some H
      refine wpS_call rfl rfl rfl rfl (by kernel_rfl) rfl (c_law07_wakes _ (SlI.of_rd hT_.k (hS.rd0 hT_.rd) (hS.blk0 hT_.blk)) hm282) ?_
      rintro e w ⟨rfl, hN⟩; refine ⟨_, rfl, ?_⟩; have hB := hN.pure; have hS := hS.join hN; clear hN
      refine wpS_quick 2 rfl ?_
      refine wpS_nil ?_
      refine QH_seq_k hK260 ?_
      refine wpC_ret ?_
      refine QH_ret rfl (RV.tmp rfl RV.nil) rfl ?_
      obtain rfl := Option.some.inj H
      replace hS := hS.cut 0
      exact ⟨rfl, hS⟩
    replace H := cond_t H hb
    refine wpS_quick 1 rfl ?_
    refine wpS_put rfl rfl rfl (yv_leq rfl rfl) ?_
    refine wpS_quick 1 rfl ?_
    refine wpS_put rfl rfl rfl (yv_eqlB (by kernel_rfl) rfl rfl) ?_
    refine wpS_quick 2 rfl ?_
    refine wpS_case 101 rfl (fun hb => ?_) (fun hb => ?_)
    rotate_left
    · replace H := cond_f H hb
      refine wpS_quick 3 rfl ?_
      refine wpS_nil ?_
      refine QH_seq_k hK260 ?_
      refine wpC_ret ?_
      refine QH_ret rfl (RV.tmp rfl RV.nil) rfl ?_
      obtain rfl := Option.some.inj H
      replace hS := hS.cut 0
      exact ⟨rfl, hS⟩
    replace H := cond_t H hb
    obtain ⟨r276, hm277, H⟩ := bind_some H
    refine wpS_call rfl rfl rfl rfl (by kernel_rfl) rfl (c_law07_wakes _ (SlI.of_rd hT_.k (hS.rd0 hT_.rd) (hS.blk0 hT_.blk)) hm277) ?_
    rintro e w ⟨rfl, hN⟩; refine ⟨_, rfl, ?_⟩; have hB := hN.pure; have hS := hS.join hN; clear hN
    refine wpS_quick 2 rfl ?_
    refine wpS_nil ?_
    refine QH_seq_k hK260 ?_
    refine wpC_ret ?_
    refine QH_ret rfl (RV.tmp rfl RV.nil) rfl ?_
    obtain rfl := Option.some.inj H
    replace hS := hS.cut 0
    exact ⟨rfl, hS⟩
  replace H := cond_t H hb
  refine wpR_batch [false, false, false, true, true, true, true] (by decide +kernel) (by repeat (first | exact PF.body | exact PF.round | apply PF.then | apply PF.inBlock | apply PF.jump)) ?_
  refine LtK.put rfl rfl rfl (yv_move rfl) ?_
  refine LtK.put rfl rfl rfl (yv_eql rfl rfl) ?_
  refine LtK.put rfl rfl rfl (yv_pick_t rfl rfl rfl) ?_
  refine LtK.put rfl rfl rfl (yv_move rfl) ?_
  refine LtK.nil ?_
  refine wpR_case 45 rfl (fun hb => ?_) (fun hb => ?_)
  rotate_left
  · replace H := cond_f H hb
    refine wpR_batch [false, false, false, false, false, false, false, true, true, false, true, true, true] (by decide +kernel) (by repeat (first | exact PF.body | exact PF.round | apply PF.then | apply PF.inBlock | apply PF.jump)) ?_
    refine LtK.skip rfl rfl rfl ?_
    refine LtK.skip rfl rfl rfl ?_
    refine LtK.skip rfl rfl rfl ?_
    refine LtK.skip rfl rfl rfl ?_
    refine LtK.skip rfl rfl rfl ?_
    refine LtK.nil ?_
    refine wpR_call [false, false, false, false, false, false, false, false, false, true] 9 ⟨by decide, by kernel_rfl, by kernel_rfl⟩ rfl rfl ?_
    try dsimp only [pickL]
    refine wpS_skip rfl rfl rfl ?_
    refine wpS_nil ?_
    refine QH_step (Below.refl _ _) ?_
    refine wpR_batch [false, false, false, false, false, false, false, false, false, false, false, false, false, true, true, true, true, true, true] (by decide +kernel) (by repeat (first | exact PF.body | exact PF.round | apply PF.then | apply PF.inBlock | apply PF.jump)) ?_
    refine LtK.skip rfl rfl rfl ?_
    refine LtK.put rfl rfl rfl (yv_pick_f rfl rfl rfl) ?_
    refine LtK.put rfl rfl rfl (yv_move rfl) ?_
    refine LtK.put rfl rfl rfl (yv_move rfl) ?_
    refine LtK.put rfl rfl rfl (yv_eql rfl rfl) ?_
    refine LtK.put rfl rfl rfl (yv_load_boxA ag_40 rfl (RW.below _) hS hs7 trivial sg0_3) ?_
    refine LtK.nil ?_
    refine wpR_call [false, false, false, false, false, false, false, false, false, false, false, false, false, false, false, false, false, false, false, true] 19 ⟨by decide, by kernel_rfl, by kernel_rfl⟩ rfl rfl ?_
    try dsimp only [pickL]
    obtain ⟨r144, hm145, H⟩ := bind_some H
    refine wpS_call rfl rfl rfl rfl (by kernel_rfl) rfl (c_ref06_Right x0 _ hm145) ?_
    rintro e w ⟨rfl, hN⟩; refine ⟨_, rfl, ?_⟩; have hB := hN.pure; have hS := hS.join hN; clear hN
    refine wpS_nil ?_
    refine QH_step hB ?_
    refine wpR_batch [false, false, false, false, false, false, false, false, false, false, false, false, false, false, false, false, false, false, false, false, true, true, true] (by decide +kernel) (by repeat (first | exact PF.body | exact PF.round | apply PF.then | apply PF.inBlock | apply PF.jump)) ?_
    refine LtK.put rfl rfl rfl (yv_neqB (by kernel_rfl) rfl rfl) ?_
    refine LtK.put rfl rfl rfl (yv_pick_f rfl rfl rfl) ?_
    refine LtK.put rfl rfl rfl (yv_move rfl) ?_
    refine LtK.nil ?_
    refine wpR_case 61 rfl (fun hb => ?_) (fun hb => ?_)
    · replace H := cond_t H hb
      refine wpR_batch [false, false, false, false, false, false, false, false, false, false, false, false, false, false, false, false, false, false, false, false, false, false, false, true, true, true] (by decide +kernel) (by repeat (first | exact PF.body | exact PF.round | apply PF.then | apply PF.inBlock | apply PF.jump)) ?_
      refine LtK.skip rfl rfl rfl ?_
      refine LtK.skip rfl rfl rfl ?_
      refine LtK.skip rfl rfl rfl ?_
      refine LtK.nil ?_
      refine wpR_call [false, false, false, false, false, false, false, false, false, false, false, false, false, false, false, false, false, false, false, false, false, false, false, false, false, false, true] 26 ⟨by decide, by kernel_rfl, by kernel_rfl⟩ rfl rfl ?_
      try dsimp only [pickL]
      refine wpS_skip rfl rfl rfl ?_
      refine wpS_nil ?_
      refine QH_step (Below.refl _ _) ?_
      refine wpR_batch [false, false, false, false, false, false, false, false, false, false, false, false, false, false, false, false, false, false, false, false, false, false, false, false, false, false, false, true, true] (by decide +kernel) (by repeat (first | exact PF.body | exact PF.round | apply PF.then | apply PF.inBlock | apply PF.jump)) ?_
      refine LtK.skip rfl rfl rfl ?_
      refine LtK.put rfl rfl rfl (yv_pick_t rfl rfl rfl) ?_
      refine LtK.nil ?_
      refine wpR_end (by kernel_rfl) ?_
      refine QH_seq_k hK39 ?_
      refine wpC_cond_t rfl rfl ?_
      refine wpC_seq_k (fun K hK147 => ?_)
      refine wpC_region ?_
      refine wpS_quick 1 rfl ?_
      refine wpS_nil ?_
      refine QH_seq_k hK147 ?_
      refine wpC_ret ?_
      refine QH_then_ret ?_
      refine QH_ret rfl (RV.tmp rfl RV.nil) rfl ?_
      obtain rfl := Option.some.inj H
      replace hS := hS.cut 0
      exact ⟨rfl, hS⟩
    replace H := cond_f H hb
    refine wpR_batch [false, false, false, false, false, false, false, false, false, false, false, false, false, false, false, false, false, false, false, false, false, false, false, true, true, true] (by decide +kernel) (by repeat (first | exact PF.body | exact PF.round | apply PF.then | apply PF.inBlock | apply PF.jump)) ?_
    refine LtK.put rfl rfl rfl (yv_move rfl) ?_
    refine LtK.put rfl rfl rfl (yv_eql rfl rfl) ?_
    refine LtK.put rfl rfl rfl (yv_load_boxA ag_40 rfl (RW.below _) hS hs6 trivial sg0_3) ?_
    refine LtK.nil ?_
    refine wpR_call [false, false, false, false, false, false, false, false, false, false, false, false, false, false, false, false, false, false, false, false, false, false, false, false, false, false, true] 26 ⟨by decide, by kernel_rfl, by kernel_rfl⟩ rfl rfl ?_
    try dsimp only [pickL]
    obtain ⟨r149, hm150, H⟩ := bind_some H
    refine wpS_call rfl rfl rfl rfl (by kernel_rfl) rfl (c_ref06_Right x1 _ hm150) ?_
    rintro e w ⟨rfl, hN⟩; refine ⟨_, rfl, ?_⟩; have hB := hN.pure; have hS := hS.join hN; clear hN
    refine wpS_nil ?_
    refine QH_step hB ?_
    refine wpR_batch [false, false, false, false, false, false, false, false, false, false, false, false, false, false, false, false, false, false, false, false, false, false, false, false, false, false, false, true, true] (by decide +kernel) (by repeat (first | exact PF.body | exact PF.round | apply PF.then | apply PF.inBlock | apply PF.jump)) ?_
    refine LtK.put rfl rfl rfl (yv_neqB (by kernel_rfl) rfl rfl) ?_
    refine LtK.put rfl rfl rfl (yv_pick_f rfl rfl rfl) ?_
    refine LtK.nil ?_
    refine wpR_end (by kernel_rfl) ?_
    refine QH_seq_k hK39 ?_
    refine wpC_cond rfl (fun hb => ?_) (fun hb => ?_)
    · replace H := cond_t H hb
      refine wpC_seq_k (fun K hK152 => ?_)
      refine wpC_region ?_
      refine wpS_quick 1 rfl ?_
      refine wpS_nil ?_
      refine QH_seq_k hK152 ?_
      refine wpC_ret ?_
      refine QH_then_ret ?_
      refine QH_ret rfl (RV.tmp rfl RV.nil) rfl ?_
      obtain rfl := Option.some.inj H
      replace hS := hS.cut 0
      exact ⟨rfl, hS⟩
    replace H := cond_f H hb
    refine wpC_skip ?_
    refine QH_seq_k hK38 ?_
    refine wpC_seq_k (fun K hK154 => ?_)
    refine wpC_seq_k (fun K hK155 => ?_)
    refine wpC_region ?_
    refine wpS_quick 1 rfl ?_
    refine wpS_put rfl rfl rfl (yv_eql rfl rfl) ?_
    refine wpS_quick 1 rfl ?_
    refine wpS_case 70 rfl (fun hb => ?_) (fun hb => ?_)
    rotate_left
    · replace H := cond_f H hb
      refine wpS_quick 12 rfl ?_
      refine wpS_nil ?_
      refine QH_seq_k hK155 ?_
      refine wpC_cond_f rfl rfl ?_
      refine wpC_skip ?_
      refine QH_seq_k hK154 ?_
      refine wpC_seq_k (fun K hK215 => ?_)
      refine wpC_region ?_
      refine wpS_quick 1 rfl ?_
      refine wpS_put rfl rfl rfl (yv_neq rfl rfl) ?_
      refine wpS_quick 1 rfl ?_
      refine wpS_case 85 rfl (fun hb => ?_) (fun hb => ?_)
      · replace H := cond_t H hb
        refine wpS_quick 6 rfl ?_
        refine wpS_put rfl rfl rfl (yv_eql rfl rfl) ?_
        refine wpS_quick 1 rfl ?_
        refine wpS_put rfl rfl rfl (yv_geq rfl rfl) ?_
        refine wpS_quick 1 rfl ?_
        refine wpS_case 95 rfl (fun hb => ?_) (fun hb => ?_)
        rotate_left
        · replace H := cond_f H hb
          refine wpS_quick 3 rfl ?_
          refine wpS_put rfl rfl rfl (yv_eqlB (by kernel_rfl) rfl rfl) ?_
          refine wpS_quick 2 rfl ?_
          refine wpS_case 101 rfl (fun hb => ?_) (fun hb => ?_)
          rotate_left
          · replace H := cond_f H hb
            refine wpS_quick 3 rfl ?_
            refine wpS_nil ?_
            refine QH_seq_k hK215 ?_
            refine wpC_ret ?_
            refine QH_ret rfl (RV.tmp rfl RV.nil) rfl ?_
            obtain rfl := Option.some.inj H
            replace hS := hS.cut 0
            exact ⟨rfl, hS⟩
          replace H := cond_t H hb
          obtain ⟨r224, hm225, H⟩ := bind_some H
          refine wpS_call rfl rfl rfl rfl (by kernel_rfl) rfl (c_law07_wakes _ (SlI.of_rd hT_.k (hS.rd0 hT_.rd) (hS.blk0 hT_.blk)) hm225) ?_
          rintro e w ⟨rfl, hN⟩; refine ⟨_, rfl, ?_⟩; have hB := hN.pure; have hS := hS.join hN; clear hN
          refine wpS_quick 2 rfl ?_
          refine wpS_nil ?_
          refine QH_seq_k hK215 ?_
          refine wpC_ret ?_
          refine QH_ret rfl (RV.tmp rfl RV.nil) rfl ?_
          obtain rfl := Option.some.inj H
          replace hS := hS.cut 0
          exact ⟨rfl, hS⟩
        replace H := cond_t H hb
        refine wpS_quick 1 rfl ?_
        refine wpS_put rfl rfl rfl (yv_leq rfl rfl) ?_
        refine wpS_quick 1 rfl ?_
        refine wpS_put rfl rfl rfl (yv_eqlB (by kernel_rfl) rfl rfl) ?_
        refine wpS_quick 2 rfl ?_
        refine wpS_case 101 rfl (fun hb => ?_) (fun hb => ?_)
        rotate_left
        · replace H := cond_f H hb
          refine wpS_quick 3 rfl ?_
          refine wpS_nil ?_
          refine QH_seq_k hK215 ?_
          refine wpC_ret ?_
          refine QH_ret rfl (RV.tmp rfl RV.nil) rfl ?_
          obtain rfl := Option.some.inj H
          replace hS := hS.cut 0
          exact ⟨rfl, hS⟩
        replace H := cond_t H hb
        obtain ⟨r219, hm220, H⟩ := bind_some H
        refine wpS_call rfl rfl rfl rfl (by kernel_rfl) rfl (c_law07_wakes _ (SlI.of_rd hT_.k (hS.rd0 hT_.rd) (hS.blk0 hT_.blk)) hm220) ?_
        rintro e w ⟨rfl, hN⟩; refine ⟨_, rfl, ?_⟩; have hB := hN.pure; have hS := hS.join hN; clear hN
        refine wpS_quick 2 rfl ?_
        refine wpS_nil ?_
        refine QH_seq_k hK215 ?_
        refine wpC_ret ?_
        refine QH_ret rfl (RV.tmp rfl RV.nil) rfl ?_
        obtain rfl := Option.some.inj H
        replace hS := hS.cut 0
        exact ⟨rfl, hS⟩
      replace H := cond_f H hb
      refine wpS_quick 1 rfl ?_
      refine wpS_put rfl rfl rfl (yv_len el_23 rfl) ?_
      refine wpS_put rfl rfl rfl (yv_eql rfl rfl) ?_
      refine wpS_quick 2 rfl ?_
      refine wpS_case 90 rfl (fun hb => ?_) (fun hb => ?_)
      rotate_left
      · replace H := cond_f H hb
        refine wpS_quick 14 rfl ?_
        refine wpS_nil ?_
        refine QH_seq_k hK215 ?_
        refine wpC_ret ?_
        refine QH_ret rfl (RV.tmp rfl RV.nil) rfl ?_
        obtain rfl := Option.some.inj H
        replace hS := hS.cut 0
        exact ⟨rfl, hS⟩
      replace H := cond_t H hb
      refine wpS_quick 1 rfl ?_
      refine wpS_put rfl rfl rfl (yv_eql rfl rfl) ?_
      refine wpS_quick 1 rfl ?_
      refine wpS_put rfl rfl rfl (yv_geq rfl rfl) ?_
      refine wpS_quick 1 rfl ?_
      refine wpS_case 95 rfl (fun hb => ?_) (fun hb => ?_)
      rotate_left
      · replace H := cond_f H hb
        refine wpS_quick 3 rfl ?_
        refine wpS_put rfl rfl rfl (yv_eqlB (by kernel_rfl) rfl rfl) ?_
        refine wpS_quick 2 rfl ?_
        refine wpS_case 101 rfl (fun hb => ?_) (fun hb => ?_)
        rotate_left
        · replace H := cond_f H hb
          refine wpS_quick 3 rfl ?_
          refine wpS_nil ?_
          refine QH_seq_k hK215 ?_
          refine wpC_ret ?_
          refine QH_ret rfl (RV.tmp rfl RV.nil) rfl ?_
          obtain rfl := Option.some.inj H
          replace hS := hS.cut 0
          exact ⟨rfl, hS⟩
        replace H := cond_t H hb
        obtain ⟨r236, hm237, H⟩ := bind_some H
        refine wpS_call rfl rfl rfl rfl (by kernel_rfl) rfl (c_law07_wakes _ (SlI.of_rd hT_.k (hS.rd0 hT_.rd) (hS.blk0 hT_.blk)) hm237) ?_
        rintro e w ⟨rfl, hN⟩; refine ⟨_, rfl, ?_⟩; have hB := hN.pure; have hS := hS.join hN; clear hN
        refine wpS_quick 2 rfl ?_
        refine wpS_nil ?_
        refine QH_seq_k hK215 ?_
        refine wpC_ret ?_
        refine QH_ret rfl (RV.tmp rfl RV.nil) rfl ?_
        obtain rfl := Option.some.inj H
        replace hS := hS.cut 0
        exact ⟨rfl, hS⟩
      replace H := cond_t H hb
      refine wpS_quick 1 rfl ?_
      refine wpS_put rfl rfl rfl (yv_leq rfl rfl) ?_
      refine wpS_quick 1 rfl ?_
      refine wpS_put rfl rfl rfl (yv_eqlB (by kernel_rfl) rfl rfl) ?_
      refine wpS_quick 2 rfl ?_
      refine wpS_case 101 rfl (fun hb => ?_) (fun hb => ?_)
      rotate_left
      · replace H := cond_f H hb
        refine wpS_quick 3 rfl ?_
        refine wpS_nil ?_
        refine QH_seq_k hK215 ?_
        refine wpC_ret ?_
        refine QH_ret rfl (RV.tmp rfl RV.nil) rfl ?_
        obtain rfl := Option.some.inj H
        replace hS := hS.cut 0
        exact ⟨rfl, hS⟩
      replace H := cond_t H hb
      obtain ⟨r231, hm232, H⟩ := bind_some H
      refine wpS_call rfl rfl rfl rfl (by kernel_rfl) rfl (c_law07_wakes _ (SlI.of_rd hT_.k (hS.rd0 hT_.rd) (hS.blk0 hT_.blk)) hm232) ?_
      rintro e w ⟨rfl, hN⟩; refine ⟨_, rfl, ?_⟩; have hB := hN.pure; have hS := hS.join hN; clear hN
      refine wpS_quick 2 rfl ?_
      refine wpS_nil ?_
      refine QH_seq_k hK215 ?_
      refine wpC_ret ?_
      refine QH_ret rfl (RV.tmp rfl RV.nil) rfl ?_
      obtain rfl := Option.some.inj H
      replace hS := hS.cut 0
      exact ⟨rfl, hS⟩
    replace H := cond_t H hb
    refine wpS_quick 1 rfl ?_
    refine wpS_put rfl rfl rfl (yv_eql rfl rfl) ?_
    refine wpS_quick 2 rfl ?_
    refine wpS_case 74 rfl (fun hb => ?_) (fun hb => ?_)
    rotate_left
    · replace H := cond_f H hb
      refine wpS_quick 8 rfl ?_
      refine wpS_nil ?_
      refine QH_seq_k hK155 ?_
      refine wpC_cond_f rfl rfl ?_
      refine wpC_skip ?_
      refine QH_seq_k hK154 ?_
      refine wpC_seq_k (fun K hK189 => ?_)
      refine wpC_region ?_
      refine wpS_quick 1 rfl ?_
      refine wpS_put rfl rfl rfl (yv_neq rfl rfl) ?_
      refine wpS_quick 1 rfl ?_
      refine wpS_case 85 rfl (fun hb => ?_) (fun hb => ?_)
      · replace H := cond_t H hb
        refine wpS_quick 6 rfl ?_
        refine wpS_put rfl rfl rfl (yv_eql rfl rfl) ?_
        refine wpS_quick 1 rfl ?_
        refine wpS_put rfl rfl rfl (yv_geq rfl rfl) ?_
        refine wpS_quick 1 rfl ?_
        refine wpS_case 95 rfl (fun hb => ?_) (fun hb => ?_)
        rotate_left
        · replace H := cond_f H hb
          refine wpS_quick 3 rfl ?_
          refine wpS_put rfl rfl rfl (yv_eqlB (by kernel_rfl) rfl rfl) ?_
          refine wpS_quick 2 rfl ?_
          refine wpS_case 101 rfl (fun hb => ?_) (fun hb => ?_)
          rotate_left
          · replace H := cond_f H hb
            refine wpS_quick 3 rfl ?_
            refine wpS_nil ?_
            refine QH_seq_k hK189 ?_
            refine wpC_ret ?_
            refine QH_ret rfl (RV.tmp rfl RV.nil) rfl ?_
            obtain rfl := Option.some.inj H
            replace hS := hS.cut 0
            exact ⟨rfl, hS⟩
          replace H := cond_t H hb
          obtain ⟨r198, hm199, H⟩ := bind_some H
          refine wpS_call rfl rfl rfl rfl (by kernel_rfl) rfl (c_law07_wakes _ (SlI.of_rd hT_.k (hS.rd0 hT_.rd) (hS.blk0 hT_.blk)) hm199) ?_
          rintro e w ⟨rfl, hN⟩; refine ⟨_, rfl, ?_⟩; have hB := hN.pure; have hS := hS.join hN; clear hN
          refine wpS_quick 2 rfl ?_
          refine wpS_nil ?_
          refine QH_seq_k hK189 ?_
          refine wpC_ret ?_
          refine QH_ret rfl (RV.tmp rfl RV.nil) rfl ?_
          obtain rfl := Option.some.inj H
          replace hS := hS.cut 0
          exact ⟨rfl, hS⟩
        replace H := cond_t H hb
        refine wpS_quick 1 rfl ?_
        refine wpS_put rfl rfl rfl (yv_leq rfl rfl) ?_
        refine wpS_quick 1 rfl ?_
        refine wpS_put rfl rfl rfl (yv_eqlB (by kernel_rfl) rfl rfl) ?_
        refine wpS_quick 2 rfl ?_
        refine wpS_case 101 rfl (fun hb => ?_) (fun hb => ?_)
        rotate_left
        · replace H := cond_f H hb
          refine wpS_quick 3 rfl ?_
          refine wpS_nil ?_
          refine QH_seq_k hK189 ?_
          refine wpC_ret ?_
          refine QH_ret rfl (RV.tmp rfl RV.nil) rfl ?_
          obtain rfl := Option.some.inj H
          replace hS := hS.cut 0
          exact ⟨rfl, hS⟩
        replace H := cond_t H hb
        obtain ⟨r193, hm194, H⟩ := bind_some H
        refine wpS_call rfl rfl rfl rfl (by kernel_rfl) rfl (c_law07_wakes _ (SlI.of_rd hT_.k (hS.rd0 hT_.rd) (hS.blk0 hT_.blk)) hm194) ?_
        rintro e w ⟨rfl, hN⟩; refine ⟨_, rfl, ?_⟩; have hB := hN.pure; have hS := hS.join hN; clear hN
        refine wpS_quick 2 rfl ?_
        refine wpS_nil ?_
        refine QH_seq_k hK189 ?_
        refine wpC_ret ?_
        refine QH_ret rfl (RV.tmp rfl RV.nil) rfl ?_
        obtain rfl := Option.some.inj H
        replace hS := hS.cut 0
        exact ⟨rfl, hS⟩
      replace H := cond_f H hb
      refine wpS_quick 1 rfl ?_
      refine wpS_put rfl rfl rfl (yv_len el_23 rfl) ?_
      refine wpS_put rfl rfl rfl (yv_eql rfl rfl) ?_
      refine wpS_quick 2 rfl ?_
      refine wpS_case 90 rfl (fun hb => ?_) (fun hb => ?_)
      rotate_left
      · replace H := cond_f H hb
        refine wpS_quick 14 rfl ?_
        refine wpS_nil ?_
        refine QH_seq_k hK189 ?_
        refine wpC_ret ?_
        refine QH_ret rfl (RV.tmp rfl RV.nil) rfl ?_
        obtain rfl := Option.some.inj H
        replace hS := hS.cut 0
        exact ⟨rfl, hS⟩
      replace H := cond_t H hb
      refine wpS_quick 1 rfl ?_
      refine wpS_put rfl rfl rfl (yv_eql rfl rfl) ?_
      refine wpS_quick 1 rfl ?_
      refine wpS_put rfl rfl rfl (yv_geq rfl rfl) ?_
      refine wpS_quick 1 rfl ?_
      refine wpS_case 95 rfl (fun hb => ?_) (fun hb => ?_)
      rotate_left
      · replace H := cond_f H hb
        refine wpS_quick 3 rfl ?_
        refine wpS_put rfl rfl rfl (yv_eqlB (by kernel_rfl) rfl rfl) ?_
        refine wpS_quick 2 rfl ?_
        refine wpS_case 101 rfl (fun hb => ?_) (fun hb => ?_)
        rotate_left
        · replace H := cond_f H hb
          refine wpS_quick 3 rfl ?_
          refine wpS_nil ?_
          refine QH_seq_k hK189 ?_
          refine wpC_ret ?_
          refine QH_ret rfl (RV.tmp rfl RV.nil) rfl ?_
          obtain rfl := Option.some.inj H
          replace hS := hS.cut 0
          exact ⟨rfl, hS⟩
        replace H := cond_t H hb
        obtain ⟨r210, hm211, H⟩ := bind_some H
        refine wpS_call rfl rfl rfl rfl (by kernel_rfl) rfl (c_law07_wakes _ (SlI.of_rd hT_.k (hS.rd0 hT_.rd) (hS.blk0 hT_.blk)) hm211) ?_
        rintro e w ⟨rfl, hN⟩; refine ⟨_, rfl, ?_⟩; have hB := hN.pure; have hS := hS.join hN; clear hN
        refine wpS_quick 2 rfl ?_
        refine wpS_nil ?_
        refine QH_seq_k hK189 ?_
        refine wpC_ret ?_
        refine QH_ret rfl (RV.tmp rfl RV.nil) rfl ?_
        obtain rfl := Option.some.inj H
        replace hS := hS.cut 0
        exact ⟨rfl, hS⟩
      replace H := cond_t H hb
      refine wpS_quick 1 rfl ?_
      refine wpS_put rfl rfl rfl (yv_leq rfl rfl) ?_
      refine wpS_quick 1 rfl ?_
      refine wpS_put rfl rfl rfl (yv_eqlB (by kernel_rfl) rfl rfl) ?_
      refine wpS_quick 2 rfl ?_
      refine wpS_case 101 rfl (fun hb => ?_) (fun hb => ?_)
      rotate_left
      · replace H := cond_f H hb
        refine wpS_quick 3 rfl ?_
        refine wpS_nil ?_
        refine QH_seq_k hK189 ?_
        refine wpC_ret ?_
        refine QH_ret rfl (RV.tmp rfl RV.nil) rfl ?_
        obtain rfl := Option.some.inj H
        replace hS := hS.cut 0
        exact ⟨rfl, hS⟩
      replace H := cond_t H hb
      obtain ⟨r205, hm206, H⟩ := bind_some H
      refine wpS_call rfl rfl rfl rfl (by kernel_rfl) rfl (c_law07_wakes _ (SlI.of_rd hT_.k (hS.rd0 hT_.rd) (hS.blk0 hT_.blk)) hm206) ?_
      rintro e w ⟨rfl, hN⟩; refine ⟨_, rfl, ?_⟩; have hB := hN.pure; have hS := hS.join hN; clear hN
      refine wpS_quick 2 rfl ?_
      refine wpS_nil ?_
      refine QH_seq_k hK189 ?_
      refine wpC_ret ?_
      refine QH_ret rfl (RV.tmp rfl RV.nil) rfl ?_
      obtain rfl := Option.some.inj H
      replace hS := hS.cut 0
      exact ⟨rfl, hS⟩
    replace H := cond_t H hb
    refine wpS_quick 2 rfl ?_
    obtain ⟨r158, hm159, H⟩ := bind_some H
    refine wpS_call rfl rfl rfl rfl (by kernel_rfl) rfl (c_law07_same r25.1 r32.1 A27 c28 A34 c35 _ (SlI.of_rd k29 (hS.row_rd hs1) (hS.row_blk hs1)) (SlI.of_rd k36 (hS.row_rd hs0) (hS.row_blk hs0)) hm159) ?_
    rintro e w ⟨rfl, hN⟩; refine ⟨_, rfl, ?_⟩; have hB := hN.pure; have hS := hS.join hN; clear hN
    refine wpS_quick 2 rfl ?_
    refine wpS_put rfl rfl rfl (yv_eql rfl rfl) ?_
    refine wpS_put rfl rfl rfl (yv_neqB (by kernel_rfl) rfl rfl) ?_
    refine wpS_quick 1 rfl ?_
    refine wpS_nil ?_
    refine QH_seq_k hK155 ?_
    refine wpC_cond rfl (fun hb => ?_) (fun hb => ?_)
    · replace H := cond_t H hb
      refine wpC_seq_k (fun K hK161 => ?_)
      refine wpC_region ?_
      refine wpS_quick 1 rfl ?_
      refine wpS_nil ?_
      refine QH_seq_k hK161 ?_
      refine wpC_ret ?_
      refine QH_then_ret ?_
      refine QH_ret rfl (RV.tmp rfl RV.nil) rfl ?_
      obtain rfl := Option.some.inj H
      replace hS := hS.cut 0
      exact ⟨rfl, hS⟩
    replace H := cond_f H hb
    refine wpC_skip ?_
    refine QH_seq_k hK154 ?_
    refine wpC_seq_k (fun K hK163 => ?_)
    refine wpC_region ?_
    refine wpS_quick 1 rfl ?_
    refine wpS_put rfl rfl rfl (yv_neq rfl rfl) ?_
    refine wpS_quick 1 rfl ?_
    refine wpS_case 85 rfl (fun hb => ?_) (fun hb => ?_)
    · replace H := cond_t H hb
      refine wpS_quick 6 rfl ?_
      refine wpS_put rfl rfl rfl (yv_eql rfl rfl) ?_
      refine wpS_quick 1 rfl ?_
      refine wpS_put rfl rfl rfl (yv_geq rfl rfl) ?_
      refine wpS_quick 1 rfl ?_
      refine wpS_case 95 rfl (fun hb => ?_) (fun hb => ?_)
      rotate_left
      · replace H := cond_f H hb
        refine wpS_quick 3 rfl ?_
        refine wpS_put rfl rfl rfl (yv_eqlB (by kernel_rfl) rfl rfl) ?_
        refine wpS_quick 2 rfl ?_
        refine wpS_case 101 rfl (fun hb => ?_) (fun hb => ?_)
        rotate_left
        · replace H := cond_f H hb
          refine wpS_quick 3 rfl ?_
          refine wpS_nil ?_
          refine QH_seq_k hK163 ?_
          refine wpC_ret ?_
          refine QH_ret rfl (RV.tmp rfl RV.nil) rfl ?_
          obtain rfl := Option.some.inj H
          replace hS := hS.cut 0
          exact ⟨rfl, hS⟩
        replace H := cond_t H hb
        obtain ⟨r172, hm173, H⟩ := bind_some H
        refine wpS_call rfl rfl rfl rfl (by kernel_rfl) rfl (c_law07_wakes _ (SlI.of_rd hT_.k (hS.rd0 hT_.rd) (hS.blk0 hT_.blk)) hm173) ?_
        rintro e w ⟨rfl, hN⟩; refine ⟨_, rfl, ?_⟩; have hB := hN.pure; have hS := hS.join hN; clear hN
        refine wpS_quick 2 rfl ?_
        refine wpS_nil ?_
        refine QH_seq_k hK163 ?_
        refine wpC_ret ?_
        refine QH_ret rfl (RV.tmp rfl RV.nil) rfl ?_
        obtain rfl := Option.some.inj H
        replace hS := hS.cut 0
        exact ⟨rfl, hS⟩
      replace H := cond_t H hb
      refine wpS_quick 1 rfl ?_
      refine wpS_put rfl rfl rfl (yv_leq rfl rfl) ?_
      refine wpS_quick 1 rfl ?_
      refine wpS_put rfl rfl rfl (yv_eqlB (by kernel_rfl) rfl rfl) ?_
      refine wpS_quick 2 rfl ?_
      refine wpS_case 101 rfl (fun hb => ?_) (fun hb => ?_)
      rotate_left
      · replace H := cond_f H hb
        refine wpS_quick 3 rfl ?_
        refine wpS_nil ?_
        refine QH_seq_k hK163 ?_
        refine wpC_ret ?_
        refine QH_ret rfl (RV.tmp rfl RV.nil) rfl ?_
        obtain rfl := Option.some.inj H
        replace hS := hS.cut 0
        exact ⟨rfl, hS⟩
      replace H := cond_t H hb
      obtain ⟨r167, hm168, H⟩ := bind_some H
      refine wpS_call rfl rfl rfl rfl (by kernel_rfl) rfl (c_law07_wakes _ (SlI.of_rd hT_.k (hS.rd0 hT_.rd) (hS.blk0 hT_.blk)) hm168) ?_
      rintro e w ⟨rfl, hN⟩; refine ⟨_, rfl, ?_⟩; have hB := hN.pure; have hS := hS.join hN; clear hN
      refine wpS_quick 2 rfl ?_
      refine wpS_nil ?_
      refine QH_seq_k hK163 ?_
      refine wpC_ret ?_
      refine QH_ret rfl (RV.tmp rfl RV.nil) rfl ?_
      obtain rfl := Option.some.inj H
      replace hS := hS.cut 0
      exact ⟨rfl, hS⟩
    replace H := cond_f H hb
    refine wpS_quick 1 rfl ?_
    refine wpS_put rfl rfl rfl (yv_len el_23 rfl) ?_
    refine wpS_put rfl rfl rfl (yv_eql rfl rfl) ?_
    refine wpS_quick 2 rfl ?_
    refine wpS_case 90 rfl (fun hb => ?_) (fun hb => ?_)
    rotate_left
    · replace H := cond_f H hb
      refine wpS_quick 14 rfl ?_
      refine wpS_nil ?_
      refine QH_seq_k hK163 ?_
      refine wpC_ret ?_
      refine QH_ret rfl (RV.tmp rfl RV.nil) rfl ?_
      obtain rfl := Option.some.inj H
      replace hS := hS.cut 0
      exact ⟨rfl, hS⟩
    replace H := cond_t H hb
    refine wpS_quick 1 rfl ?_
    refine wpS_put rfl rfl rfl (yv_eql rfl rfl) ?_
    refine wpS_quick 1 rfl ?_
    refine wpS_put rfl rfl rfl (yv_geq rfl rfl) ?_
    refine wpS_quick 1 rfl ?_
    refine wpS_case 95 rfl (fun hb => ?_) (fun hb => ?_)
    rotate_left
    · replace H := cond_f H hb
      refine wpS_quick 3 rfl ?_
      refine wpS_put rfl rfl rfl (yv_eqlB (by kernel_rfl) rfl rfl) ?_
      refine wpS_quick 2 rfl ?_
      refine wpS_case 101 rfl (fun hb => ?_) (fun hb => ?_)
      rotate_left
      · replace H := cond_f H hb
        refine wpS_quick 3 rfl ?_
        refine wpS_nil ?_
        refine QH_seq_k hK163 ?_
        refine wpC_ret ?_
        refine QH_ret rfl (RV.tmp rfl RV.nil) rfl ?_
        obtain rfl := Option.some.inj H
        replace hS := hS.cut 0
        exact ⟨rfl, hS⟩
      replace H := cond_t H hb
      obtain ⟨r184, hm185, H⟩ := bind_some H
      refine wpS_call rfl rfl rfl rfl (by kernel_rfl) rfl (c_law07_wakes _ (SlI.of_rd hT_.k (hS.rd0 hT_.rd) (hS.blk0 hT_.blk)) hm185) ?_
      rintro e w ⟨rfl, hN⟩; refine ⟨_, rfl, ?_⟩; have hB := hN.pure; have hS := hS.join hN; clear hN
      refine wpS_quick 2 rfl ?_
      refine wpS_nil ?_
      refine QH_seq_k hK163 ?_
      refine wpC_ret ?_
      refine QH_ret rfl (RV.tmp rfl RV.nil) rfl ?_
      obtain rfl := Option.some.inj H
      replace hS := hS.cut 0
      exact ⟨rfl, hS⟩
    replace H := cond_t H hb
    refine wpS_quick 1 rfl ?_
    refine wpS_put rfl rfl rfl (yv_leq rfl rfl) ?_
    refine wpS_quick 1 rfl ?_
    refine wpS_put rfl rfl rfl (yv_eqlB (by kernel_rfl) rfl rfl) ?_
    refine wpS_quick 2 rfl ?_
    refine wpS_case 101 rfl (fun hb => ?_) (fun hb => ?_)
    rotate_left
    · replace H := cond_f H hb
      refine wpS_quick 3 rfl ?_
      refine wpS_nil ?_
      refine QH_seq_k hK163 ?_
      refine wpC_ret ?_
      refine QH_ret rfl (RV.tmp rfl RV.nil) rfl ?_
      obtain rfl := Option.some.inj H
      replace hS := hS.cut 0
      exact ⟨rfl, hS⟩
    replace H := cond_t H hb
    obtain ⟨r179, hm180, H⟩ := bind_some H
    refine wpS_call rfl rfl rfl rfl (by kernel_rfl) rfl (c_law07_wakes _ (SlI.of_rd hT_.k (hS.rd0 hT_.rd) (hS.blk0 hT_.blk)) hm180) ?_
    rintro e w ⟨rfl, hN⟩; refine ⟨_, rfl, ?_⟩; have hB := hN.pure; have hS := hS.join hN; clear hN
    refine wpS_quick 2 rfl ?_
    refine wpS_nil ?_
    refine QH_seq_k hK163 ?_
    refine wpC_ret ?_
    refine QH_ret rfl (RV.tmp rfl RV.nil) rfl ?_
    obtain rfl := Option.some.inj H
    replace hS := hS.cut 0
    exact ⟨rfl, hS⟩
  replace H := cond_t H hb
  refine wpR_batch [false, false, false, false, false, false, false, true, true, false, true, true, true] (by decide +kernel) (by repeat (first | exact PF.body | exact PF.round | apply PF.then | apply PF.inBlock | apply PF.jump)) ?_
  refine LtK.put rfl rfl rfl (yv_move rfl) ?_
  refine LtK.put rfl rfl rfl (yv_move rfl) ?_
  refine LtK.put rfl rfl rfl (yv_load_boxA ag_40 rfl (RW.below _) hS hs7 trivial sg0_3) ?_
  refine LtK.put rfl rfl rfl (yv_load_boxA ag_40 rfl (RW.below _) hS hs6 trivial sg0_3) ?_
  refine LtK.put rfl rfl rfl (yv_eqlS (by kernel_rfl) rfl rfl (eqT_40 _ _ _ _ _ _)) ?_
  refine LtK.nil ?_
  refine wpR_call [false, false, false, false, false, false, false, false, false, true] 9 ⟨by decide, by kernel_rfl, by kernel_rfl⟩ rfl rfl ?_
  try dsimp only [pickL]
  obtain ⟨r42, hm43, H⟩ := bind_some H
  refine wpS_call rfl rfl rfl rfl (by kernel_rfl) rfl (c_law07_same r9.1 r18.1 A11 c12 A20 c21 _ (SlI.of_rd k13 (hS.row_rd hs4) (hS.row_blk hs4)) (SlI.of_rd k22 (hS.row_rd hs2) (hS.row_blk hs2)) hm43) ?_
  rintro e w ⟨rfl, hN⟩; refine ⟨_, rfl, ?_⟩; have hB := hN.pure; have hS := hS.join hN; clear hN
  refine wpS_nil ?_
  refine QH_step hB ?_
  refine wpR_batch [false, false, false, false, false, false, false, false, false, false, false, false, false, true, true, true] (by decide +kernel) (by repeat (first | exact PF.body | exact PF.round | apply PF.then | apply PF.inBlock | apply PF.jump)) ?_
  refine LtK.put rfl rfl rfl (yv_neqB (by kernel_rfl) rfl rfl) ?_
  refine LtK.put rfl rfl rfl (yv_pick_t rfl rfl rfl) ?_
  refine LtK.put rfl rfl rfl (yv_move rfl) ?_
  refine LtK.nil ?_
  refine wpR_case 54 rfl (fun hb => ?_) (fun hb => ?_)
  · replace H := cond_t H hb
    refine wpR_batch [false, false, false, false, false, false, false, false, false, false, false, false, false, false, false, false, true, true, true] (by decide +kernel) (by repeat (first | exact PF.body | exact PF.round | apply PF.then | apply PF.inBlock | apply PF.jump)) ?_
    refine LtK.skip rfl rfl rfl ?_
    refine LtK.skip rfl rfl rfl ?_
    refine LtK.skip rfl rfl rfl ?_
    refine LtK.nil ?_
    refine wpR_call [false, false, false, false, false, false, false, false, false, false, false, false, false, false, false, false, false, false, false, true] 19 ⟨by decide, by kernel_rfl, by kernel_rfl⟩ rfl rfl ?_
    try dsimp only [pickL]
    refine wpS_skip rfl rfl rfl ?_
    refine wpS_nil ?_
    refine QH_step (Below.refl _ _) ?_
    refine wpR_batch [false, false, false, false, false, false, false, false, false, false, false, false, false, false, false, false, false, false, false, false, true, true, true, true, true, true] (by decide +kernel) (by repeat (first | exact PF.body | exact PF.round | apply PF.then | apply PF.inBlock | apply PF.jump)) ?_
    refine LtK.skip rfl rfl rfl ?_
    refine LtK.put rfl rfl rfl (yv_pick_t rfl rfl rfl) ?_
    refine LtK.put rfl rfl rfl (yv_move rfl) ?_
    refine LtK.skip rfl rfl rfl ?_
    refine LtK.skip rfl rfl rfl ?_
    refine LtK.skip rfl rfl rfl ?_
    refine LtK.nil ?_
    refine wpR_call [false, false, false, false, false, false, false, false, false, false, false, false, false, false, false, false, false, false, false, false, false, false, false, false, false, false, true] 26 ⟨by decide, by kernel_rfl, by kernel_rfl⟩ rfl rfl ?_
    try dsimp only [pickL]
    refine wpS_skip rfl rfl rfl ?_
    refine wpS_nil ?_
    refine QH_step (Below.refl _ _) ?_
    refine wpR_batch [false, false, false, false, false, false, false, false, false, false, false, false, false, false, false, false, false, false, false, false, false, false, false, false, false, false, false, true, true] (by decide +kernel) (by repeat (first | exact PF.body | exact PF.round | apply PF.then | apply PF.inBlock | apply PF.jump)) ?_
    refine LtK.skip rfl rfl rfl ?_
    refine LtK.put rfl rfl rfl (yv_pick_t rfl rfl rfl) ?_
    refine LtK.nil ?_
    refine wpR_end (by kernel_rfl) ?_
    refine QH_seq_k hK39 ?_
    refine wpC_cond_t rfl rfl ?_
    refine wpC_seq_k (fun K hK45 => ?_)
    refine wpC_region ?_
    refine wpS_quick 1 rfl ?_
    refine wpS_nil ?_
    refine QH_seq_k hK45 ?_
    refine wpC_ret ?_
    refine QH_then_ret ?_
    refine QH_ret rfl (RV.tmp rfl RV.nil) rfl ?_
    obtain rfl := Option.some.inj H
    replace hS := hS.cut 0
    exact ⟨rfl, hS⟩
  replace H := cond_f H hb
  refine wpR_batch [false, false, false, false, false, false, false, false, false, false, false, false, false, false, false, false, true, true, true] (by decide +kernel) (by repeat (first | exact PF.body | exact PF.round | apply PF.then | apply PF.inBlock | apply PF.jump)) ?_
  refine LtK.put rfl rfl rfl (yv_move rfl) ?_
  refine LtK.put rfl rfl rfl (yv_eql rfl rfl) ?_
  refine LtK.put rfl rfl rfl (yv_load_boxA ag_40 rfl (RW.below _) hS hs7 trivial sg0_3) ?_
  refine LtK.nil ?_
  refine wpR_call [false, false, false, false, false, false, false, false, false, false, false, false, false, false, false, false, false, false, false, true] 19 ⟨by decide, by kernel_rfl, by kernel_rfl⟩ rfl rfl ?_
  try dsimp only [pickL]
  obtain ⟨r47, hm48, H⟩ := bind_some H
  refine wpS_call rfl rfl rfl rfl (by kernel_rfl) rfl (c_ref06_Right x0 _ hm48) ?_
  rintro e w ⟨rfl, hN⟩; refine ⟨_, rfl, ?_⟩; have hB := hN.pure; have hS := hS.join hN; clear hN
  refine wpS_nil ?_
  refine QH_step hB ?_
  refine wpR_batch [false, false, false, false, false, false, false, false, false, false, false, false, false, false, false, false, false, false, false, false, true, true, true] (by decide +kernel) (by repeat (first | exact PF.body | exact PF.round | apply PF.then | apply PF.inBlock | apply PF.jump)) ?_
  refine LtK.put rfl rfl rfl (yv_neqB (by kernel_rfl) rfl rfl) ?_
  refine LtK.put rfl rfl rfl (yv_pick_f rfl rfl rfl) ?_
  refine LtK.put rfl rfl rfl (yv_move rfl) ?_
  refine LtK.nil ?_
  refine wpR_case 61 rfl (fun hb => ?_) (fun hb => ?_)
  · replace H := cond_t H hb
    refine wpR_batch [false, false, false, false, false, false, false, false, false, false, false, false, false, false, false, false, false, false, false, false, false, false, false, true, true, true] (by decide +kernel) (by repeat (first | exact PF.body | exact PF.round | apply PF.then | apply PF.inBlock | apply PF.jump)) ?_
    refine LtK.skip rfl rfl rfl ?_
    refine LtK.skip rfl rfl rfl ?_
    refine LtK.skip rfl rfl rfl ?_
    refine LtK.nil ?_
    refine wpR_call [false, false, false, false, false, false, false, false, false, false, false, false, false, false, false, false, false, false, false, false, false, false, false, false, false, false, true] 26 ⟨by decide, by kernel_rfl, by kernel_rfl⟩ rfl rfl ?_
    try dsimp only [pickL]
    refine wpS_skip rfl rfl rfl ?_
    refine wpS_nil ?_
    refine QH_step (Below.refl _ _) ?_
    refine wpR_batch [false, false, false, false, false, false, false, false, false, false, false, false, false, false, false, false, false, false, false, false, false, false, false, false, false, false, false, true, true] (by decide +kernel) (by repeat (first | exact PF.body | exact PF.round | apply PF.then | apply PF.inBlock | apply PF.jump)) ?_
    refine LtK.skip rfl rfl rfl ?_
    refine LtK.put rfl rfl rfl (yv_pick_t rfl rfl rfl) ?_
    refine LtK.nil ?_
    refine wpR_end (by kernel_rfl) ?_
    refine QH_seq_k hK39 ?_
    refine wpC_cond_t rfl rfl ?_
    refine wpC_seq_k (fun K hK50 => ?_)
    refine wpC_region ?_
    refine wpS_quick 1 rfl ?_
    refine wpS_nil ?_
    refine QH_seq_k hK50 ?_
    refine wpC_ret ?_
    refine QH_then_ret ?_
    refine QH_ret rfl (RV.tmp rfl RV.nil) rfl ?_
    obtain rfl := Option.some.inj H
    replace hS := hS.cut 0
    exact ⟨rfl, hS⟩
  replace H := cond_f H hb
  refine wpR_batch [false, false, false, false, false, false, false, false, false, false, false, false, false, false, false, false, false, false, false, false, false, false, false, true, true, true] (by decide +kernel) (by repeat (first | exact PF.body | exact PF.round | apply PF.then | apply PF.inBlock | apply PF.jump)) ?_
  refine LtK.put rfl rfl rfl (yv_move rfl) ?_
  refine LtK.put rfl rfl rfl (yv_eql rfl rfl) ?_
  refine LtK.put rfl rfl rfl (yv_load_boxA ag_40 rfl (RW.below _) hS hs6 trivial sg0_3) ?_
  refine LtK.nil ?_
  refine wpR_call [false, false, false, false, false, false, false, false, false, false, false, false, false, false, false, false, false, false, false, false, false, false, false, false, false, false, true] 26 ⟨by decide, by kernel_rfl, by kernel_rfl⟩ rfl rfl ?_
  try dsimp only [pickL]
  obtain ⟨r52, hm53, H⟩ := bind_some H
  refine wpS_call rfl rfl rfl rfl (by kernel_rfl) rfl (c_ref06_Right x1 _ hm53) ?_
  rintro e w ⟨rfl, hN⟩; refine ⟨_, rfl, ?_⟩; have hB := hN.pure; have hS := hS.join hN; clear hN
  refine wpS_nil ?_
  refine QH_step hB ?_
  refine wpR_batch [false, false, false, false, false, false, false, false, false, false, false, false, false, false, false, false, false, false, false, false, false, false, false, false, false, false, false, true, true] (by decide +kernel) (by repeat (first | exact PF.body | exact PF.round | apply PF.then | apply PF.inBlock | apply PF.jump)) ?_
  refine LtK.put rfl rfl rfl (yv_neqB (by kernel_rfl) rfl rfl) ?_
  refine LtK.put rfl rfl rfl (yv_pick_f rfl rfl rfl) ?_
  refine LtK.nil ?_
  refine wpR_end (by kernel_rfl) ?_
  refine QH_seq_k hK39 ?_
  refine wpC_cond rfl (fun hb => ?_) (fun hb => ?_)
  · replace H := cond_t H hb
    refine wpC_seq_k (fun K hK55 => ?_)
    refine wpC_region ?_
    refine wpS_quick 1 rfl ?_
    refine wpS_nil ?_
    refine QH_seq_k hK55 ?_
    refine wpC_ret ?_
    refine QH_then_ret ?_
    refine QH_ret rfl (RV.tmp rfl RV.nil) rfl ?_
    obtain rfl := Option.some.inj H
    replace hS := hS.cut 0
    exact ⟨rfl, hS⟩
  replace H := cond_f H hb
  refine wpC_skip ?_
  refine QH_seq_k hK38 ?_
  refine wpC_seq_k (fun K hK57 => ?_)
  refine wpC_seq_k (fun K hK58 => ?_)
  refine wpC_region ?_
  refine wpS_quick 1 rfl ?_
  refine wpS_put rfl rfl rfl (yv_eql rfl rfl) ?_
  refine wpS_quick 1 rfl ?_
  refine wpS_case 70 rfl (fun hb => ?_) (fun hb => ?_)
  rotate_left
  · replace H := cond_f H hb
    refine wpS_quick 12 rfl ?_
    refine wpS_nil ?_
    refine QH_seq_k hK58 ?_
    refine wpC_cond_f rfl rfl ?_
    refine wpC_skip ?_
    refine QH_seq_k hK57 ?_
    refine wpC_seq_k (fun K hK118 => ?_)
    refine wpC_region ?_
    refine wpS_quick 1 rfl ?_
    refine wpS_put rfl rfl rfl (yv_neq rfl rfl) ?_
    refine wpS_quick 1 rfl ?_
    refine wpS_case 85 rfl (fun hb => ?_) (fun hb => ?_)
    · replace H := cond_t H hb
      refine wpS_quick 6 rfl ?_
      refine wpS_put rfl rfl rfl (yv_eql rfl rfl) ?_
      refine wpS_quick 1 rfl ?_
      refine wpS_put rfl rfl rfl (yv_geq rfl rfl) ?_
      refine wpS_quick 1 rfl ?_
      refine wpS_case 95 rfl (fun hb => ?_) (fun hb => ?_)
      rotate_left
      · replace H := cond_f H hb
        refine wpS_quick 3 rfl ?_
        refine wpS_put rfl rfl rfl (yv_eqlB (by kernel_rfl) rfl rfl) ?_
        refine wpS_quick 2 rfl ?_
        refine wpS_case 101 rfl (fun hb => ?_) (fun hb => ?_)
        rotate_left
        · replace H := cond_f H hb
          refine wpS_quick 3 rfl ?_
          refine wpS_nil ?_
          refine QH_seq_k hK118 ?_
          refine wpC_ret ?_
          refine QH_ret rfl (RV.tmp rfl RV.nil) rfl ?_
          obtain rfl := Option.some.inj H
          replace hS := hS.cut 0
          exact ⟨rfl, hS⟩
        replace H := cond_t H hb
        obtain ⟨r127, hm128, H⟩ := bind_some H
        refine wpS_call rfl rfl rfl rfl (by kernel_rfl) rfl (c_law07_wakes _ (SlI.of_rd hT_.k (hS.rd0 hT_.rd) (hS.blk0 hT_.blk)) hm128) ?_
        rintro e w ⟨rfl, hN⟩; refine ⟨_, rfl, ?_⟩; have hB := hN.pure; have hS := hS.join hN; clear hN
        refine wpS_quick 2 rfl ?_
        refine wpS_nil ?_
        refine QH_seq_k hK118 ?_
        refine wpC_ret ?_
        refine QH_ret rfl (RV.tmp rfl RV.nil) rfl ?_
        obtain rfl := Option.some.inj H
        replace hS := hS.cut 0
        exact ⟨rfl, hS⟩
      replace H := cond_t H hb
      refine wpS_quick 1 rfl ?_
      refine wpS_put rfl rfl rfl (yv_leq rfl rfl) ?_
      refine wpS_quick 1 rfl ?_
      refine wpS_put rfl rfl rfl (yv_eqlB (by kernel_rfl) rfl rfl) ?_
      refine wpS_quick 2 rfl ?_
      refine wpS_case 101 rfl (fun hb => ?_) (fun hb => ?_)
      rotate_left
      · replace H := cond_f H hb
        refine wpS_quick 3 rfl ?_
        refine wpS_nil ?_
        refine QH_seq_k hK118 ?_
        refine wpC_ret ?_
        refine QH_ret rfl (RV.tmp rfl RV.nil) rfl ?_
        obtain rfl := Option.some.inj H
        replace hS := hS.cut 0
        exact ⟨rfl, hS⟩
      replace H := cond_t H hb
      obtain ⟨r122, hm123, H⟩ := bind_some H
      refine wpS_call rfl rfl rfl rfl (by kernel_rfl) rfl (c_law07_wakes _ (SlI.of_rd hT_.k (hS.rd0 hT_.rd) (hS.blk0 hT_.blk)) hm123) ?_
      rintro e w ⟨rfl, hN⟩; refine ⟨_, rfl, ?_⟩; have hB := hN.pure; have hS := hS.join hN; clear hN
      refine wpS_quick 2 rfl ?_
      refine wpS_nil ?_
      refine QH_seq_k hK118 ?_
      refine wpC_ret ?_
      refine QH_ret rfl (RV.tmp rfl RV.nil) rfl ?_
      obtain rfl := Option.some.inj H
      replace hS := hS.cut 0
      exact ⟨rfl, hS⟩
    replace H := cond_f H hb
    refine wpS_quick 1 rfl ?_
    refine wpS_put rfl rfl rfl (yv_len el_23 rfl) ?_
    refine wpS_put rfl rfl rfl (yv_eql rfl rfl) ?_
    refine wpS_quick 2 rfl ?_
    refine wpS_case 90 rfl (fun hb => ?_) (fun hb => ?_)
    rotate_left
    · replace H := cond_f H hb
      refine wpS_quick 14 rfl ?_
      refine wpS_nil ?_
      refine QH_seq_k hK118 ?_
      refine wpC_ret ?_
      refine QH_ret rfl (RV.tmp rfl RV.nil) rfl ?_
      obtain rfl := Option.some.inj H
      replace hS := hS.cut 0
      exact ⟨rfl, hS⟩
    replace H := cond_t H hb
    refine wpS_quick 1 rfl ?_
    refine wpS_put rfl rfl rfl (yv_eql rfl rfl) ?_
    refine wpS_quick 1 rfl ?_
    refine wpS_put rfl rfl rfl (yv_geq rfl rfl) ?_
    refine wpS_quick 1 rfl ?_
    refine wpS_case 95 rfl (fun hb => ?_) (fun hb => ?_)
    rotate_left
    · replace H := cond_f H hb
      refine wpS_quick 3 rfl ?_
      refine wpS_put rfl rfl rfl (yv_eqlB (by kernel_rfl) rfl rfl) ?_
      refine wpS_quick 2 rfl ?_
      refine wpS_case 101 rfl (fun hb => ?_) (fun hb => ?_)
      rotate_left
      · replace H := cond_f H hb
        refine wpS_quick 3 rfl ?_
        refine wpS_nil ?_
        refine QH_seq_k hK118 ?_
        refine wpC_ret ?_
        refine QH_ret rfl (RV.tmp rfl RV.nil) rfl ?_
        obtain rfl := Option.some.inj H
        replace hS := hS.cut 0
        exact ⟨rfl, hS⟩
      replace H := cond_t H hb
      obtain ⟨r139, hm140, H⟩ := bind_some H
      refine wpS_call rfl rfl rfl rfl (by kernel_rfl) rfl (c_law07_wakes _ (SlI.of_rd hT_.k (hS.rd0 hT_.rd) (hS.blk0 hT_.blk)) hm140) ?_
      rintro e w ⟨rfl, hN⟩; refine ⟨_, rfl, ?_⟩; have hB := hN.pure; have hS := hS.join hN; clear hN
      refine wpS_quick 2 rfl ?_
      refine wpS_nil ?_
      refine QH_seq_k hK118 ?_
      refine wpC_ret ?_
      refine QH_ret rfl (RV.tmp rfl RV.nil) rfl ?_
      obtain rfl := Option.some.inj H
      replace hS := hS.cut 0
      exact ⟨rfl, hS⟩
    replace H := cond_t H hb
    refine wpS_quick 1 rfl ?_
    refine wpS_put rfl rfl rfl (yv_leq rfl rfl) ?_
    refine wpS_quick 1 rfl ?_
    refine wpS_put rfl rfl rfl (yv_eqlB (by kernel_rfl) rfl rfl) ?_
    refine wpS_quick 2 rfl ?_
    refine wpS_case 101 rfl (fun hb => ?_) (fun hb => ?_)
    rotate_left
    · replace H := cond_f H hb
      refine wpS_quick 3 rfl ?_
      refine wpS_nil ?_
      refine QH_seq_k hK118 ?_
      refine wpC_ret ?_
      refine QH_ret rfl (RV.tmp rfl RV.nil) rfl ?_
      obtain rfl := Option.some.inj H
      replace hS := hS.cut 0
      exact ⟨rfl, hS⟩
    replace H := cond_t H hb
    obtain ⟨r134, hm135, H⟩ := bind_some H
    refine wpS_call rfl rfl rfl rfl (by kernel_rfl) rfl (c_law07_wakes _ (SlI.of_rd hT_.k (hS.rd0 hT_.rd) (hS.blk0 hT_.blk)) hm135) ?_
    rintro e w ⟨rfl, hN⟩; refine ⟨_, rfl, ?_⟩; have hB := hN.pure; have hS := hS.join hN; clear hN
    refine wpS_quick 2 rfl ?_
    refine wpS_nil ?_
    refine QH_seq_k hK118 ?_
    refine wpC_ret ?_
    refine QH_ret rfl (RV.tmp rfl RV.nil) rfl ?_
    obtain rfl := Option.some.inj H
    replace hS := hS.cut 0
    exact ⟨rfl, hS⟩
  replace H := cond_t H hb
  refine wpS_quick 1 rfl ?_
  refine wpS_put rfl rfl rfl (yv_eql rfl rfl) ?_
  refine wpS_quick 2 rfl ?_
  refine wpS_case 74 rfl (fun hb => ?_) (fun hb => ?_)
  rotate_left
  · replace H := cond_f H hb
    refine wpS_quick 8 rfl ?_
    refine wpS_nil ?_
    refine QH_seq_k hK58 ?_
    refine wpC_cond_f rfl rfl ?_
    refine wpC_skip ?_
    refine QH_seq_k hK57 ?_
    refine wpC_seq_k (fun K hK92 => ?_)
    refine wpC_region ?_
    refine wpS_quick 1 rfl ?_
    refine wpS_put rfl rfl rfl (yv_neq rfl rfl) ?_
    refine wpS_quick 1 rfl ?_
    refine wpS_case 85 rfl (fun hb => ?_) (fun hb => ?_)
    · replace H := cond_t H hb
      refine wpS_quick 6 rfl ?_
      refine wpS_put rfl rfl rfl (yv_eql rfl rfl) ?_
      refine wpS_quick 1 rfl ?_
      refine wpS_put rfl rfl rfl (yv_geq rfl rfl) ?_
      refine wpS_quick 1 rfl ?_
      refine wpS_case 95 rfl (fun hb => ?_) (fun hb => ?_)
      rotate_left
      · replace H := cond_f H hb
        refine wpS_quick 3 rfl ?_
        refine wpS_put rfl rfl rfl (yv_eqlB (by kernel_rfl) rfl rfl) ?_
        refine wpS_quick 2 rfl ?_
        refine wpS_case 101 rfl (fun hb => ?_) (fun hb => ?_)
        rotate_left
        · replace H := cond_f H hb
          refine wpS_quick 3 rfl ?_
          refine wpS_nil ?_
          refine QH_seq_k hK92 ?_
          refine wpC_ret ?_
          refine QH_ret rfl (RV.tmp rfl RV.nil) rfl ?_
          obtain rfl := Option.some.inj H
          replace hS := hS.cut 0
          exact ⟨rfl, hS⟩
        replace H := cond_t H hb
        obtain ⟨r101, hm102, H⟩ := bind_some H
        refine wpS_call rfl rfl rfl rfl (by kernel_rfl) rfl (c_law07_wakes _ (SlI.of_rd hT_.k (hS.rd0 hT_.rd) (hS.blk0 hT_.blk)) hm102) ?_
        rintro e w ⟨rfl, hN⟩; refine ⟨_, rfl, ?_⟩; have hB := hN.pure; have hS := hS.join hN; clear hN
        refine wpS_quick 2 rfl ?_
        refine wpS_nil ?_
        refine QH_seq_k hK92 ?_
        refine wpC_ret ?_
        refine QH_ret rfl (RV.tmp rfl RV.nil) rfl ?_
        obtain rfl := Option.some.inj H
        replace hS := hS.cut 0
        exact ⟨rfl, hS⟩
      replace H := cond_t H hb
      refine wpS_quick 1 rfl ?_
      refine wpS_put rfl rfl rfl (yv_leq rfl rfl) ?_
      refine wpS_quick 1 rfl ?_
      refine wpS_put rfl rfl rfl (yv_eqlB (by kernel_rfl) rfl rfl) ?_
      refine wpS_quick 2 rfl ?_
      refine wpS_case 101 rfl (fun hb => ?_) (fun hb => ?_)
      rotate_left
      · replace H := cond_f H hb
        refine wpS_quick 3 rfl ?_
        refine wpS_nil ?_
        refine QH_seq_k hK92 ?_
        refine wpC_ret ?_
        refine QH_ret rfl (RV.tmp rfl RV.nil) rfl ?_
        obtain rfl := Option.some.inj H
        replace hS := hS.cut 0
        exact ⟨rfl, hS⟩
      replace H := cond_t H hb
      obtain ⟨r96, hm97, H⟩ := bind_some H
      refine wpS_call rfl rfl rfl rfl (by kernel_rfl) rfl (c_law07_wakes _ (SlI.of_rd hT_.k (hS.rd0 hT_.rd) (hS.blk0 hT_.blk)) hm97) ?_
      rintro e w ⟨rfl, hN⟩; refine ⟨_, rfl, ?_⟩; have hB := hN.pure; have hS := hS.join hN; clear hN
      refine wpS_quick 2 rfl ?_
      refine wpS_nil ?_
      refine QH_seq_k hK92 ?_
      refine wpC_ret ?_
      refine QH_ret rfl (RV.tmp rfl RV.nil) rfl ?_
      obtain rfl := Option.some.inj H
      replace hS := hS.cut 0
      exact ⟨rfl, hS⟩
    replace H := cond_f H hb
    refine wpS_quick 1 rfl ?_
    refine wpS_put rfl rfl rfl (yv_len el_23 rfl) ?_
    refine wpS_put rfl rfl rfl (yv_eql rfl rfl) ?_
    refine wpS_quick 2 rfl ?_
    refine wpS_case 90 rfl (fun hb => ?_) (fun hb => ?_)
    rotate_left
    · replace H := cond_f H hb
      refine wpS_quick 14 rfl ?_
      refine wpS_nil ?_
      refine QH_seq_k hK92 ?_
      refine wpC_ret ?_
      refine QH_ret rfl (RV.tmp rfl RV.nil) rfl ?_
      obtain rfl := Option.some.inj H
      replace hS := hS.cut 0
      exact ⟨rfl, hS⟩
    replace H := cond_t H hb
    refine wpS_quick 1 rfl ?_
    refine wpS_put rfl rfl rfl (yv_eql rfl rfl) ?_
    refine wpS_quick 1 rfl ?_
    refine wpS_put rfl rfl rfl (yv_geq rfl rfl) ?_
    refine wpS_quick 1 rfl ?_
    refine wpS_case 95 rfl (fun hb => ?_) (fun hb => ?_)
    rotate_left
    · replace H := cond_f H hb
      refine wpS_quick 3 rfl ?_
      refine wpS_put rfl rfl rfl (yv_eqlB (by kernel_rfl) rfl rfl) ?_
      refine wpS_quick 2 rfl ?_
      refine wpS_case 101 rfl (fun hb => ?_) (fun hb => ?_)
      rotate_left
      · replace H := cond_f H hb
        refine wpS_quick 3 rfl ?_
        refine wpS_nil ?_
        refine QH_seq_k hK92 ?_
        refine wpC_ret ?_
        refine QH_ret rfl (RV.tmp rfl RV.nil) rfl ?_
        obtain rfl := Option.some.inj H
        replace hS := hS.cut 0
        exact ⟨rfl, hS⟩
      replace H := cond_t H hb
      obtain ⟨r113, hm114, H⟩ := bind_some H
      refine wpS_call rfl rfl rfl rfl (by kernel_rfl) rfl (c_law07_wakes _ (SlI.of_rd hT_.k (hS.rd0 hT_.rd) (hS.blk0 hT_.blk)) hm114) ?_
      rintro e w ⟨rfl, hN⟩; refine ⟨_, rfl, ?_⟩; have hB := hN.pure; have hS := hS.join hN; clear hN
      refine wpS_quick 2 rfl ?_
      refine wpS_nil ?_
      refine QH_seq_k hK92 ?_
      refine wpC_ret ?_
      refine QH_ret rfl (RV.tmp rfl RV.nil) rfl ?_
      obtain rfl := Option.some.inj H
      replace hS := hS.cut 0
      exact ⟨rfl, hS⟩
    replace H := cond_t H hb
    refine wpS_quick 1 rfl ?_
    refine wpS_put rfl rfl rfl (yv_leq rfl rfl) ?_
    refine wpS_quick 1 rfl ?_
    refine wpS_put rfl rfl rfl (yv_eqlB (by kernel_rfl) rfl rfl) ?_
    refine wpS_quick 2 rfl ?_
    refine wpS_case 101 rfl (fun hb => ?_) (fun hb => ?_)
    rotate_left
    · replace H := cond_f H hb
      refine wpS_quick 3 rfl ?_
      refine wpS_nil ?_
      refine QH_seq_k hK92 ?_
      refine wpC_ret ?_
      refine QH_ret rfl (RV.tmp rfl RV.nil) rfl ?_
      obtain rfl := Option.some.inj H
      replace hS := hS.cut 0
      exact ⟨rfl, hS⟩
    replace H := cond_t H hb
    obtain ⟨r108, hm109, H⟩ := bind_some H
    refine wpS_call rfl rfl rfl rfl (by kernel_rfl) rfl (c_law07_wakes _ (SlI.of_rd hT_.k (hS.rd0 hT_.rd) (hS.blk0 hT_.blk)) hm109) ?_
    rintro e w ⟨rfl, hN⟩; refine ⟨_, rfl, ?_⟩; have hB := hN.pure; have hS := hS.join hN; clear hN
    refine wpS_quick 2 rfl ?_
    refine wpS_nil ?_
    refine QH_seq_k hK92 ?_
    refine wpC_ret ?_
    refine QH_ret rfl (RV.tmp rfl RV.nil) rfl ?_
    obtain rfl := Option.some.inj H
    replace hS := hS.cut 0
    exact ⟨rfl, hS⟩
  replace H := cond_t H hb
  refine wpS_quick 2 rfl ?_
  obtain ⟨r61, hm62, H⟩ := bind_some H
  refine wpS_call rfl rfl rfl rfl (by kernel_rfl) rfl (c_law07_same r25.1 r32.1 A27 c28 A34 c35 _ (SlI.of_rd k29 (hS.row_rd hs1) (hS.row_blk hs1)) (SlI.of_rd k36 (hS.row_rd hs0) (hS.row_blk hs0)) hm62) ?_
  rintro e w ⟨rfl, hN⟩; refine ⟨_, rfl, ?_⟩; have hB := hN.pure; have hS := hS.join hN; clear hN
  refine wpS_quick 2 rfl ?_
  refine wpS_put rfl rfl rfl (yv_eql rfl rfl) ?_
  refine wpS_put rfl rfl rfl (yv_neqB (by kernel_rfl) rfl rfl) ?_
  refine wpS_quick 1 rfl ?_
  refine wpS_nil ?_
  refine QH_seq_k hK58 ?_
  refine wpC_cond rfl (fun hb => ?_) (fun hb => ?_)
  · replace H := cond_t H hb
    refine wpC_seq_k (fun K hK64 => ?_)
    refine wpC_region ?_
    refine wpS_quick 1 rfl ?_
    refine wpS_nil ?_
    refine QH_seq_k hK64 ?_
    refine wpC_ret ?_
    refine QH_then_ret ?_
    refine QH_ret rfl (RV.tmp rfl RV.nil) rfl ?_
    obtain rfl := Option.some.inj H
    replace hS := hS.cut 0
    exact ⟨rfl, hS⟩
  replace H := cond_f H hb
  refine wpC_skip ?_
  refine QH_seq_k hK57 ?_
  refine wpC_seq_k (fun K hK66 => ?_)
  refine wpC_region ?_
  refine wpS_quick 1 rfl ?_
  refine wpS_put rfl rfl rfl (yv_neq rfl rfl) ?_
  refine wpS_quick 1 rfl ?_
  refine wpS_case 85 rfl (fun hb => ?_) (fun hb => ?_)
  · replace H := cond_t H hb
    refine wpS_quick 6 rfl ?_
    refine wpS_put rfl rfl rfl (yv_eql rfl rfl) ?_
    refine wpS_quick 1 rfl ?_
    refine wpS_put rfl rfl rfl (yv_geq rfl rfl) ?_
    refine wpS_quick 1 rfl ?_
    refine wpS_case 95 rfl (fun hb => ?_) (fun hb => ?_)
    rotate_left
    · replace H := cond_f H hb
      refine wpS_quick 3 rfl ?_
      refine wpS_put rfl rfl rfl (yv_eqlB (by kernel_rfl) rfl rfl) ?_
      refine wpS_quick 2 rfl ?_
      refine wpS_case 101 rfl (fun hb => ?_) (fun hb => ?_)
      rotate_left
      · replace H := cond_f H hb
        refine wpS_quick 3 rfl ?_
        refine wpS_nil ?_
        refine QH_seq_k hK66 ?_
        refine wpC_ret ?_
        refine QH_ret rfl (RV.tmp rfl RV.nil) rfl ?_
        obtain rfl := Option.some.inj H
        replace hS := hS.cut 0
        exact ⟨rfl, hS⟩
      replace H := cond_t H hb
      obtain ⟨r75, hm76, H⟩ := bind_some H
      refine wpS_call rfl rfl rfl rfl (by kernel_rfl) rfl (c_law07_wakes _ (SlI.of_rd hT_.k (hS.rd0 hT_.rd) (hS.blk0 hT_.blk)) hm76) ?_
      rintro e w ⟨rfl, hN⟩; refine ⟨_, rfl, ?_⟩; have hB := hN.pure; have hS := hS.join hN; clear hN
      refine wpS_quick 2 rfl ?_
      refine wpS_nil ?_
      refine QH_seq_k hK66 ?_
      refine wpC_ret ?_
      refine QH_ret rfl (RV.tmp rfl RV.nil) rfl ?_
      obtain rfl := Option.some.inj H
      replace hS := hS.cut 0
      exact ⟨rfl, hS⟩
    replace H := cond_t H hb
    refine wpS_quick 1 rfl ?_
    refine wpS_put rfl rfl rfl (yv_leq rfl rfl) ?_
    refine wpS_quick 1 rfl ?_
    refine wpS_put rfl rfl rfl (yv_eqlB (by kernel_rfl) rfl rfl) ?_
    refine wpS_quick 2 rfl ?_
    refine wpS_case 101 rfl (fun hb => ?_) (fun hb => ?_)
    rotate_left
    · replace H := cond_f H hb
      refine wpS_quick 3 rfl ?_
      refine wpS_nil ?_
      refine QH_seq_k hK66 ?_
      refine wpC_ret ?_
      refine QH_ret rfl (RV.tmp rfl RV.nil) rfl ?_
      obtain rfl := Option.some.inj H
      replace hS := hS.cut 0
      exact ⟨rfl, hS⟩
    replace H := cond_t H hb
    obtain ⟨r70, hm71, H⟩ := bind_some H
    refine wpS_call rfl rfl rfl rfl (by kernel_rfl) rfl (c_law07_wakes _ (SlI.of_rd hT_.k (hS.rd0 hT_.rd) (hS.blk0 hT_.blk)) hm71) ?_
    rintro e w ⟨rfl, hN⟩; refine ⟨_, rfl, ?_⟩; have hB := hN.pure; have hS := hS.join hN; clear hN
    refine wpS_quick 2 rfl ?_
    refine wpS_nil ?_
    refine QH_seq_k hK66 ?_
    refine wpC_ret ?_
    refine QH_ret rfl (RV.tmp rfl RV.nil) rfl ?_
    obtain rfl := Option.some.inj H
    replace hS := hS.cut 0
    exact ⟨rfl, hS⟩
  replace H := cond_f H hb
  refine wpS_quick 1 rfl ?_
  refine wpS_put rfl rfl rfl (yv_len el_23 rfl) ?_
  refine wpS_put rfl rfl rfl (yv_eql rfl rfl) ?_
  refine wpS_quick 2 rfl ?_
  refine wpS_case 90 rfl (fun hb => ?_) (fun hb => ?_)
  rotate_left
  · replace H := cond_f H hb
    refine wpS_quick 14 rfl ?_
    refine wpS_nil ?_
    refine QH_seq_k hK66 ?_
    refine wpC_ret ?_
    refine QH_ret rfl (RV.tmp rfl RV.nil) rfl ?_
    obtain rfl := Option.some.inj H
    replace hS := hS.cut 0
    exact ⟨rfl, hS⟩
  replace H := cond_t H hb
  refine wpS_quick 1 rfl ?_
  refine wpS_put rfl rfl rfl (yv_eql rfl rfl) ?_
  refine wpS_quick 1 rfl ?_
  refine wpS_put rfl rfl rfl (yv_geq rfl rfl) ?_
  refine wpS_quick 1 rfl ?_
  refine wpS_case 95 rfl (fun hb => ?_) (fun hb => ?_)
  rotate_left
  · replace H := cond_f H hb
    refine wpS_quick 3 rfl ?_
    refine wpS_put rfl rfl rfl (yv_eqlB (by kernel_rfl) rfl rfl) ?_
    refine wpS_quick 2 rfl ?_
    refine wpS_case 101 rfl (fun hb => ?_) (fun hb => ?_)
    rotate_left
    · replace H := cond_f H hb
      refine wpS_quick 3 rfl ?_
      refine wpS_nil ?_
      refine QH_seq_k hK66 ?_
      refine wpC_ret ?_
      refine QH_ret rfl (RV.tmp rfl RV.nil) rfl ?_
      obtain rfl := Option.some.inj H
      replace hS := hS.cut 0
      exact ⟨rfl, hS⟩
    replace H := cond_t H hb
    obtain ⟨r87, hm88, H⟩ := bind_some H
    refine wpS_call rfl rfl rfl rfl (by kernel_rfl) rfl (c_law07_wakes _ (SlI.of_rd hT_.k (hS.rd0 hT_.rd) (hS.blk0 hT_.blk)) hm88) ?_
    rintro e w ⟨rfl, hN⟩; refine ⟨_, rfl, ?_⟩; have hB := hN.pure; have hS := hS.join hN; clear hN
    refine wpS_quick 2 rfl ?_
    refine wpS_nil ?_
    refine QH_seq_k hK66 ?_
    refine wpC_ret ?_
    refine QH_ret rfl (RV.tmp rfl RV.nil) rfl ?_
    obtain rfl := Option.some.inj H
    replace hS := hS.cut 0
    exact ⟨rfl, hS⟩
  replace H := cond_t H hb
  refine wpS_quick 1 rfl ?_
  refine wpS_put rfl rfl rfl (yv_leq rfl rfl) ?_
  refine wpS_quick 1 rfl ?_
  refine wpS_put rfl rfl rfl (yv_eqlB (by kernel_rfl) rfl rfl) ?_
  refine wpS_quick 2 rfl ?_
  refine wpS_case 101 rfl (fun hb => ?_) (fun hb => ?_)
  rotate_left
  · replace H := cond_f H hb
    refine wpS_quick 3 rfl ?_
    refine wpS_nil ?_
    refine QH_seq_k hK66 ?_
    refine wpC_ret ?_
    refine QH_ret rfl (RV.tmp rfl RV.nil) rfl ?_
    obtain rfl := Option.some.inj H
    replace hS := hS.cut 0
    exact ⟨rfl, hS⟩
  replace H := cond_t H hb
  obtain ⟨r82, hm83, H⟩ := bind_some H
  refine wpS_call rfl rfl rfl rfl (by kernel_rfl) rfl (c_law07_wakes _ (SlI.of_rd hT_.k (hS.rd0 hT_.rd) (hS.blk0 hT_.blk)) hm83) ?_
  rintro e w ⟨rfl, hN⟩; refine ⟨_, rfl, ?_⟩; have hB := hN.pure; have hS := hS.join hN; clear hN
  refine wpS_quick 2 rfl ?_
  refine wpS_nil ?_
  refine QH_seq_k hK66 ?_
  refine wpC_ret ?_
  refine QH_ret rfl (RV.tmp rfl RV.nil) rfl ?_
  obtain rfl := Option.some.inj H
  replace hS := hS.cut 0
  exact ⟨rfl, hS⟩
end Go.Proofs.YtofheinbbefbcaaDoor
