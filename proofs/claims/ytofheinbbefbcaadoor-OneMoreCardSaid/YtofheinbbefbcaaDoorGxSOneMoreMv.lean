/- What functions compute, in plain terms, and that they do; printed. -/
import Derived.Test.YtofheinbbefbcaaDoorMv1
import Derived.Test.YtofheinbbefbcaaDoorMv2
namespace Go.Proofs.YtofheinbbefbcaaDoor
open Go Go.RowKit
set_option maxRecDepth 100000
set_option maxHeartbeats 4000000
theorem c_law07_OneMore (x0 : Int) (x1 : List En) (x2 : List En) (A0_ : Option Addr) (c0_ : Nat) (A1_ : Option Addr) (c1_ : Nat) (w0 : World) (s0_ : SlI w0 enE A0_ c0_ x1) (s1_ : SlI w0 enE A1_ c1_ x2) (hT_ : SlI w0 enU (some ⟨0, 0, none⟩) 16 tabU) {r : Bool} (H : m_law07_OneMore x0 x1 x2 = some r) : Calls Tryd.prog 6 #[.int .i64 x0, .slice A0_ x1.length c0_, .slice A1_ x2.length c1_] w0 fun e w' => e = .returned (.bool r) ∧ St0 All w0 w' [] := by
  unfold m_law07_OneMore at H
  refine gw_enter3 Tryd.func6 rfl Tryd.ntmps6 rfl ?_
  have hS := St0.start All w0
  refine wpC_seq_k (fun K hK1 => ?_)
  refine wpC_region ?_
  refine wpS_quick 1 rfl ?_
  refine wpS_nil ?_
  refine QH_seq_k hK1 ?_
  refine wpC_seq_k (fun K hK2 => ?_)
  refine wpC_seq_k (fun K hK3 => ?_)
  refine wpC_region ?_
  refine wpS_quick 1 rfl ?_
  refine wpS_put rfl rfl rfl (yv_len el_22 rfl) ?_
  refine wpS_put rfl rfl rfl (yv_gtr rfl rfl) ?_
  refine wpS_quick 1 rfl ?_
  refine wpS_case 21 rfl (fun hb => ?_) (fun hb => ?_)
  · replace H := cond_t H hb
    refine wpS_quick 4 rfl ?_
    refine wpS_nil ?_
    refine QH_seq_k hK3 ?_
    refine wpC_cond_t rfl rfl ?_
    refine wpC_seq_k (fun K hK5 => ?_)
    refine wpC_region ?_
    obtain ⟨r6, hm7, H⟩ := bind_some H
    refine wpS_call rfl rfl rfl rfl (by kernel_rfl) rfl (c_law07_wakes _ (SlI.of_rd hT_.k (hS.rd0 hT_.rd) (hS.blk0 hT_.blk)) hm7) ?_
    rintro e w ⟨rfl, hN⟩; refine ⟨_, rfl, ?_⟩; have hB := hN.pure; have hS := hS.join hN; clear hN
    refine wpS_quick 1 rfl ?_
    refine wpS_nil ?_
    refine QH_seq_k hK5 ?_
    refine wpC_ret ?_
    refine QH_then_ret ?_
    refine QH_ret rfl (RV.tmp rfl RV.nil) rfl ?_
    obtain rfl := Option.some.inj H
    replace hS := hS.cut 0
    exact ⟨rfl, hS⟩
  replace H := cond_f H hb
  refine wpS_quick 1 rfl ?_
  refine wpS_put rfl rfl rfl (yv_len el_22 rfl) ?_
  refine wpS_put rfl rfl rfl (yv_gtr rfl rfl) ?_
  refine wpS_quick 1 rfl ?_
  refine wpS_nil ?_
  refine QH_seq_k hK3 ?_
  refine wpC_cond rfl (fun hb => ?_) (fun hb => ?_)
  · replace H := cond_t H hb
    refine wpC_seq_k (fun K hK10 => ?_)
    refine wpC_region ?_
    obtain ⟨r11, hm12, H⟩ := bind_some H
    refine wpS_call rfl rfl rfl rfl (by kernel_rfl) rfl (c_law07_wakes _ (SlI.of_rd hT_.k (hS.rd0 hT_.rd) (hS.blk0 hT_.blk)) hm12) ?_
    rintro e w ⟨rfl, hN⟩; refine ⟨_, rfl, ?_⟩; have hB := hN.pure; have hS := hS.join hN; clear hN
    refine wpS_quick 1 rfl ?_
    refine wpS_nil ?_
    refine QH_seq_k hK10 ?_
    refine wpC_ret ?_
    refine QH_then_ret ?_
    refine QH_ret rfl (RV.tmp rfl RV.nil) rfl ?_
    obtain rfl := Option.some.inj H
    replace hS := hS.cut 0
    exact ⟨rfl, hS⟩
  replace H := cond_f H hb
  refine wpC_skip ?_
  refine QH_seq_k hK2 ?_
  refine wpC_seq_k (fun K hK14 => ?_)
  refine wpC_region ?_
  refine wpS_slice0 el_22 rfl rfl hS (fun b15 w hS hB => ?_)
  refine wpS_quick 1 rfl ?_
  obtain ⟨l17, hf18, H⟩ := bind_some H
  refine wpX_append (ys := x1) he_enE oc_enE em_22 (by decide) rfl rfl rfl rfl hS (fun _ => ps0) (hS.rd0 s0_.rd) hf18 (fun A19 c20 w k21 hS => ?_)
  refine wpS_quick 1 rfl ?_
  obtain ⟨l22, hf23, H⟩ := bind_some H
  refine wpX_append (ys := x2) he_enE oc_enE em_22 (by decide) rfl rfl rfl rfl hS (fun _ => ps0) (hS.rd0 s1_.rd) hf23 (fun A24 c25 w k26 hS => ?_)
  refine wpS_quick 1 rfl ?_
  refine wpS_nil ?_
  refine QH_seq_k hK14 ?_
  refine wpC_seq_k (fun K hK27 => ?_)
  refine wpC_region ?_
  refine wpS_quick 1 rfl ?_
  obtain ⟨r28, hm29, H⟩ := bind_some H
  refine wpS_call rfl rfl rfl rfl (by kernel_rfl) rfl (c_one_Head x0 _ hm29) ?_
  rintro e w ⟨A30, c31, rfl, k32, hN⟩; refine ⟨_, rfl, ?_⟩; have hB := hN.pure; have hS := hS.join hN; clear hN
  refine wpS_quick 1 rfl ?_
  refine wpS_put rfl rfl rfl (yv_extract rfl rfl) ?_
  refine wpS_put rfl rfl rfl (yv_extract rfl rfl) ?_
  refine wpS_quick 2 rfl ?_
  refine wpS_nil ?_
  refine QH_seq_k hK27 ?_
  refine wpC_seq_k (fun K hK34 => ?_)
  refine wpC_region ?_
  refine wpS_quick 1 rfl ?_
  obtain ⟨r35, hm36, H⟩ := bind_some H
  refine wpS_call rfl rfl rfl rfl (by kernel_rfl) rfl (c_one_Put x1 A0_ c0_ _ (SlI.of_rd s0_.k (hS.rd0 s0_.rd) (hS.blk0 s0_.blk)) (SlI.of_rd hT_.k (hS.rd0 hT_.rd) (hS.blk0 hT_.blk)) hm36) ?_
  rintro e w ⟨A37, c38, rfl, k39, hN⟩; refine ⟨_, rfl, ?_⟩; have hB := hN.pure; have hS := hS.join hN; clear hN
  refine wpS_quick 1 rfl ?_
  refine wpS_put rfl rfl rfl (yv_extract rfl rfl) ?_
  refine wpS_put rfl rfl rfl (yv_extract rfl rfl) ?_
  refine wpS_quick 2 rfl ?_
  refine wpS_nil ?_
  refine QH_seq_k hK34 ?_
  refine wpC_seq_k (fun K hK41 => ?_)
  refine wpC_region ?_
  refine wpS_quick 1 rfl ?_
  obtain ⟨r42, hm43, H⟩ := bind_some H
  refine wpS_call rfl rfl rfl rfl (by kernel_rfl) rfl (c_one_Put x2 A1_ c1_ _ (SlI.of_rd s1_.k (hS.rd0 s1_.rd) (hS.blk0 s1_.blk)) (SlI.of_rd hT_.k (hS.rd0 hT_.rd) (hS.blk0 hT_.blk)) hm43) ?_
  rintro e w ⟨A44, c45, rfl, k46, hN⟩; refine ⟨_, rfl, ?_⟩; have hB := hN.pure; have hS := hS.join hN; clear hN
  refine wpS_quick 1 rfl ?_
  refine wpS_put rfl rfl rfl (yv_extract rfl rfl) ?_
  refine wpS_put rfl rfl rfl (yv_extract rfl rfl) ?_
  refine wpS_quick 2 rfl ?_
  refine wpS_nil ?_
  refine QH_seq_k hK41 ?_
  refine wpC_seq_k (fun K hK48 => ?_)
  refine wpC_region ?_
  refine wpS_quick 2 rfl ?_
  obtain ⟨r49, hm50, H⟩ := bind_some H
  refine wpS_call rfl rfl rfl rfl (by kernel_rfl) rfl (c_one_File x0 l22 A24 c25 _ (SlI.of_rd k26 (hS.row_rd hs3) (hS.row_blk hs3)) (SlI.of_rd hT_.k (hS.rd0 hT_.rd) (hS.blk0 hT_.blk)) hm50) ?_
  rintro e w ⟨A51, c52, rfl, k53, hN⟩; refine ⟨_, rfl, ?_⟩; have hB := hN.pure; have hS := hS.join hN; clear hN
  refine wpS_quick 1 rfl ?_
  refine wpS_put rfl rfl rfl (yv_extract rfl rfl) ?_
  refine wpS_put rfl rfl rfl (yv_extract rfl rfl) ?_
  refine wpS_quick 2 rfl ?_
  refine wpS_nil ?_
  refine QH_seq_k hK48 ?_
  refine wpC_seq_k (fun K hK55 => ?_)
  refine wpC_seq_k (fun K hK56 => ?_)
  refine wpC_region ?_
  refine wpS_quick 1 rfl ?_
  refine wpS_put rfl rfl rfl (yv_neq rfl rfl) ?_
  refine wpS_quick 1 rfl ?_
  refine wpS_case 55 rfl (fun hb => ?_) (fun hb => ?_)
  · replace H := cond_t H hb
    refine wpS_quick 7 rfl ?_
    refine wpS_nil ?_
    refine QH_seq_k hK56 ?_
    refine wpC_cond_t rfl rfl ?_
    refine wpC_seq_k (fun K hK58 => ?_)
    refine wpC_region ?_
    refine wpS_quick 1 rfl ?_
    refine wpS_put rfl rfl rfl (yv_eql rfl rfl) ?_
    refine wpS_quick 1 rfl ?_
    refine wpS_case 65 rfl (fun hb => ?_) (fun hb => ?_)
    rotate_left
    · replace H := cond_f H hb
      refine wpS_quick 3 rfl ?_
      refine wpS_nil ?_
      refine QH_seq_k hK58 ?_
      refine wpC_ret ?_
      refine QH_then_ret ?_
      refine QH_ret rfl (RV.tmp rfl RV.nil) rfl ?_
      obtain rfl := Option.some.inj H
      replace hS := hS.cut 0
      exact ⟨rfl, hS⟩
    replace H := cond_t H hb
    obtain ⟨r60, hm61, H⟩ := bind_some H
    refine wpS_call rfl rfl rfl rfl (by kernel_rfl) rfl (c_law07_wakes _ (SlI.of_rd hT_.k (hS.rd0 hT_.rd) (hS.blk0 hT_.blk)) hm61) ?_
    rintro e w ⟨rfl, hN⟩; refine ⟨_, rfl, ?_⟩; have hB := hN.pure; have hS := hS.join hN; clear hN
    refine wpS_quick 2 rfl ?_
    refine wpS_nil ?_
    refine QH_seq_k hK58 ?_
    refine wpC_ret ?_
    refine QH_then_ret ?_
    refine QH_ret rfl (RV.tmp rfl RV.nil) rfl ?_
    obtain rfl := Option.some.inj H
    replace hS := hS.cut 0
    exact ⟨rfl, hS⟩
  replace H := cond_f H hb
  refine wpS_quick 1 rfl ?_
  refine wpS_put rfl rfl rfl (yv_neq rfl rfl) ?_
  refine wpS_quick 2 rfl ?_
  refine wpS_case 59 rfl (fun hb => ?_) (fun hb => ?_)
  · replace H := cond_t H hb
    refine wpS_quick 3 rfl ?_
    refine wpS_nil ?_
    refine QH_seq_k hK56 ?_
    refine wpC_cond_t rfl rfl ?_
    refine wpC_seq_k (fun K hK65 => ?_)
    refine wpC_region ?_
    refine wpS_quick 1 rfl ?_
    refine wpS_put rfl rfl rfl (yv_eql rfl rfl) ?_
    refine wpS_quick 1 rfl ?_
    refine wpS_case 65 rfl (fun hb => ?_) (fun hb => ?_)
    rotate_left
    · replace H := cond_f H hb
      refine wpS_quick 3 rfl ?_
      refine wpS_nil ?_
      refine QH_seq_k hK65 ?_
      refine wpC_ret ?_
      refine QH_then_ret ?_
      refine QH_ret rfl (RV.tmp rfl RV.nil) rfl ?_
      obtain rfl := Option.some.inj H
      replace hS := hS.cut 0
      exact ⟨rfl, hS⟩
    replace H := cond_t H hb
    obtain ⟨r67, hm68, H⟩ := bind_some H
    refine wpS_call rfl rfl rfl rfl (by kernel_rfl) rfl (c_law07_wakes _ (SlI.of_rd hT_.k (hS.rd0 hT_.rd) (hS.blk0 hT_.blk)) hm68) ?_
    rintro e w ⟨rfl, hN⟩; refine ⟨_, rfl, ?_⟩; have hB := hN.pure; have hS := hS.join hN; clear hN
    refine wpS_quick 2 rfl ?_
    refine wpS_nil ?_
    refine QH_seq_k hK65 ?_
    refine wpC_ret ?_
    refine QH_then_ret ?_
    refine QH_ret rfl (RV.tmp rfl RV.nil) rfl ?_
    obtain rfl := Option.some.inj H
    replace hS := hS.cut 0
    exact ⟨rfl, hS⟩
  replace H := cond_f H hb
  refine wpS_quick 1 rfl ?_
  refine wpS_put rfl rfl rfl (yv_neq rfl rfl) ?_
  refine wpS_quick 1 rfl ?_
  refine wpS_nil ?_
  refine QH_seq_k hK56 ?_
  refine wpC_cond rfl (fun hb => ?_) (fun hb => ?_)
  · replace H := cond_t H hb
    refine wpC_seq_k (fun K hK72 => ?_)
    refine wpC_region ?_
    refine wpS_quick 1 rfl ?_
    refine wpS_put rfl rfl rfl (yv_eql rfl rfl) ?_
    refine wpS_quick 1 rfl ?_
    refine wpS_case 65 rfl (fun hb => ?_) (fun hb => ?_)
    rotate_left
    · replace H := cond_f H hb
      refine wpS_quick 3 rfl ?_
      refine wpS_nil ?_
      refine QH_seq_k hK72 ?_
      refine wpC_ret ?_
      refine QH_then_ret ?_
      refine QH_ret rfl (RV.tmp rfl RV.nil) rfl ?_
      obtain rfl := Option.some.inj H
      replace hS := hS.cut 0
      exact ⟨rfl, hS⟩
    replace H := cond_t H hb
    obtain ⟨r74, hm75, H⟩ := bind_some H
    refine wpS_call rfl rfl rfl rfl (by kernel_rfl) rfl (c_law07_wakes _ (SlI.of_rd hT_.k (hS.rd0 hT_.rd) (hS.blk0 hT_.blk)) hm75) ?_
    rintro e w ⟨rfl, hN⟩; refine ⟨_, rfl, ?_⟩; have hB := hN.pure; have hS := hS.join hN; clear hN
    refine wpS_quick 2 rfl ?_
    refine wpS_nil ?_
    refine QH_seq_k hK72 ?_
    refine wpC_ret ?_
    refine QH_then_ret ?_
    refine QH_ret rfl (RV.tmp rfl RV.nil) rfl ?_
    obtain rfl := Option.some.inj H
    replace hS := hS.cut 0
    exact ⟨rfl, hS⟩
  replace H := cond_f H hb
  refine wpC_skip ?_
  refine QH_seq_k hK55 ?_
  refine wpC_seq_k (fun K hK78 => ?_)
  refine wpC_region ?_
  refine wpS_quick 1 rfl ?_
  obtain ⟨r79, hm80, H⟩ := bind_some H
  refine wpS_call rfl rfl rfl rfl (by kernel_rfl) rfl (c_one_Scan r49.1 A51 c52 _ (SlI.of_rd k53 (hS.row_rd hs0) (hS.row_blk hs0)) (SlI.of_rd hT_.k (hS.rd0 hT_.rd) (hS.blk0 hT_.blk)) hm80) ?_
  rintro e w ⟨A81, c82, rfl, k83, hN⟩; refine ⟨_, rfl, ?_⟩; have hB := hN.pure; have hS := hS.join hN; clear hN
  refine wpS_quick 1 rfl ?_
  refine wpS_put rfl rfl rfl (yv_extract rfl rfl) ?_
  refine wpS_put rfl rfl rfl (yv_extract rfl rfl) ?_
  refine wpS_alloc rfl rfl zc_33 hS (fun b85 w hS hB => ?_)
  refine wpS_store rfl rfl rfl CellsOf.agg hS ps0 st0_3 (by kernel_rfl) rfl (fun w hS hB => ?_)
  refine wpS_quick 1 rfl ?_
  refine wpS_nil ?_
  refine QH_seq_k hK78 ?_
  refine wpC_seq_k (fun K hK87 => ?_)
  refine wpC_region ?_
  refine wpS_quick 1 rfl ?_
  refine wpS_put rfl rfl rfl (yv_eql rfl rfl) ?_
  refine wpS_quick 1 rfl ?_
  refine wpS_case 75 rfl (fun hb => ?_) (fun hb => ?_)
  rotate_left
  · replace H := cond_f H hb
    refine wpS_quick 24 rfl ?_
    refine wpS_nil ?_
    refine QH_seq_k hK87 ?_
    refine wpC_ret ?_
    refine QH_ret rfl (RV.tmp rfl RV.nil) rfl ?_
    obtain rfl := Option.some.inj H
    replace hS := hS.cut 0
    exact ⟨rfl, hS⟩
  replace H := cond_t H hb
  refine wpS_quick 1 rfl ?_
  refine wpS_put rfl rfl rfl (yv_eql rfl rfl) ?_
  refine wpS_quick 2 rfl ?_
  refine wpS_case 79 rfl (fun hb => ?_) (fun hb => ?_)
  rotate_left
  · replace H := cond_f H hb
    refine wpS_quick 20 rfl ?_
    refine wpS_nil ?_
    refine QH_seq_k hK87 ?_
    refine wpC_ret ?_
    refine QH_ret rfl (RV.tmp rfl RV.nil) rfl ?_
    obtain rfl := Option.some.inj H
    replace hS := hS.cut 0
    exact ⟨rfl, hS⟩
  replace H := cond_t H hb
  refine wpS_slice0 el_23 rfl rfl hS (fun b90 w hS hB => ?_)
  refine wpS_quick 1 rfl ?_
  obtain ⟨l92, hf93, H⟩ := bind_some H
  refine wpX_append (ys := r28.1) he_enY oc_enY em_23 (by decide) rfl rfl rfl rfl hS (fun _ => ps0) (hS.row_rd hs6) hf93 (fun A94 c95 w k96 hS => ?_)
  refine wpS_quick 1 rfl ?_
  obtain ⟨l97, hf98, H⟩ := bind_some H
  refine wpX_append (ys := r35.1) he_enY oc_enY em_23 (by decide) rfl rfl rfl rfl hS (fun _ => ps0) (hS.row_rd hs5) hf98 (fun A99 c100 w k101 hS => ?_)
  refine wpS_quick 1 rfl ?_
  obtain ⟨l102, hf103, H⟩ := bind_some H
  refine wpX_append (ys := r42.1) he_enY oc_enY em_23 (by decide) rfl rfl rfl rfl hS (fun _ => ps0) (hS.row_rd hs4) hf103 (fun A104 c105 w k106 hS => ?_)
  refine wpS_quick 1 rfl ?_
  obtain ⟨r107, hm108, H⟩ := bind_some H
  refine wpS_call rfl rfl rfl rfl (by kernel_rfl) rfl (c_law07_same l102 r49.1 A104 c105 A51 c52 _ (SlI.of_rd k106 (hS.row_rd hs0) (hS.row_blk hs0)) (SlI.of_rd k53 (hS.row_rd hs3) (hS.row_blk hs3)) hm108) ?_
  rintro e w ⟨rfl, hN⟩; refine ⟨_, rfl, ?_⟩; have hB := hN.pure; have hS := hS.join hN; clear hN
  refine wpS_quick 2 rfl ?_
  refine wpS_case 90 rfl (fun hb => ?_) (fun hb => ?_)
  rotate_left
  · replace H := cond_f H hb
    refine wpS_quick 9 rfl ?_
    refine wpS_nil ?_
    refine QH_seq_k hK87 ?_
    refine wpC_ret ?_
    refine QH_ret rfl (RV.tmp rfl RV.nil) rfl ?_
    obtain rfl := Option.some.inj H
    replace hS := hS.cut 0
    exact ⟨rfl, hS⟩
  replace H := cond_t H hb
  refine wpS_put rfl rfl rfl (yv_fieldAddr fo_33_1 rfl) ?_
  refine wpS_put rfl rfl rfl (yv_load_box sc_22 rfl (RW.here _) hS hs1 trivial sg1_1) ?_
  refine wpS_quick 1 rfl ?_
  obtain ⟨r110, hm111, H⟩ := bind_some H
  refine wpS_call rfl rfl rfl rfl (by kernel_rfl) rfl (c_ref07_Entries r79.1.log l22 A81 c82 A24 c25 _ (SlI.of_rd k83 (hS.row_rd hs2) (hS.row_blk hs2)) (SlI.of_rd k26 (hS.row_rd hs7) (hS.row_blk hs7)) hm111) ?_
  rintro e w ⟨rfl, hN⟩; refine ⟨_, rfl, ?_⟩; have hB := hN.pure; have hS := hS.join hN; clear hN
  refine wpS_quick 2 rfl ?_
  refine wpS_case 96 rfl (fun hb => ?_) (fun hb => ?_)
  rotate_left
  · replace H := cond_f H hb
    refine wpS_quick 3 rfl ?_
    refine wpS_nil ?_
    refine QH_seq_k hK87 ?_
    refine wpC_ret ?_
    refine QH_ret rfl (RV.tmp rfl RV.nil) rfl ?_
    obtain rfl := Option.some.inj H
    replace hS := hS.cut 0
    exact ⟨rfl, hS⟩
  replace H := cond_t H hb
  obtain ⟨r113, hm114, H⟩ := bind_some H
  refine wpS_call rfl rfl rfl rfl (by kernel_rfl) rfl (c_law07_wakes _ (SlI.of_rd hT_.k (hS.rd0 hT_.rd) (hS.blk0 hT_.blk)) hm114) ?_
  rintro e w ⟨rfl, hN⟩; refine ⟨_, rfl, ?_⟩; have hB := hN.pure; have hS := hS.join hN; clear hN
  refine wpS_quick 2 rfl ?_
  refine wpS_nil ?_
  refine QH_seq_k hK87 ?_
  refine wpC_ret ?_
  refine QH_ret rfl (RV.tmp rfl RV.nil) rfl ?_
  obtain rfl := Option.some.inj H
  replace hS := hS.cut 0
  exact ⟨rfl, hS⟩
end Go.Proofs.YtofheinbbefbcaaDoor
