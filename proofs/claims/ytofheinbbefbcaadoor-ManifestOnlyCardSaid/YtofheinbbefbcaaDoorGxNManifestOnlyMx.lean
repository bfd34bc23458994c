/- What functions compute, in plain terms, and that they do; printed. -/
import Derived.Test.YtofheinbbefbcaaDoorMx1
import Derived.Test.YtofheinbbefbcaaDoorMx2
import Derived.Test.YtofheinbbefbcaaDoorMx3
namespace Go.Proofs.YtofheinbbefbcaaDoor
open Go Go.RowKit
set_option maxRecDepth 100000
set_option maxHeartbeats 4000000
theorem c_law11_ManifestOnly (x0 : List UInt8) (A0_ : Option Addr) (c0_ : Nat) (w0 : World) (s0_ : SlI w0 enY A0_ c0_ x0) (hT_ : SlI w0 enU (some ⟨0, 0, none⟩) 16 tabU) {r : Bool} (H : m_law11_ManifestOnly x0 = some r) : Calls Tryd.prog 9 #[.slice A0_ x0.length c0_] w0 fun e w' => e = .returned (.bool r) ∧ St0 All w0 w' [] := by
  unfold m_law11_ManifestOnly at H
  refine gw_enter1 Tryd.func9 rfl Tryd.ntmps9 rfl ?_
  have hS := St0.start All w0
  refine wpC_seq_k (fun K hK1 => ?_)
  refine wpC_region ?_
  refine wpS_quick 1 rfl ?_
  refine wpS_nil ?_
  refine QH_seq_k hK1 ?_
  refine wpC_seq_k (fun K hK2 => ?_)
  refine wpC_seq_k (fun K hK3 => ?_)
  refine wpC_region ?_
  refine wpS_quick 1 rfl ?_
  refine wpS_put rfl rfl rfl (yv_len el_23 rfl) ?_
  refine wpS_put rfl rfl rfl (yv_gtr rfl rfl) ?_
  refine wpS_nil ?_
  refine QH_seq_k hK3 ?_
  refine wpC_cond rfl (fun hb => ?_) (fun hb => ?_)
  · replace H := cond_t H hb
    refine wpC_seq_k (fun K hK5 => ?_)
    refine wpC_region ?_
    obtain ⟨r6, hm7, H⟩ := bind_some H
    refine wpS_call rfl rfl rfl rfl (by kernel_rfl) rfl (c_law11_wakes _ (SlI.of_rd hT_.k (hS.rd0 hT_.rd) (hS.blk0 hT_.blk)) hm7) ?_
    rintro e w ⟨rfl, hN⟩; refine ⟨_, rfl, ?_⟩; have hB := hN.pure; have hS := hS.join hN; clear hN
    refine wpS_quick 1 rfl ?_
    refine wpS_nil ?_
    refine QH_seq_k hK5 ?_
    refine wpC_ret ?_
    refine QH_then_ret ?_
    refine QH_ret rfl (RV.tmp rfl RV.nil) rfl ?_
    obtain rfl := Option.some.inj H
    replace hS := hS.cut 0
    exact ⟨rfl, hS⟩
  replace H := cond_f H hb
  refine wpC_skip ?_
  refine QH_seq_k hK2 ?_
  refine wpC_seq_k (fun K hK9 => ?_)
  refine wpC_region ?_
  refine wpS_quick 1 rfl ?_
  obtain ⟨r10, hm11, H⟩ := bind_some H
  refine wpS_call rfl rfl rfl rfl (by kernel_rfl) rfl (c_manifest_Take x0 A0_ c0_ _ (SlI.of_rd s0_.k (hS.rd0 s0_.rd) (hS.blk0 s0_.blk)) (SlI.of_rd hT_.k (hS.rd0 hT_.rd) (hS.blk0 hT_.blk)) hm11) ?_
  rintro e w ⟨A12, c13, rfl, k14, hN⟩; refine ⟨_, rfl, ?_⟩; have hB := hN.pure; have hS := hS.join hN; clear hN
  refine wpS_quick 1 rfl ?_
  refine wpS_put rfl rfl rfl (yv_extract rfl rfl) ?_
  refine wpS_put rfl rfl rfl (yv_extract rfl rfl) ?_
  refine wpS_alloc rfl rfl zc_50 hS (fun b16 w hS hB => ?_)
  refine wpS_store rfl rfl rfl CellsOf.agg hS ps0 st0_6 (by kernel_rfl) rfl (fun w hS hB => ?_)
  refine wpS_quick 1 rfl ?_
  refine wpS_nil ?_
  refine QH_seq_k hK9 ?_
  refine wpC_seq_k (fun K hK18 => ?_)
  refine wpC_seq_k (fun K hK19 => ?_)
  refine wpC_region ?_
  refine wpS_quick 1 rfl ?_
  refine wpS_put rfl rfl rfl (yv_neq rfl rfl) ?_
  refine wpS_nil ?_
  refine QH_seq_k hK19 ?_
  refine wpC_cond rfl (fun hb => ?_) (fun hb => ?_)
  · replace H := cond_t H hb
    refine wpC_seq_k (fun K hK21 => ?_)
    refine wpC_region ?_
    refine wpS_quick 1 rfl ?_
    refine wpS_put rfl rfl rfl (yv_eql rfl rfl) ?_
    refine wpS_quick 1 rfl ?_
    refine wpS_case 20 rfl (fun hb => ?_) (fun hb => ?_)
    rotate_left
    · replace H := cond_f H hb
      refine wpS_quick 8 rfl ?_
      refine wpS_nil ?_
      refine QH_seq_k hK21 ?_
      refine wpC_ret ?_
      refine QH_then_ret ?_
      refine QH_ret rfl (RV.tmp rfl RV.nil) rfl ?_
      obtain rfl := Option.some.inj H
      replace hS := hS.cut 0
      exact ⟨rfl, hS⟩
    replace H := cond_t H hb
    refine wpS_put rfl rfl rfl (yv_load_boxA ag_50 rfl (RW.here _) hS hs0 trivial sg0_6) ?_
    refine wpS_put rfl rfl rfl (yv_build (cells := [.int .i64 0, .int .i64 0, .int .i64 0, .int .i64 0, .int .i64 0, .slice none 0 0]) rfl (by kernel_rfl)) ?_
    obtain ⟨r23, hm24, H⟩ := bind_some H
    refine wpS_call rfl rfl rfl rfl (by kernel_rfl) rfl (c_ref11_Same r10.1 (⟨0, 0, 0, (⟨0, 0⟩ : Rf), []⟩ : Mf) A12 c13 none 0 _ (SlI.of_rd k14 (hS.row_rd hs1) (hS.row_blk hs1)) (SlI.nil _ _) hm24) ?_
    rintro e w ⟨rfl, hN⟩; refine ⟨_, rfl, ?_⟩; have hB := hN.pure; have hS := hS.join hN; clear hN
    refine wpS_quick 2 rfl ?_
    refine wpS_case 25 rfl (fun hb => ?_) (fun hb => ?_)
    rotate_left
    · replace H := cond_f H hb
      refine wpS_quick 3 rfl ?_
      refine wpS_nil ?_
      refine QH_seq_k hK21 ?_
      refine wpC_ret ?_
      refine QH_then_ret ?_
      refine QH_ret rfl (RV.tmp rfl RV.nil) rfl ?_
      obtain rfl := Option.some.inj H
      replace hS := hS.cut 0
      exact ⟨rfl, hS⟩
    replace H := cond_t H hb
    obtain ⟨r26, hm27, H⟩ := bind_some H
    refine wpS_call rfl rfl rfl rfl (by kernel_rfl) rfl (c_law11_wakes _ (SlI.of_rd hT_.k (hS.rd0 hT_.rd) (hS.blk0 hT_.blk)) hm27) ?_
    rintro e w ⟨rfl, hN⟩; refine ⟨_, rfl, ?_⟩; have hB := hN.pure; have hS := hS.join hN; clear hN
    refine wpS_quick 2 rfl ?_
    refine wpS_nil ?_
    refine QH_seq_k hK21 ?_
    refine wpC_ret ?_
    refine QH_then_ret ?_
    refine QH_ret rfl (RV.tmp rfl RV.nil) rfl ?_
    obtain rfl := Option.some.inj H
    replace hS := hS.cut 0
    exact ⟨rfl, hS⟩
  replace H := cond_f H hb
  refine wpC_skip ?_
  refine QH_seq_k hK18 ?_
  refine wpC_seq_k (fun K hK31 => ?_)
  refine wpC_region ?_
  refine wpS_put rfl rfl rfl (yv_load_boxA ag_50 rfl (RW.here _) hS hs0 trivial sg0_6) ?_
  obtain ⟨r32, hm33, H⟩ := bind_some H
  refine wpS_call rfl rfl rfl rfl (by kernel_rfl) rfl (c_manifest_Put r10.1 A12 c13 _ (SlI.of_rd k14 (hS.row_rd hs1) (hS.row_blk hs1)) (SlI.of_rd hT_.k (hS.rd0 hT_.rd) (hS.blk0 hT_.blk)) hm33) ?_
  rintro e w ⟨A34, c35, rfl, k36, hN⟩; refine ⟨_, rfl, ?_⟩; have hB := hN.pure; have hS := hS.join hN; clear hN
  refine wpS_quick 1 rfl ?_
  refine wpS_put rfl rfl rfl (yv_extract rfl rfl) ?_
  refine wpS_put rfl rfl rfl (yv_extract rfl rfl) ?_
  refine wpS_quick 2 rfl ?_
  refine wpS_nil ?_
  refine QH_seq_k hK31 ?_
  refine wpC_seq_k (fun K hK38 => ?_)
  refine wpC_region ?_
  refine wpS_quick 1 rfl ?_
  refine wpS_put rfl rfl rfl (yv_eql rfl rfl) ?_
  refine wpS_quick 1 rfl ?_
  refine wpS_case 35 rfl (fun hb => ?_) (fun hb => ?_)
  rotate_left
  · replace H := cond_f H hb
    refine wpS_quick 13 rfl ?_
    refine wpS_nil ?_
    refine QH_seq_k hK38 ?_
    refine wpC_ret ?_
    refine QH_ret rfl (RV.tmp rfl RV.nil) rfl ?_
    obtain rfl := Option.some.inj H
    replace hS := hS.cut 0
    exact ⟨rfl, hS⟩
  replace H := cond_t H hb
  refine wpS_quick 2 rfl ?_
  obtain ⟨r40, hm41, H⟩ := bind_some H
  refine wpS_call rfl rfl rfl rfl (by kernel_rfl) rfl (c_law11_same r32.1 x0 A34 c35 A0_ c0_ _ (SlI.of_rd k36 (hS.row_rd hs0) (hS.row_blk hs0)) (SlI.of_rd s0_.k (hS.rd0 s0_.rd) (hS.blk0 s0_.blk)) hm41) ?_
  rintro e w ⟨rfl, hN⟩; refine ⟨_, rfl, ?_⟩; have hB := hN.pure; have hS := hS.join hN; clear hN
  refine wpS_quick 2 rfl ?_
  refine wpS_case 40 rfl (fun hb => ?_) (fun hb => ?_)
  rotate_left
  · replace H := cond_f H hb
    refine wpS_quick 8 rfl ?_
    refine wpS_nil ?_
    refine QH_seq_k hK38 ?_
    refine wpC_ret ?_
    refine QH_ret rfl (RV.tmp rfl RV.nil) rfl ?_
    obtain rfl := Option.some.inj H
    replace hS := hS.cut 0
    exact ⟨rfl, hS⟩
  replace H := cond_t H hb
  refine wpS_put rfl rfl rfl (yv_load_boxA ag_50 rfl (RW.here _) hS hs1 trivial sg0_6) ?_
  obtain ⟨r43, hm44, H⟩ := bind_some H
  refine wpS_call rfl rfl rfl rfl (by kernel_rfl) rfl (c_ref11_Check r10.1 A12 c13 _ (SlI.of_rd k14 (hS.row_rd hs2) (hS.row_blk hs2)) hm44) ?_
  rintro e w ⟨rfl, hN⟩; refine ⟨_, rfl, ?_⟩; have hB := hN.pure; have hS := hS.join hN; clear hN
  refine wpS_put rfl rfl rfl (yv_eql rfl rfl) ?_
  refine wpS_quick 2 rfl ?_
  refine wpS_case 45 rfl (fun hb => ?_) (fun hb => ?_)
  rotate_left
  · replace H := cond_f H hb
    refine wpS_quick 3 rfl ?_
    refine wpS_nil ?_
    refine QH_seq_k hK38 ?_
    refine wpC_ret ?_
    refine QH_ret rfl (RV.tmp rfl RV.nil) rfl ?_
    obtain rfl := Option.some.inj H
    replace hS := hS.cut 0
    exact ⟨rfl, hS⟩
  replace H := cond_t H hb
  obtain ⟨r46, hm47, H⟩ := bind_some H
  refine wpS_call rfl rfl rfl rfl (by kernel_rfl) rfl (c_law11_wakes _ (SlI.of_rd hT_.k (hS.rd0 hT_.rd) (hS.blk0 hT_.blk)) hm47) ?_
  rintro e w ⟨rfl, hN⟩; refine ⟨_, rfl, ?_⟩; have hB := hN.pure; have hS := hS.join hN; clear hN
  refine wpS_quick 2 rfl ?_
  refine wpS_nil ?_
  refine QH_seq_k hK38 ?_
  refine wpC_ret ?_
  refine QH_ret rfl (RV.tmp rfl RV.nil) rfl ?_
  obtain rfl := Option.some.inj H
  replace hS := hS.cut 0
  exact ⟨rfl, hS⟩
end Go.Proofs.YtofheinbbefbcaaDoor
