/- Texts of one claim put together: what its walks share. -/
import Derived.Test.YtofheinbbefbcaaDoorMw1
import Derived.Test.YtofheinbbefbcaaDoorMw0
/- What functions compute, in plain terms, and that they do; printed. -/
namespace Go.Proofs.YtofheinbbefbcaaDoor
open Go Go.RowKit
set_option maxRecDepth 100000
set_option maxHeartbeats 4000000
theorem c_law07_OneBack (x0 : Int) (x1 : List En) (x2 : Int) (x3 : Int) (x4 : UInt8) (A0_ : Option Addr) (c0_ : Nat) (w0 : World) (s0_ : SlI w0 enE A0_ c0_ x1) (hT_ : SlI w0 enU (some ⟨0, 0, none⟩) 16 tabU) {r : Bool} (H : m_law07_OneBack x0 x1 x2 x3 x4 = some r) : Calls Tryd.prog 4 #[.int .i64 x0, .slice A0_ x1.length c0_, .int .i64 x2, .int .i64 x3, .int .u8 (x4.toNat : Int)] w0 fun e w' => e = .returned (.bool r) ∧ St0 All w0 w' [] := by
  unfold m_law07_OneBack at H
  refine gw_enter5 Tryd.func4 rfl Tryd.ntmps4 rfl ?_
  have hS := St0.start All w0
  refine wpC_seq_k (fun K hK1 => ?_)
  refine wpC_region ?_
  refine wpS_quick 1 rfl ?_
  refine wpS_nil ?_
  refine QH_seq_k hK1 ?_
  refine wpC_seq_k (fun K hK2 => ?_)
  refine wpC_seq_k (fun K hK3 => ?_)
  refine wpC_region ?_
  refine wpS_quick 1 rfl ?_
  refine wpS_put rfl rfl rfl (yv_len el_22 rfl) ?_
  refine wpS_put rfl rfl rfl (yv_gtr rfl rfl) ?_
  refine wpS_nil ?_
  refine QH_seq_k hK3 ?_
  refine wpC_cond rfl (fun hb => ?_) (fun hb => ?_)
  · replace H := cond_t H hb
    refine wpC_seq_k (fun K hK5 => ?_)
    refine wpC_region ?_
    obtain ⟨r6, hm7, H⟩ := bind_some H
    refine wpS_call rfl rfl rfl rfl (by kernel_rfl) rfl (c_law07_wakes _ (SlI.of_rd hT_.k (hS.rd0 hT_.rd) (hS.blk0 hT_.blk)) hm7) ?_
    rintro e w ⟨rfl, hN⟩; refine ⟨_, rfl, ?_⟩; have hB := hN.pure; have hS := hS.join hN; clear hN
    refine wpS_quick 1 rfl ?_
    refine wpS_nil ?_
    refine QH_seq_k hK5 ?_
    refine wpC_ret ?_
    refine QH_then_ret ?_
    refine QH_ret rfl (RV.tmp rfl RV.nil) rfl ?_
    obtain rfl := Option.some.inj H
    replace hS := hS.cut 0
    exact ⟨rfl, hS⟩
  replace H := cond_f H hb
  refine wpC_skip ?_
  refine QH_seq_k hK2 ?_
  refine wpC_seq_k (fun K hK9 => ?_)
  refine wpC_region ?_
  refine wpS_quick 1 rfl ?_
  refine wpS_put rfl rfl rfl (yv_geq rfl rfl) ?_
  refine wpS_quick 1 rfl ?_
  refine wpS_case 30 rfl (fun hb => ?_) (fun hb => ?_)
  rotate_left
  · replace H := cond_f H hb
    refine wpS_quick 4 rfl ?_
    refine wpS_nil ?_
    refine QH_seq_k hK9 ?_
    refine wpC_seq_k (fun K hK236 => ?_)
    refine wpC_seq_k (fun K hK237 => ?_)
    refine wpC_region ?_
    refine wpS_quick 1 rfl ?_
    refine wpS_nil ?_
    refine QH_seq_k hK237 ?_
    refine wpC_block ?_
    refine wpC_loop (X := Nat × Bool × Int) (fun x => (0, .int .i64 x0) :: (1, .slice A0_ x1.length c0_) :: (2, .int .i64 x2) :: (3, .int .i64 x3) :: (4, .int .u8 (x4.toNat : Int)) :: (10, .bool false) :: (11, .bool x.2.1) :: (12, .int .i64 x.2.2) :: []) (fun x w => St0 All w0 w ([]) ∧ m_law07_OneBack_l2 x0 x1 x2 x3 x4 x.1 x.2.1 x.2.2 = some r) (fun x => x.1) (fuelN, false, 0) (by repeat (first | exact Sub.nil | refine Sub.cons rfl ?_)) ⟨hS, H⟩ ?_
    rintro ⟨n, v238, v239⟩ w ⟨hS, H⟩
    dsimp only at hS H ⊢
    obtain _ | n := n
    · have H0 : none = some r := H
      cases H0
    rw [m_law07_OneBack_l2] at H
    refine wpC_seq_k (fun K hK240 => ?_)
    refine wpC_seq_k (fun K hK241 => ?_)
    refine wpC_region ?_
    refine wpS_quick 2 rfl ?_
    refine wpS_put rfl rfl rfl (yv_len el_22 rfl) ?_
    refine wpS_put rfl rfl rfl (yv_lss rfl rfl) ?_
    refine wpS_nil ?_
    refine QH_seq_k hK241 ?_
    refine wpC_cond rfl (fun hb => ?_) (fun hb => ?_)
    · replace H := cond_t H hb
      refine wpC_skip ?_
      refine QH_seq_k hK240 ?_
      refine wpC_seq_k (fun K hK243 => ?_)
      refine wpC_block ?_
      refine wpC_region ?_
      refine wpS_quick 2 rfl ?_
      refine wpS_case 41 rfl (fun hb => ?_) (fun hb => ?_)
      rotate_left
      · replace H := cond_f H hb
        refine wpS_quick 7 rfl ?_
        refine wpS_nil ?_
        refine QH_block_normal ?_
        refine QH_seq_k hK243 ?_
        refine wpC_region ?_
        refine wpS_quick 1 rfl ?_
        refine wpS_put rfl rfl rfl (yx_add rfl rfl) ?_
        refine wpS_quick 1 rfl ?_
        refine wpS_nil ?_
        exact QH_again (n, false, (IntKind.wrap .i64 (v239 + 1))) (by repeat (first | exact Sub.nil | refine Sub.cons rfl ?_)) ⟨hS, H⟩ (Nat.lt_succ_self _)
      replace H := cond_t H hb
      refine wpS_quick 2 rfl ?_
      obtain ⟨e245, hi247, H⟩ := bind_some H
      obtain ⟨j246, hi247a, hi247b, hi247c⟩ := idx_some hi247
      refine wpS_put rfl rfl rfl (yx_idx el_22 rfl rfl hi247a hi247c (Rd.el (hS.rd0 s0_.rd) he_enE hi247b)) ?_
      refine wpS_put rfl rfl rfl (yx_ldA0 ag_40 rfl (RW.here _) (Rd.el (hS.rd0 s0_.rd) he_enE hi247b) sg0_3) ?_
      obtain ⟨r248, hm249, H⟩ := bind_some H
      refine wpS_call rfl rfl rfl rfl (by kernel_rfl) rfl (c_ref06_Right e245 _ hm249) ?_
      rintro e w ⟨rfl, hN⟩; refine ⟨_, rfl, ?_⟩; have hB := hN.pure; have hS := hS.join hN; clear hN
      refine wpS_quick 2 rfl ?_
      refine wpS_nil ?_
      refine QH_block_normal ?_
      refine QH_seq_k hK243 ?_
      refine wpC_region ?_
      refine wpS_quick 1 rfl ?_
      refine wpS_put rfl rfl rfl (yx_add rfl rfl) ?_
      refine wpS_quick 1 rfl ?_
      refine wpS_nil ?_
      exact QH_again (n, r248, (IntKind.wrap .i64 (v239 + 1))) (by repeat (first | exact Sub.nil | refine Sub.cons rfl ?_)) ⟨hS, H⟩ (Nat.lt_succ_self _)
    replace H := cond_f H hb
    refine wpC_exit ?_
    refine QH_then_exit ?_
    refine QH_then_exit ?_
    refine QH_block_hit ?_
    refine QH_seq_k hK236 ?_
    refine wpC_seq_k (fun K hK252 => ?_)
    refine wpC_region ?_
    refine wpS_quick 2 rfl ?_
    obtain ⟨r253, hm254, H⟩ := bind_some H
    refine wpS_call rfl rfl rfl rfl (by kernel_rfl) rfl (c_one_File x0 x1 A0_ c0_ _ (SlI.of_rd s0_.k (hS.rd0 s0_.rd) (hS.blk0 s0_.blk)) (SlI.of_rd hT_.k (hS.rd0 hT_.rd) (hS.blk0 hT_.blk)) hm254) ?_
    rintro e w ⟨A255, c256, rfl, k257, hN⟩; refine ⟨_, rfl, ?_⟩; have hB := hN.pure; have hS := hS.join hN; clear hN
    refine wpS_quick 1 rfl ?_
    refine wpS_put rfl rfl rfl (yv_extract rfl rfl) ?_
    refine wpS_put rfl rfl rfl (yv_extract rfl rfl) ?_
    refine wpS_quick 2 rfl ?_
    refine wpS_nil ?_
    refine QH_seq_k hK252 ?_
    refine wpC_seq_k (fun K hK259 => ?_)
    refine wpC_seq_k (fun K hK260 => ?_)
    refine wpC_region ?_
    refine wpS_quick 1 rfl ?_
    refine wpS_put rfl rfl rfl (yv_not rfl) ?_
    refine wpS_nil ?_
    refine QH_seq_k hK260 ?_
    refine wpC_cond rfl (fun hb => ?_) (fun hb => ?_)
    · replace H := cond_t H hb
      refine wpC_seq_k (fun K hK262 => ?_)
      refine wpC_region ?_
      refine wpS_quick 1 rfl ?_
      refine wpS_put rfl rfl rfl (yv_eql rfl rfl) ?_
      refine wpS_quick 1 rfl ?_
      refine wpS_case 58 rfl (fun hb => ?_) (fun hb => ?_)
      rotate_left
      · replace H := cond_f H hb
        refine wpS_quick 8 rfl ?_
        refine wpS_nil ?_
        refine QH_seq_k hK262 ?_
        refine wpC_ret ?_
        refine QH_then_ret ?_
        refine QH_ret rfl (RV.tmp rfl RV.nil) rfl ?_
        obtain rfl := Option.some.inj H
        replace hS := hS.cut 0
        exact ⟨rfl, hS⟩
      replace H := cond_t H hb
      refine wpS_quick 1 rfl ?_
      refine wpS_put rfl rfl rfl (yv_len el_23 rfl) ?_
      refine wpS_put rfl rfl rfl (yv_eql rfl rfl) ?_
      refine wpS_quick 2 rfl ?_
      refine wpS_case 63 rfl (fun hb => ?_) (fun hb => ?_)
      rotate_left
      · replace H := cond_f H hb
        refine wpS_quick 3 rfl ?_
        refine wpS_nil ?_
        refine QH_seq_k hK262 ?_
        refine wpC_ret ?_
        refine QH_then_ret ?_
        refine QH_ret rfl (RV.tmp rfl RV.nil) rfl ?_
        obtain rfl := Option.some.inj H
        replace hS := hS.cut 0
        exact ⟨rfl, hS⟩
      replace H := cond_t H hb
      obtain ⟨r265, hm266, H⟩ := bind_some H
      refine wpS_call rfl rfl rfl rfl (by kernel_rfl) rfl (c_law07_wakes _ (SlI.of_rd hT_.k (hS.rd0 hT_.rd) (hS.blk0 hT_.blk)) hm266) ?_
      rintro e w ⟨rfl, hN⟩; refine ⟨_, rfl, ?_⟩; have hB := hN.pure; have hS := hS.join hN; clear hN
      refine wpS_quick 2 rfl ?_
      refine wpS_nil ?_
      refine QH_seq_k hK262 ?_
      refine wpC_ret ?_
      refine QH_then_ret ?_
      refine QH_ret rfl (RV.tmp rfl RV.nil) rfl ?_
      obtain rfl := Option.some.inj H
      replace hS := hS.cut 0
      exact ⟨rfl, hS⟩
    replace H := cond_f H hb
    refine wpC_skip ?_
    refine QH_seq_k hK259 ?_
    refine wpC_seq_k (fun K hK270 => ?_)
    refine wpC_region ?_
    refine wpS_quick 1 rfl ?_
    obtain ⟨r271, hm272, H⟩ := bind_some H
    refine wpS_call rfl rfl rfl rfl (by kernel_rfl) rfl (c_one_Scan r253.1 A255 c256 _ (SlI.of_rd k257 (hS.row_rd hs0) (hS.row_blk hs0)) (SlI.of_rd hT_.k (hS.rd0 hT_.rd) (hS.blk0 hT_.blk)) hm272) ?_
    rintro e w ⟨A273, c274, rfl, k275, hN⟩; refine ⟨_, rfl, ?_⟩; have hB := hN.pure; have hS := hS.join hN; clear hN
    refine wpS_quick 1 rfl ?_
    refine wpS_put rfl rfl rfl (yv_extract rfl rfl) ?_
    refine wpS_put rfl rfl rfl (yv_extract rfl rfl) ?_
    refine wpS_alloc rfl rfl zc_33 hS (fun b277 w hS hB => ?_)
    refine wpS_store rfl rfl rfl CellsOf.agg hS ps0 st0_3 (by kernel_rfl) rfl (fun w hS hB => ?_)
    refine wpS_quick 1 rfl ?_
    refine wpS_nil ?_
    refine QH_seq_k hK270 ?_
    refine wpC_seq_k (fun K hK279 => ?_)
    refine wpC_seq_k (fun K hK280 => ?_)
    refine wpC_region ?_
    refine wpS_quick 1 rfl ?_
    refine wpS_put rfl rfl rfl (yv_neq rfl rfl) ?_
    refine wpS_quick 1 rfl ?_
    refine wpS_case 73 rfl (fun hb => ?_) (fun hb => ?_)
    · replace H := cond_t H hb
      refine wpS_quick 36 rfl ?_
      refine wpS_nil ?_
      refine QH_seq_k hK280 ?_
      refine wpC_cond_t rfl rfl ?_
      refine wpC_seq_k (fun K hK282 => ?_)
      refine wpC_region ?_
      refine wpS_quick 1 rfl ?_
      refine wpS_nil ?_
      refine QH_seq_k hK282 ?_
      refine wpC_ret ?_
      refine QH_then_ret ?_
      refine QH_ret rfl (RV.tmp rfl RV.nil) rfl ?_
      obtain rfl := Option.some.inj H
      replace hS := hS.cut 0
      exact ⟨rfl, hS⟩
    replace H := cond_f H hb
    refine wpS_quick 1 rfl ?_
    refine wpS_put rfl rfl rfl (yv_neq rfl rfl) ?_
    refine wpS_quick 2 rfl ?_
    refine wpS_case 77 rfl (fun hb => ?_) (fun hb => ?_)
    · replace H := cond_t H hb
      refine wpS_quick 32 rfl ?_
      refine wpS_nil ?_
      refine QH_seq_k hK280 ?_
      refine wpC_cond_t rfl rfl ?_
      refine wpC_seq_k (fun K hK285 => ?_)
      refine wpC_region ?_
      refine wpS_quick 1 rfl ?_
      refine wpS_nil ?_
      refine QH_seq_k hK285 ?_
      refine wpC_ret ?_
      refine QH_then_ret ?_
      refine QH_ret rfl (RV.tmp rfl RV.nil) rfl ?_
      obtain rfl := Option.some.inj H
      replace hS := hS.cut 0
      exact ⟨rfl, hS⟩
    replace H := cond_f H hb
    refine wpS_put rfl rfl rfl (yv_fieldAddr fo_33_0 rfl) ?_
    refine wpS_put rfl rfl rfl (yv_load_box sc_3 rfl (RW.here _) hS hs0 trivial sg0_1) ?_
    refine wpS_quick 1 rfl ?_
    refine wpS_put rfl rfl rfl (yv_neq rfl rfl) ?_
    refine wpS_quick 2 rfl ?_
    refine wpS_case 83 rfl (fun hb => ?_) (fun hb => ?_)
    · replace H := cond_t H hb
      refine wpS_quick 26 rfl ?_
      refine wpS_nil ?_
      refine QH_seq_k hK280 ?_
      refine wpC_cond_t rfl rfl ?_
      refine wpC_seq_k (fun K hK288 => ?_)
      refine wpC_region ?_
      refine wpS_quick 1 rfl ?_
      refine wpS_nil ?_
      refine QH_seq_k hK288 ?_
      refine wpC_ret ?_
      refine QH_then_ret ?_
      refine QH_ret rfl (RV.tmp rfl RV.nil) rfl ?_
      obtain rfl := Option.some.inj H
      replace hS := hS.cut 0
      exact ⟨rfl, hS⟩
    replace H := cond_f H hb
    refine wpS_put rfl rfl rfl (yv_fieldAddr fo_33_2 rfl) ?_
    refine wpS_put rfl rfl rfl (yv_load_box sc_3 rfl (RW.here _) hS hs0 trivial sg2_1) ?_
    refine wpS_quick 1 rfl ?_
    refine wpS_put rfl rfl rfl (yv_len el_23 rfl) ?_
    refine wpS_put rfl rfl rfl (yv_neq rfl rfl) ?_
    refine wpS_quick 2 rfl ?_
    refine wpS_case 90 rfl (fun hb => ?_) (fun hb => ?_)
    · replace H := cond_t H hb
      refine wpS_quick 19 rfl ?_
      refine wpS_nil ?_
      refine QH_seq_k hK280 ?_
      refine wpC_cond_t rfl rfl ?_
      refine wpC_seq_k (fun K hK291 => ?_)
      refine wpC_region ?_
      refine wpS_quick 1 rfl ?_
      refine wpS_nil ?_
      refine QH_seq_k hK291 ?_
      refine wpC_ret ?_
      refine QH_then_ret ?_
      refine QH_ret rfl (RV.tmp rfl RV.nil) rfl ?_
      obtain rfl := Option.some.inj H
      replace hS := hS.cut 0
      exact ⟨rfl, hS⟩
    replace H := cond_f H hb
    refine wpS_put rfl rfl rfl (yv_fieldAddr fo_33_1 rfl) ?_
    refine wpS_put rfl rfl rfl (yv_load_box sc_22 rfl (RW.here _) hS hs0 trivial sg1_1) ?_
    refine wpS_quick 1 rfl ?_
    obtain ⟨r293, hm294, H⟩ := bind_some H
    refine wpS_call rfl rfl rfl rfl (by kernel_rfl) rfl (c_ref07_Entries r271.1.log x1 A273 c274 A0_ c0_ _ (SlI.of_rd k275 (hS.row_rd hs1) (hS.row_blk hs1)) (SlI.of_rd s0_.k (hS.rd0 s0_.rd) (hS.blk0 s0_.blk)) hm294) ?_
    rintro e w ⟨rfl, hN⟩; refine ⟨_, rfl, ?_⟩; have hB := hN.pure; have hS := hS.join hN; clear hN
    refine wpS_put rfl rfl rfl (yv_not rfl) ?_
    refine wpS_quick 2 rfl ?_
    refine wpS_case 97 rfl (fun hb => ?_) (fun hb => ?_)
    · replace H := cond_t H hb
      refine wpS_quick 12 rfl ?_
      refine wpS_nil ?_
      refine QH_seq_k hK280 ?_
      refine wpC_cond_t rfl rfl ?_
      refine wpC_seq_k (fun K hK296 => ?_)
      refine wpC_region ?_
      refine wpS_quick 1 rfl ?_
      refine wpS_nil ?_
      refine QH_seq_k hK296 ?_
      refine wpC_ret ?_
      refine QH_then_ret ?_
      refine QH_ret rfl (RV.tmp rfl RV.nil) rfl ?_
      obtain rfl := Option.some.inj H
      replace hS := hS.cut 0
      exact ⟨rfl, hS⟩
    replace H := cond_f H hb
    refine wpS_quick 1 rfl ?_
    refine wpS_put rfl rfl rfl (yv_len el_23 rfl) ?_
    refine wpS_quick 1 rfl ?_
    refine wpS_put rfl rfl rfl (yv_len el_22 rfl) ?_
    obtain ⟨r298, hm299, H⟩ := bind_some H
    refine wpS_call rfl rfl rfl rfl (by kernel_rfl) rfl (c_one_Size (x1.length : Int) _ hm299) ?_
    rintro e w ⟨rfl, hN⟩; refine ⟨_, rfl, ?_⟩; have hB := hN.pure; have hS := hS.join hN; clear hN
    refine wpS_put rfl rfl rfl (yv_neq rfl rfl) ?_
    refine wpS_quick 2 rfl ?_
    refine wpS_case 105 rfl (fun hb => ?_) (fun hb => ?_)
    · replace H := cond_t H hb
      refine wpS_quick 4 rfl ?_
      refine wpS_nil ?_
      refine QH_seq_k hK280 ?_
      refine wpC_cond_t rfl rfl ?_
      refine wpC_seq_k (fun K hK301 => ?_)
      refine wpC_region ?_
      refine wpS_quick 1 rfl ?_
      refine wpS_nil ?_
      refine QH_seq_k hK301 ?_
      refine wpC_ret ?_
      refine QH_then_ret ?_
      refine QH_ret rfl (RV.tmp rfl RV.nil) rfl ?_
      obtain rfl := Option.some.inj H
      replace hS := hS.cut 0
      exact ⟨rfl, hS⟩
    replace H := cond_f H hb
    refine wpS_quick 1 rfl ?_
    refine wpS_put rfl rfl rfl (yv_len el_23 rfl) ?_
    refine wpS_put rfl rfl rfl (yv_lss rfl rfl) ?_
    refine wpS_quick 1 rfl ?_
    refine wpS_nil ?_
    refine QH_seq_k hK280 ?_
    refine wpC_cond rfl (fun hb => ?_) (fun hb => ?_)
    · replace H := cond_t H hb
      refine wpC_seq_k (fun K hK304 => ?_)
      refine wpC_region ?_
      refine wpS_quick 1 rfl ?_
      refine wpS_nil ?_
      refine QH_seq_k hK304 ?_
      refine wpC_ret ?_
      refine QH_then_ret ?_
      refine QH_ret rfl (RV.tmp rfl RV.nil) rfl ?_
      obtain rfl := Option.some.inj H
      replace hS := hS.cut 0
      exact ⟨rfl, hS⟩
    replace H := cond_f H hb
    refine wpC_skip ?_
    refine QH_seq_k hK279 ?_
    refine wpC_seq_k (fun K hK306 => ?_)
    refine wpC_region ?_
    refine wpS_quick 2 rfl ?_
    refine wpS_put rfl rfl rfl (yv_len el_23 rfl) ?_
    refine wpS_put rfl rfl rfl (yx_add rfl rfl) ?_
    obtain ⟨q307, hq308, H⟩ := bind_some H
    obtain ⟨hq308n, rfl⟩ := remI_some hq308
    refine wpS_put rfl rfl rfl (yx_rem rfl rfl hq308n) ?_
    refine wpS_quick 1 rfl ?_
    refine wpS_put rfl rfl rfl (yv_len el_23 rfl) ?_
    refine wpS_put rfl rfl rfl (yx_add rfl rfl) ?_
    refine wpS_put rfl rfl rfl (yx_add rfl rfl) ?_
    refine wpS_quick 1 rfl ?_
    refine wpS_put rfl rfl rfl (yv_len el_23 rfl) ?_
    refine wpS_put rfl rfl rfl (yx_add rfl rfl) ?_
    obtain ⟨q309, hq310, H⟩ := bind_some H
    obtain ⟨hq310n, rfl⟩ := remI_some hq310
    refine wpS_put rfl rfl rfl (yx_rem rfl rfl hq310n) ?_
    refine wpS_quick 1 rfl ?_
    refine wpS_nil ?_
    refine QH_seq_k hK306 ?_
    refine wpC_seq_k (fun K hK311 => ?_)
    refine wpC_region ?_
    refine wpS_quick 2 rfl ?_
    obtain ⟨l312, ht313, H⟩ := bind_some H
    refine wpS_put rfl rfl rfl (yx_slice_h el_23 rfl rfl k257.1 ht313) ?_
    obtain ⟨r314, hm315, H⟩ := bind_some H
    refine wpS_call rfl rfl rfl rfl (by kernel_rfl) rfl (c_one_Scan l312 A255 c256 _ (SlI.of_rd (k_take k257 ht313) (Rd.takeI he_enY (hS.row_rd hs2) ht313) (hS.row_blk hs2)) (SlI.of_rd hT_.k (hS.rd0 hT_.rd) (hS.blk0 hT_.blk)) hm315) ?_
    rintro e w ⟨A316, c317, rfl, k318, hN⟩; refine ⟨_, rfl, ?_⟩; have hB := hN.pure; have hS := hS.join hN; clear hN
    refine wpS_quick 1 rfl ?_
    refine wpS_put rfl rfl rfl (yv_extract rfl rfl) ?_
    refine wpS_put rfl rfl rfl (yv_extract rfl rfl) ?_
    refine wpS_alloc rfl rfl zc_33 hS (fun b320 w hS hB => ?_)
    refine wpS_store rfl rfl rfl CellsOf.agg hS ps0 st0_3 (by kernel_rfl) rfl (fun w hS hB => ?_)
    refine wpS_quick 1 rfl ?_
    refine wpS_nil ?_
    refine QH_seq_k hK311 ?_
    refine wpC_seq_k (fun K hK322 => ?_)
    refine wpC_seq_k (fun K hK323 => ?_)
    refine wpC_region ?_
    refine wpS_quick 1 rfl ?_
    refine wpS_put rfl rfl rfl (yv_lss rfl rfl) ?_
    refine wpS_nil ?_
    refine QH_seq_k hK323 ?_
    refine wpC_cond rfl (fun hb => ?_) (fun hb => ?_)
    · replace H := cond_t H hb
      refine wpC_seq_k (fun K hK325 => ?_)
      refine wpC_region ?_
      refine wpS_quick 1 rfl ?_
      refine wpS_put rfl rfl rfl (yv_neq rfl rfl) ?_
      refine wpS_quick 1 rfl ?_
      refine wpS_case 134 rfl (fun hb => ?_) (fun hb => ?_)
      · replace H := cond_t H hb
        refine wpS_quick 5 rfl ?_
        refine wpS_nil ?_
        refine QH_seq_k hK325 ?_
        refine wpC_cond_t rfl rfl ?_
        refine wpC_seq_k (fun K hK327 => ?_)
        refine wpC_region ?_
        refine wpS_quick 1 rfl ?_
        refine wpS_nil ?_
        refine QH_seq_k hK327 ?_
        refine wpC_ret ?_
        refine QH_then_ret ?_
        refine QH_ret rfl (RV.tmp rfl RV.nil) rfl ?_
        obtain rfl := Option.some.inj H
        replace hS := hS.cut 0
        exact ⟨rfl, hS⟩
      replace H := cond_f H hb
      refine wpS_put rfl rfl rfl (yv_fieldAddr fo_33_1 rfl) ?_
      refine wpS_put rfl rfl rfl (yv_load_box sc_22 rfl (RW.here _) hS hs0 trivial sg1_1) ?_
      refine wpS_put rfl rfl rfl (yv_len el_22 rfl) ?_
      refine wpS_put rfl rfl rfl (yv_neq rfl rfl) ?_
      refine wpS_quick 1 rfl ?_
      refine wpS_nil ?_
      refine QH_seq_k hK325 ?_
      refine wpC_cond rfl (fun hb => ?_) (fun hb => ?_)
      · replace H := cond_t H hb
        refine wpC_seq_k (fun K hK330 => ?_)
        refine wpC_region ?_
        refine wpS_quick 1 rfl ?_
        refine wpS_nil ?_
        refine QH_seq_k hK330 ?_
        refine wpC_ret ?_
        refine QH_then_ret ?_
        refine QH_ret rfl (RV.tmp rfl RV.nil) rfl ?_
        obtain rfl := Option.some.inj H
        replace hS := hS.cut 0
        exact ⟨rfl, hS⟩
      replace H := cond_f H hb
      refine wpC_skip ?_
      refine QH_seq_k hK322 ?_
      refine wpC_seq_k (fun K hK332 => ?_)
      refine wpC_seq_k (fun K hK333 => ?_)
      refine wpC_region ?_
      refine wpS_quick 1 rfl ?_
      refine wpS_put rfl rfl rfl (yv_len el_22 rfl) ?_
      refine wpS_put rfl rfl rfl (yv_eql rfl rfl) ?_
      refine wpS_quick 1 rfl ?_
      refine wpS_case 165 rfl (fun hb => ?_) (fun hb => ?_)
      · replace H := cond_t H hb
        refine wpS_quick 3 rfl ?_
        refine wpS_nil ?_
        refine QH_seq_k hK333 ?_
        refine wpC_cond_t rfl rfl ?_
        refine wpC_seq_k (fun K hK335 => ?_)
        refine wpC_region ?_
        obtain ⟨r336, hm337, H⟩ := bind_some H
        refine wpS_call rfl rfl rfl rfl (by kernel_rfl) rfl (c_law07_wakes _ (SlI.of_rd hT_.k (hS.rd0 hT_.rd) (hS.blk0 hT_.blk)) hm337) ?_
        rintro e w ⟨rfl, hN⟩; refine ⟨_, rfl, ?_⟩; have hB := hN.pure; have hS := hS.join hN; clear hN
        refine wpS_quick 1 rfl ?_
        refine wpS_nil ?_
        refine QH_seq_k hK335 ?_
        refine wpC_ret ?_
        refine QH_then_ret ?_
        refine QH_ret rfl (RV.tmp rfl RV.nil) rfl ?_
        obtain rfl := Option.some.inj H
        replace hS := hS.cut 0
        exact ⟨rfl, hS⟩
      replace H := cond_f H hb
      refine wpS_quick 1 rfl ?_
      refine wpS_put rfl rfl rfl (yv_eql rfl rfl) ?_
      refine wpS_quick 1 rfl ?_
      refine wpS_nil ?_
      refine QH_seq_k hK333 ?_
      refine wpC_cond rfl (fun hb => ?_) (fun hb => ?_)
      · replace H := cond_t H hb
        refine wpC_seq_k (fun K hK340 => ?_)
        refine wpC_region ?_
        obtain ⟨r341, hm342, H⟩ := bind_some H
        refine wpS_call rfl rfl rfl rfl (by kernel_rfl) rfl (c_law07_wakes _ (SlI.of_rd hT_.k (hS.rd0 hT_.rd) (hS.blk0 hT_.blk)) hm342) ?_
        rintro e w ⟨rfl, hN⟩; refine ⟨_, rfl, ?_⟩; have hB := hN.pure; have hS := hS.join hN; clear hN
        refine wpS_quick 1 rfl ?_
        refine wpS_nil ?_
        refine QH_seq_k hK340 ?_
        refine wpC_ret ?_
        refine QH_then_ret ?_
        refine QH_ret rfl (RV.tmp rfl RV.nil) rfl ?_
        obtain rfl := Option.some.inj H
        replace hS := hS.cut 0
        exact ⟨rfl, hS⟩
      replace H := cond_f H hb
      refine wpC_skip ?_
      refine QH_seq_k hK332 ?_
      refine wpC_seq_k (fun K hK344 => ?_)
      refine wpC_region ?_
      refine wpS_quick 1 rfl ?_
      refine wpS_put rfl rfl rfl (yv_len el_23 rfl) ?_
      refine wpS_put rfl rfl rfl (yx_sub rfl rfl) ?_
      refine wpS_quick 1 rfl ?_
      refine wpS_nil ?_
      refine QH_seq_k hK344 ?_
      refine wpC_seq_k (fun K hK345 => ?_)
      refine wpC_region ?_
      refine wpS_quick 2 rfl ?_
      obtain ⟨q346, hq347, H⟩ := bind_some H
      obtain ⟨hq347n, rfl⟩ := remI_some hq347
      refine wpS_put rfl rfl rfl (yx_rem rfl rfl hq347n) ?_
      refine wpS_quick 1 rfl ?_
      refine wpS_put rfl rfl rfl (yx_add rfl rfl) ?_
      refine wpS_quick 1 rfl ?_
      obtain ⟨q348, hq349, H⟩ := bind_some H
      obtain ⟨hq349n, rfl⟩ := remI_some hq349
      refine wpS_put rfl rfl rfl (yx_rem rfl rfl hq349n) ?_
      refine wpS_quick 1 rfl ?_
      refine wpS_nil ?_
      refine QH_seq_k hK345 ?_
      refine wpC_seq_k (fun K hK350 => ?_)
      refine wpC_region ?_
      refine wpS_slice0 el_23 rfl rfl hS (fun b351 w hS hB => ?_)
      refine wpS_quick 1 rfl ?_
      obtain ⟨l353, hf354, H⟩ := bind_some H
      refine wpX_append (ys := r253.1) he_enY oc_enY em_23 (by decide) rfl rfl rfl rfl hS (fun _ => ps0) (hS.row_rd hs5) hf354 (fun A355 c356 w k357 hS => ?_)
      refine wpS_quick 1 rfl ?_
      refine wpS_nil ?_
      refine QH_seq_k hK350 ?_
      refine wpC_seq_k (fun K hK358 => ?_)
      refine wpC_region ?_
      refine wpS_quick 2 rfl ?_
      refine wpS_put rfl rfl rfl (yx_add rfl rfl) ?_
      refine wpS_quick 2 rfl ?_
      refine wpS_put rfl rfl rfl (yx_add rfl rfl) ?_
      obtain ⟨e359, hi361, H⟩ := bind_some H
      obtain ⟨j360, hi361a, hi361b, hi361c⟩ := idx_some hi361
      refine wpS_put rfl rfl rfl (yx_idx el_23 rfl rfl hi361a hi361c (Rd.el (hS.row_rd hs0) he_enY hi361b)) ?_
      refine wpS_put rfl rfl rfl (yx_ld0 sc_5 rfl (RW.here _) (Rd.el (hS.row_rd hs0) he_enY hi361b) rfl) ?_
      refine wpS_quick 1 rfl ?_
      refine wpS_put rfl rfl rfl (yx_xor8 (a := e359) (b := x4) rfl rfl) ?_
      obtain ⟨e362, hi364, H⟩ := bind_some H
      obtain ⟨j363, hi364a, hi364b, hi364c⟩ := idx_some hi364
      refine wpS_put rfl rfl rfl (yx_idx el_23 rfl rfl hi364a hi364c (Rd.el (hS.row_rd hs0) he_enY hi364b)) ?_
      refine wpX_storeR (a' := (e359 ^^^ x4)) (zs := (setI l353 (IntKind.wrap .i64 (6 + (Int.tmod (IntKind.wrap .i64 ((Int.tmod x3 (IntKind.wrap .i64 ((r253.1.length : Int) - 6))) + (IntKind.wrap .i64 ((r253.1.length : Int) - 6)))) (IntKind.wrap .i64 ((r253.1.length : Int) - 6))))) (e359 ^^^ x4))) he_enY rfl rfl rfl CellsOf.int hS ps0 (Rd.el (hS.row_rd hs0) he_enY hi364b) hi364a hi364b rfl st0_1 (by kernel_rfl) rfl (fun w hS => ?_)
      have hi365b := setI_at (a := (e359 ^^^ x4)) hi364a hi364b
      have hi365a := hi364a
      refine wpS_nil ?_
      refine QH_seq_k hK358 ?_
      refine wpC_seq_k (fun K hK366 => ?_)
      refine wpC_region ?_
      refine wpS_quick 1 rfl ?_
      obtain ⟨r367, hm368, H⟩ := bind_some H
      refine wpS_call rfl rfl rfl rfl (by kernel_rfl) (by (repeat rw [(setI_len rfl)]); rfl) (c_one_Scan (setI l353 (IntKind.wrap .i64 (6 + (Int.tmod (IntKind.wrap .i64 ((Int.tmod x3 (IntKind.wrap .i64 ((r253.1.length : Int) - 6))) + (IntKind.wrap .i64 ((r253.1.length : Int) - 6)))) (IntKind.wrap .i64 ((r253.1.length : Int) - 6))))) (e359 ^^^ x4)) A355 c356 _ (SlI.of_rd (k_set k357) (hS.row_rd hs0) (hS.row_blk hs0)) (SlI.of_rd hT_.k (hS.rd0 hT_.rd) (hS.blk0 hT_.blk)) hm368) ?_
      rintro e w ⟨A369, c370, rfl, k371, hN⟩; refine ⟨_, rfl, ?_⟩; have hB := hN.pure; have hS := hS.join hN; clear hN
      refine wpS_quick 1 rfl ?_
      refine wpS_put rfl rfl rfl (yv_extract rfl rfl) ?_
      refine wpS_put rfl rfl rfl (yv_extract rfl rfl) ?_
      refine wpS_alloc rfl rfl zc_33 hS (fun b373 w hS hB => ?_)
      refine wpS_store rfl rfl rfl CellsOf.agg hS ps0 st0_3 (by kernel_rfl) rfl (fun w hS hB => ?_)
      refine wpS_quick 1 rfl ?_
      refine wpS_nil ?_
      refine QH_seq_k hK366 ?_
      refine wpC_seq_k (fun K hK375 => ?_)
      refine wpC_draw 24 [] (fun _ _ => True) ⟨by kernel_rfl, by kernel_rfl⟩ hS (fun w hS hB => ?_)
      refine wpR_batch [true, true, true] (by decide +kernel) (by repeat (first | exact PF.body | exact PF.round | apply PF.then | apply PF.inBlock | apply PF.jump)) ?_
      refine LtK.put rfl rfl rfl (yv_move rfl) ?_
      refine LtK.put rfl rfl rfl (yv_eql rfl rfl) ?_
      refine LtK.put rfl rfl rfl (yv_move rfl) ?_
      refine LtK.nil ?_
      refine wpR_case 201 rfl (fun hb => ?_) (fun hb => ?_)
      rotate_left
      · replace H := cond_f H hb
        refine wpR_batch [false, false, false, true, true, true, true, true, true] (by decide +kernel) (by repeat (first | exact PF.body | exact PF.round | apply PF.then | apply PF.inBlock | apply PF.jump)) ?_
        refine LtK.skip rfl rfl rfl ?_
        refine LtK.skip rfl rfl rfl ?_
        refine LtK.skip rfl rfl rfl ?_
        refine LtK.skip rfl rfl rfl ?_
        refine LtK.skip rfl rfl rfl ?_
        refine LtK.skip rfl rfl rfl ?_
        refine LtK.nil ?_
        refine wpR_call [false, false, false, false, false, false, false, false, false, true] 9 ⟨by decide, by kernel_rfl, by kernel_rfl⟩ rfl rfl ?_
        try dsimp only [pickL]
        refine wpS_skip rfl rfl rfl ?_
        refine wpS_nil ?_
        refine QH_step (Below.refl _ _) ?_
        refine wpR_batch [false, false, false, false, false, false, false, false, false, false, true, true, true, true, true, true, true, true, true, true, true] (by decide +kernel) (by repeat (first | exact PF.body | exact PF.round | apply PF.then | apply PF.inBlock | apply PF.jump)) ?_
        refine LtK.put rfl rfl rfl (yv_pick_f rfl rfl rfl) ?_
        refine LtK.put rfl rfl rfl (yv_move rfl) ?_
        refine LtK.skip rfl rfl rfl ?_
        refine LtK.skip rfl rfl rfl ?_
        refine LtK.skip rfl rfl rfl ?_
        refine LtK.skip rfl rfl rfl ?_
        refine LtK.skip rfl rfl rfl ?_
        refine LtK.skip rfl rfl rfl ?_
        refine LtK.skip rfl rfl rfl ?_
        refine LtK.put rfl rfl rfl (yv_pick_f rfl rfl rfl) ?_
        refine LtK.put rfl rfl rfl (yv_move rfl) ?_
        refine LtK.nil ?_
        refine wpR_call [false, false, false, false, false, false, false, false, false, false, false, false, false, false, false, false, false, false, false, false, false, true] 21 ⟨by decide, by kernel_rfl, by kernel_rfl⟩ rfl rfl ?_
        try dsimp only [pickL]
        refine wpS_skip rfl rfl rfl ?_
        refine wpS_nil ?_
        refine QH_step (Below.refl _ _) ?_
        refine wpR_batch [false, false, false, false, false, false, false, false, false, false, false, false, false, false, false, false, false, false, false, false, false, false, true, true] (by decide +kernel) (by repeat (first | exact PF.body | exact PF.round | apply PF.then | apply PF.inBlock | apply PF.jump)) ?_
        refine LtK.put rfl rfl rfl (yv_pick_f rfl rfl rfl) ?_
        refine LtK.put rfl rfl rfl (yv_assign rfl) ?_
        refine LtK.nil ?_
        refine wpR_end (by kernel_rfl) ?_
        refine QH_seq_k hK375 ?_
        refine wpC_ret ?_
        refine QH_ret rfl (RV.tmp rfl RV.nil) rfl ?_
        obtain rfl := Option.some.inj H
        replace hS := hS.cut 0
        exact ⟨rfl, hS⟩
      replace H := cond_t H hb
      refine wpR_batch [false, false, false, true, true, true, true, true, true] (by decide +kernel) (by repeat (first | exact PF.body | exact PF.round | apply PF.then | apply PF.inBlock | apply PF.jump)) ?_
      refine LtK.put rfl rfl rfl (yv_fieldAddr fo_33_1 rfl) ?_
      refine LtK.put rfl rfl rfl (yv_load_box sc_22 rfl (RW.below _) hS hs0 trivial sg1_1) ?_
      refine LtK.put rfl rfl rfl (yv_move rfl) ?_
      refine LtK.put rfl rfl rfl (yv_move rfl) ?_
      refine LtK.put rfl rfl rfl (yx_quo rfl rfl (by decide)) ?_
      obtain ⟨l377, ht378, H⟩ := bind_some H
      refine LtK.put rfl rfl rfl (yx_slice_h el_22 rfl rfl s0_.k.1 ht378) ?_
      refine LtK.nil ?_
      refine wpR_call [false, false, false, false, false, false, false, false, false, true] 9 ⟨by decide, by kernel_rfl, by kernel_rfl⟩ rfl rfl ?_
      try dsimp only [pickL]
      obtain ⟨r379, hm380, H⟩ := bind_some H
      refine wpS_call rfl rfl rfl rfl (by kernel_rfl) rfl (c_ref07_Entries r367.1.log l377 A369 c370 A0_ c0_ _ (SlI.of_rd k371 (hS.row_rd hs1) (hS.row_blk hs1)) (SlI.of_rd (k_take s0_.k ht378) (Rd.takeI he_enE (hS.rd0 s0_.rd) ht378) (hS.blk0 s0_.blk)) hm380) ?_
      rintro e w ⟨rfl, hN⟩; refine ⟨_, rfl, ?_⟩; have hB := hN.pure; have hS := hS.join hN; clear hN
      refine wpS_nil ?_
      refine QH_step hB ?_
      refine wpR_batch [false, false, false, false, false, false, false, false, false, false, true, true] (by decide +kernel) (by repeat (first | exact PF.body | exact PF.round | apply PF.then | apply PF.inBlock | apply PF.jump)) ?_
      refine LtK.put rfl rfl rfl (yv_pick_t rfl rfl rfl) ?_
      refine LtK.put rfl rfl rfl (yv_move rfl) ?_
      refine LtK.nil ?_
      refine wpR_case 210 rfl (fun hb => ?_) (fun hb => ?_)
      rotate_left
      · replace H := cond_f H hb
        refine wpR_batch [false, false, false, false, false, false, false, false, false, false, false, false, true, true, true, true, true, true, true, true, true] (by decide +kernel) (by repeat (first | exact PF.body | exact PF.round | apply PF.then | apply PF.inBlock | apply PF.jump)) ?_
        refine LtK.skip rfl rfl rfl ?_
        refine LtK.skip rfl rfl rfl ?_
        refine LtK.skip rfl rfl rfl ?_
        refine LtK.skip rfl rfl rfl ?_
        refine LtK.skip rfl rfl rfl ?_
        refine LtK.skip rfl rfl rfl ?_
        refine LtK.skip rfl rfl rfl ?_
        refine LtK.put rfl rfl rfl (yv_pick_f rfl rfl rfl) ?_
        refine LtK.put rfl rfl rfl (yv_move rfl) ?_
        refine LtK.nil ?_
        refine wpR_call [false, false, false, false, false, false, false, false, false, false, false, false, false, false, false, false, false, false, false, false, false, true] 21 ⟨by decide, by kernel_rfl, by kernel_rfl⟩ rfl rfl ?_
        try dsimp only [pickL]
        refine wpS_skip rfl rfl rfl ?_
        refine wpS_nil ?_
        refine QH_step (Below.refl _ _) ?_
        refine wpR_batch [false, false, false, false, false, false, false, false, false, false, false, false, false, false, false, false, false, false, false, false, false, false, true, true] (by decide +kernel) (by repeat (first | exact PF.body | exact PF.round | apply PF.then | apply PF.inBlock | apply PF.jump)) ?_
        refine LtK.put rfl rfl rfl (yv_pick_f rfl rfl rfl) ?_
        refine LtK.put rfl rfl rfl (yv_assign rfl) ?_
        refine LtK.nil ?_
        refine wpR_end (by kernel_rfl) ?_
        refine QH_seq_k hK375 ?_
        refine wpC_ret ?_
        refine QH_ret rfl (RV.tmp rfl RV.nil) rfl ?_
        obtain rfl := Option.some.inj H
        replace hS := hS.cut 0
        exact ⟨rfl, hS⟩
      replace H := cond_t H hb
      refine wpR_batch [false, false, false, false, false, false, false, false, false, false, false, false, true, true, true, true, true, true, true, true, true] (by decide +kernel) (by repeat (first | exact PF.body | exact PF.round | apply PF.then | apply PF.inBlock | apply PF.jump)) ?_
      refine LtK.put rfl rfl rfl (yv_fieldAddr fo_33_2 rfl) ?_
      refine LtK.put rfl rfl rfl (yv_load_box sc_3 rfl (RW.below _) hS hs0 trivial sg2_1) ?_
      refine LtK.put rfl rfl rfl (yv_move rfl) ?_
      refine LtK.put rfl rfl rfl (yx_quo rfl rfl (by decide)) ?_
      refine LtK.put rfl rfl rfl (yx_mul rfl rfl) ?_
      refine LtK.put rfl rfl rfl (yx_add rfl rfl) ?_
      refine LtK.put rfl rfl rfl (yv_eql rfl rfl) ?_
      refine LtK.put rfl rfl rfl (yv_pick_t rfl rfl rfl) ?_
      refine LtK.put rfl rfl rfl (yv_move rfl) ?_
      refine LtK.nil ?_
      refine wpR_case 219 rfl (fun hb => ?_) (fun hb => ?_)
      rotate_left
      · replace H := cond_f H hb
        refine wpR_call [false, false, false, false, false, false, false, false, false, false, false, false, false, false, false, false, false, false, false, false, false, true] 21 ⟨by decide, by kernel_rfl, by kernel_rfl⟩ rfl rfl ?_
        try dsimp only [pickL]
        refine wpS_skip rfl rfl rfl ?_
        refine wpS_nil ?_
        refine QH_step (Below.refl _ _) ?_
        refine wpR_batch [false, false, false, false, false, false, false, false, false, false, false, false, false, false, false, false, false, false, false, false, false, false, true, true] (by decide +kernel) (by repeat (first | exact PF.body | exact PF.round | apply PF.then | apply PF.inBlock | apply PF.jump)) ?_
        refine LtK.put rfl rfl rfl (yv_pick_f rfl rfl rfl) ?_
        refine LtK.put rfl rfl rfl (yv_assign rfl) ?_
        refine LtK.nil ?_
        refine wpR_end (by kernel_rfl) ?_
        refine QH_seq_k hK375 ?_
        refine wpC_ret ?_
        refine QH_ret rfl (RV.tmp rfl RV.nil) rfl ?_
        obtain rfl := Option.some.inj H
        replace hS := hS.cut 0
        exact ⟨rfl, hS⟩
      replace H := cond_t H hb
      refine wpR_call [false, false, false, false, false, false, false, false, false, false, false, false, false, false, false, false, false, false, false, false, false, true] 21 ⟨by decide, by kernel_rfl, by kernel_rfl⟩ rfl rfl ?_
      try dsimp only [pickL]
      obtain ⟨r383, hm384, H⟩ := bind_some H
      refine wpS_call rfl rfl rfl rfl (by kernel_rfl) rfl (c_law07_wakes _ (SlI.of_rd hT_.k (hS.rd0 hT_.rd) (hS.blk0 hT_.blk)) hm384) ?_
      rintro e w ⟨rfl, hN⟩; refine ⟨_, rfl, ?_⟩; have hB := hN.pure; have hS := hS.join hN; clear hN
      refine wpS_nil ?_
      refine QH_step hB ?_
      refine wpR_batch [false, false, false, false, false, false, false, false, false, false, false, false, false, false, false, false, false, false, false, false, false, false, true, true] (by decide +kernel) (by repeat (first | exact PF.body | exact PF.round | apply PF.then | apply PF.inBlock | apply PF.jump)) ?_
      refine LtK.put rfl rfl rfl (yv_pick_t rfl rfl rfl) ?_
      refine LtK.put rfl rfl rfl (yv_assign rfl) ?_
      refine LtK.nil ?_
      refine wpR_end (by kernel_rfl) ?_
      refine QH_seq_k hK375 ?_
      refine wpC_ret ?_
      refine QH_ret rfl (RV.tmp rfl RV.nil) rfl ?_
      obtain rfl := Option.some.inj H
      replace hS := hS.cut 0
      exact ⟨rfl, hS⟩
    replace H := cond_f H hb
    refine wpC_seq_k (fun K hK389 => ?_)
    refine wpC_region ?_
    refine wpS_quick 1 rfl ?_
    refine wpS_put rfl rfl rfl (yx_sub rfl rfl) ?_
    refine wpS_put rfl rfl rfl (yx_quo rfl rfl (by decide)) ?_
    refine wpS_quick 1 rfl ?_
    refine wpS_nil ?_
    refine QH_seq_k hK389 ?_
    refine wpC_seq_k (fun K hK390 => ?_)
    refine wpC_draw 19 [] (fun _ _ => True) ⟨by kernel_rfl, by kernel_rfl⟩ hS (fun w hS hB => ?_)
    refine wpR_batch [true, true, true] (by decide +kernel) (by repeat (first | exact PF.body | exact PF.round | apply PF.then | apply PF.inBlock | apply PF.jump)) ?_
    refine LtK.put rfl rfl rfl (yv_move rfl) ?_
    refine LtK.put rfl rfl rfl (yv_neq rfl rfl) ?_
    refine LtK.put rfl rfl rfl (yv_move rfl) ?_
    refine LtK.nil ?_
    refine wpR_case 145 rfl (fun hb => ?_) (fun hb => ?_)
    · replace H := cond_t H hb
      refine wpR_batch [false, false, false, true, true, true, true, true] (by decide +kernel) (by repeat (first | exact PF.body | exact PF.round | apply PF.then | apply PF.inBlock | apply PF.jump)) ?_
      refine LtK.skip rfl rfl rfl ?_
      refine LtK.skip rfl rfl rfl ?_
      refine LtK.skip rfl rfl rfl ?_
      refine LtK.skip rfl rfl rfl ?_
      refine LtK.skip rfl rfl rfl ?_
      refine LtK.nil ?_
      refine wpR_call [false, false, false, false, false, false, false, false, true] 8 ⟨by decide, by kernel_rfl, by kernel_rfl⟩ rfl rfl ?_
      try dsimp only [pickL]
      refine wpS_skip rfl rfl rfl ?_
      refine wpS_nil ?_
      refine QH_step (Below.refl _ _) ?_
      refine wpR_batch [false, false, false, false, false, false, false, false, false, true, true, true, true, true, true, true, true, true, true] (by decide +kernel) (by repeat (first | exact PF.body | exact PF.round | apply PF.then | apply PF.inBlock | apply PF.jump)) ?_
      refine LtK.skip rfl rfl rfl ?_
      refine LtK.put rfl rfl rfl (yv_pick_t rfl rfl rfl) ?_
      refine LtK.put rfl rfl rfl (yv_move rfl) ?_
      refine LtK.skip rfl rfl rfl ?_
      refine LtK.skip rfl rfl rfl ?_
      refine LtK.skip rfl rfl rfl ?_
      refine LtK.skip rfl rfl rfl ?_
      refine LtK.skip rfl rfl rfl ?_
      refine LtK.skip rfl rfl rfl ?_
      refine LtK.put rfl rfl rfl (yv_pick_t rfl rfl rfl) ?_
      refine LtK.nil ?_
      refine wpR_end (by kernel_rfl) ?_
      refine QH_seq_k hK390 ?_
      refine wpC_cond_t rfl rfl ?_
      refine wpC_seq_k (fun K hK392 => ?_)
      refine wpC_region ?_
      refine wpS_quick 1 rfl ?_
      refine wpS_nil ?_
      refine QH_seq_k hK392 ?_
      refine wpC_ret ?_
      refine QH_then_ret ?_
      refine QH_ret rfl (RV.tmp rfl RV.nil) rfl ?_
      obtain rfl := Option.some.inj H
      replace hS := hS.cut 0
      exact ⟨rfl, hS⟩
    replace H := cond_f H hb
    refine wpR_batch [false, false, false, true, true, true, true, true] (by decide +kernel) (by repeat (first | exact PF.body | exact PF.round | apply PF.then | apply PF.inBlock | apply PF.jump)) ?_
    refine LtK.put rfl rfl rfl (yv_fieldAddr fo_33_1 rfl) ?_
    refine LtK.put rfl rfl rfl (yv_load_box sc_22 rfl (RW.below _) hS hs0 trivial sg1_1) ?_
    refine LtK.put rfl rfl rfl (yv_move rfl) ?_
    refine LtK.put rfl rfl rfl (yv_move rfl) ?_
    obtain ⟨l394, ht395, H⟩ := bind_some H
    refine LtK.put rfl rfl rfl (yx_slice_h el_22 rfl rfl s0_.k.1 ht395) ?_
    refine LtK.nil ?_
    refine wpR_call [false, false, false, false, false, false, false, false, true] 8 ⟨by decide, by kernel_rfl, by kernel_rfl⟩ rfl rfl ?_
    try dsimp only [pickL]
    obtain ⟨r396, hm397, H⟩ := bind_some H
    refine wpS_call rfl rfl rfl rfl (by kernel_rfl) rfl (c_ref07_Entries r314.1.log l394 A316 c317 A0_ c0_ _ (SlI.of_rd k318 (hS.row_rd hs1) (hS.row_blk hs1)) (SlI.of_rd (k_take s0_.k ht395) (Rd.takeI he_enE (hS.rd0 s0_.rd) ht395) (hS.blk0 s0_.blk)) hm397) ?_
    rintro e w ⟨rfl, hN⟩; refine ⟨_, rfl, ?_⟩; have hB := hN.pure; have hS := hS.join hN; clear hN
    refine wpS_nil ?_
    refine QH_step hB ?_
    refine wpR_batch [false, false, false, false, false, false, false, false, false, true, true, true] (by decide +kernel) (by repeat (first | exact PF.body | exact PF.round | apply PF.then | apply PF.inBlock | apply PF.jump)) ?_
    refine LtK.put rfl rfl rfl (yv_not rfl) ?_
    refine LtK.put rfl rfl rfl (yv_pick_f rfl rfl rfl) ?_
    refine LtK.put rfl rfl rfl (yv_move rfl) ?_
    refine LtK.nil ?_
    refine wpR_case 154 rfl (fun hb => ?_) (fun hb => ?_)
    · replace H := cond_t H hb
      refine wpR_batch [false, false, false, false, false, false, false, false, false, false, false, false, true, true, true, true, true, true, true] (by decide +kernel) (by repeat (first | exact PF.body | exact PF.round | apply PF.then | apply PF.inBlock | apply PF.jump)) ?_
      refine LtK.skip rfl rfl rfl ?_
      refine LtK.skip rfl rfl rfl ?_
      refine LtK.skip rfl rfl rfl ?_
      refine LtK.skip rfl rfl rfl ?_
      refine LtK.skip rfl rfl rfl ?_
      refine LtK.skip rfl rfl rfl ?_
      refine LtK.put rfl rfl rfl (yv_pick_t rfl rfl rfl) ?_
      refine LtK.nil ?_
      refine wpR_end (by kernel_rfl) ?_
      refine QH_seq_k hK390 ?_
      refine wpC_cond_t rfl rfl ?_
      refine wpC_seq_k (fun K hK399 => ?_)
      refine wpC_region ?_
      refine wpS_quick 1 rfl ?_
      refine wpS_nil ?_
      refine QH_seq_k hK399 ?_
      refine wpC_ret ?_
      refine QH_then_ret ?_
      refine QH_ret rfl (RV.tmp rfl RV.nil) rfl ?_
      obtain rfl := Option.some.inj H
      replace hS := hS.cut 0
      exact ⟨rfl, hS⟩
    replace H := cond_f H hb
    refine wpR_batch [false, false, false, false, false, false, false, false, false, false, false, false, true, true, true, true, true, true, true] (by decide +kernel) (by repeat (first | exact PF.body | exact PF.round | apply PF.then | apply PF.inBlock | apply PF.jump)) ?_
    refine LtK.put rfl rfl rfl (yv_fieldAddr fo_33_2 rfl) ?_
    refine LtK.put rfl rfl rfl (yv_load_box sc_3 rfl (RW.below _) hS hs0 trivial sg2_1) ?_
    refine LtK.put rfl rfl rfl (yv_move rfl) ?_
    refine LtK.put rfl rfl rfl (yx_mul rfl rfl) ?_
    refine LtK.put rfl rfl rfl (yx_add rfl rfl) ?_
    refine LtK.put rfl rfl rfl (yv_neq rfl rfl) ?_
    refine LtK.put rfl rfl rfl (yv_pick_f rfl rfl rfl) ?_
    refine LtK.nil ?_
    refine wpR_end (by kernel_rfl) ?_
    refine QH_seq_k hK390 ?_
    refine wpC_cond rfl (fun hb => ?_) (fun hb => ?_)
    · replace H := cond_t H hb
      refine wpC_seq_k (fun K hK402 => ?_)
      refine wpC_region ?_
      refine wpS_quick 1 rfl ?_
      refine wpS_nil ?_
      refine QH_seq_k hK402 ?_
      refine wpC_ret ?_
      refine QH_then_ret ?_
      refine QH_ret rfl (RV.tmp rfl RV.nil) rfl ?_
      obtain rfl := Option.some.inj H
      replace hS := hS.cut 0
      exact ⟨rfl, hS⟩
    replace H := cond_f H hb
    refine wpC_skip ?_
    refine QH_seq_k hK322 ?_
    refine wpC_seq_k (fun K hK404 => ?_)
    refine wpC_seq_k (fun K hK405 => ?_)
    refine wpC_region ?_
    refine wpS_quick 1 rfl ?_
    refine wpS_put rfl rfl rfl (yv_len el_22 rfl) ?_
    refine wpS_put rfl rfl rfl (yv_eql rfl rfl) ?_
    refine wpS_quick 1 rfl ?_
    refine wpS_case 165 rfl (fun hb => ?_) (fun hb => ?_)
    · replace H := cond_t H hb
      refine wpS_quick 3 rfl ?_
      refine wpS_nil ?_
      refine QH_seq_k hK405 ?_
      refine wpC_cond_t rfl rfl ?_
      refine wpC_seq_k (fun K hK407 => ?_)
      refine wpC_region ?_
      obtain ⟨r408, hm409, H⟩ := bind_some H
      refine wpS_call rfl rfl rfl rfl (by kernel_rfl) rfl (c_law07_wakes _ (SlI.of_rd hT_.k (hS.rd0 hT_.rd) (hS.blk0 hT_.blk)) hm409) ?_
      rintro e w ⟨rfl, hN⟩; refine ⟨_, rfl, ?_⟩; have hB := hN.pure; have hS := hS.join hN; clear hN
      refine wpS_quick 1 rfl ?_
      refine wpS_nil ?_
      refine QH_seq_k hK407 ?_
      refine wpC_ret ?_
      refine QH_then_ret ?_
      refine QH_ret rfl (RV.tmp rfl RV.nil) rfl ?_
      obtain rfl := Option.some.inj H
      replace hS := hS.cut 0
      exact ⟨rfl, hS⟩
    replace H := cond_f H hb
    refine wpS_quick 1 rfl ?_
    refine wpS_put rfl rfl rfl (yv_eql rfl rfl) ?_
    refine wpS_quick 1 rfl ?_
    refine wpS_nil ?_
    refine QH_seq_k hK405 ?_
    refine wpC_cond rfl (fun hb => ?_) (fun hb => ?_)
    · replace H := cond_t H hb
      refine wpC_seq_k (fun K hK412 => ?_)
      refine wpC_region ?_
      obtain ⟨r413, hm414, H⟩ := bind_some H
      refine wpS_call rfl rfl rfl rfl (by kernel_rfl) rfl (c_law07_wakes _ (SlI.of_rd hT_.k (hS.rd0 hT_.rd) (hS.blk0 hT_.blk)) hm414) ?_
      rintro e w ⟨rfl, hN⟩; refine ⟨_, rfl, ?_⟩; have hB := hN.pure; have hS := hS.join hN; clear hN
      refine wpS_quick 1 rfl ?_
      refine wpS_nil ?_
      refine QH_seq_k hK412 ?_
      refine wpC_ret ?_
      refine QH_then_ret ?_
      refine QH_ret rfl (RV.tmp rfl RV.nil) rfl ?_
      obtain rfl := Option.some.inj H
      replace hS := hS.cut 0
      exact ⟨rfl, hS⟩
    replace H := cond_f H hb
    refine wpC_skip ?_
    refine QH_seq_k hK404 ?_
    refine wpC_seq_k (fun K hK416 => ?_)
    refine wpC_region ?_
    refine wpS_quick 1 rfl ?_
    refine wpS_put rfl rfl rfl (yv_len el_23 rfl) ?_
    refine wpS_put rfl rfl rfl (yx_sub rfl rfl) ?_
    refine wpS_quick 1 rfl ?_
    refine wpS_nil ?_
    refine QH_seq_k hK416 ?_
    refine wpC_seq_k (fun K hK417 => ?_)
    refine wpC_region ?_
    refine wpS_quick 2 rfl ?_
    obtain ⟨q418, hq419, H⟩ := bind_some H
    obtain ⟨hq419n, rfl⟩ := remI_some hq419
    refine wpS_put rfl rfl rfl (yx_rem rfl rfl hq419n) ?_
    refine wpS_quick 1 rfl ?_
    refine wpS_put rfl rfl rfl (yx_add rfl rfl) ?_
    refine wpS_quick 1 rfl ?_
    obtain ⟨q420, hq421, H⟩ := bind_some H
    obtain ⟨hq421n, rfl⟩ := remI_some hq421
    refine wpS_put rfl rfl rfl (yx_rem rfl rfl hq421n) ?_
    refine wpS_quick 1 rfl ?_
    refine wpS_nil ?_
    refine QH_seq_k hK417 ?_
    refine wpC_seq_k (fun K hK422 => ?_)
    refine wpC_region ?_
    refine wpS_slice0 el_23 rfl rfl hS (fun b423 w hS hB => ?_)
    refine wpS_quick 1 rfl ?_
    obtain ⟨l425, hf426, H⟩ := bind_some H
    refine wpX_append (ys := r253.1) he_enY oc_enY em_23 (by decide) rfl rfl rfl rfl hS (fun _ => ps0) (hS.row_rd hs5) hf426 (fun A427 c428 w k429 hS => ?_)
    refine wpS_quick 1 rfl ?_
    refine wpS_nil ?_
    refine QH_seq_k hK422 ?_
    refine wpC_seq_k (fun K hK430 => ?_)
    refine wpC_region ?_
    refine wpS_quick 2 rfl ?_
    refine wpS_put rfl rfl rfl (yx_add rfl rfl) ?_
    refine wpS_quick 2 rfl ?_
    refine wpS_put rfl rfl rfl (yx_add rfl rfl) ?_
    obtain ⟨e431, hi433, H⟩ := bind_some H
    obtain ⟨j432, hi433a, hi433b, hi433c⟩ := idx_some hi433
    refine wpS_put rfl rfl rfl (yx_idx el_23 rfl rfl hi433a hi433c (Rd.el (hS.row_rd hs0) he_enY hi433b)) ?_
    refine wpS_put rfl rfl rfl (yx_ld0 sc_5 rfl (RW.here _) (Rd.el (hS.row_rd hs0) he_enY hi433b) rfl) ?_
    refine wpS_quick 1 rfl ?_
    refine wpS_put rfl rfl rfl (yx_xor8 (a := e431) (b := x4) rfl rfl) ?_
    obtain ⟨e434, hi436, H⟩ := bind_some H
    obtain ⟨j435, hi436a, hi436b, hi436c⟩ := idx_some hi436
    refine wpS_put rfl rfl rfl (yx_idx el_23 rfl rfl hi436a hi436c (Rd.el (hS.row_rd hs0) he_enY hi436b)) ?_
    refine wpX_storeR (a' := (e431 ^^^ x4)) (zs := (setI l425 (IntKind.wrap .i64 (6 + (Int.tmod (IntKind.wrap .i64 ((Int.tmod x3 (IntKind.wrap .i64 ((r253.1.length : Int) - 6))) + (IntKind.wrap .i64 ((r253.1.length : Int) - 6)))) (IntKind.wrap .i64 ((r253.1.length : Int) - 6))))) (e431 ^^^ x4))) he_enY rfl rfl rfl CellsOf.int hS ps0 (Rd.el (hS.row_rd hs0) he_enY hi436b) hi436a hi436b rfl st0_1 (by kernel_rfl) rfl (fun w hS => ?_)
    have hi437b := setI_at (a := (e431 ^^^ x4)) hi436a hi436b
    have hi437a := hi436a
    refine wpS_nil ?_
    refine QH_seq_k hK430 ?_
    refine wpC_seq_k (fun K hK438 => ?_)
    refine wpC_region ?_
    refine wpS_quick 1 rfl ?_
    obtain ⟨r439, hm440, H⟩ := bind_some H
    refine wpS_call rfl rfl rfl rfl (by kernel_rfl) (by (repeat rw [(setI_len rfl)]); rfl) (c_one_Scan (setI l425 (IntKind.wrap .i64 (6 + (Int.tmod (IntKind.wrap .i64 ((Int.tmod x3 (IntKind.wrap .i64 ((r253.1.length : Int) - 6))) + (IntKind.wrap .i64 ((r253.1.length : Int) - 6)))) (IntKind.wrap .i64 ((r253.1.length : Int) - 6))))) (e431 ^^^ x4)) A427 c428 _ (SlI.of_rd (k_set k429) (hS.row_rd hs0) (hS.row_blk hs0)) (SlI.of_rd hT_.k (hS.rd0 hT_.rd) (hS.blk0 hT_.blk)) hm440) ?_
    rintro e w ⟨A441, c442, rfl, k443, hN⟩; refine ⟨_, rfl, ?_⟩; have hB := hN.pure; have hS := hS.join hN; clear hN
    refine wpS_quick 1 rfl ?_
    refine wpS_put rfl rfl rfl (yv_extract rfl rfl) ?_
    refine wpS_put rfl rfl rfl (yv_extract rfl rfl) ?_
    refine wpS_alloc rfl rfl zc_33 hS (fun b445 w hS hB => ?_)
    refine wpS_store rfl rfl rfl CellsOf.agg hS ps0 st0_3 (by kernel_rfl) rfl (fun w hS hB => ?_)
    refine wpS_quick 1 rfl ?_
    refine wpS_nil ?_
    refine QH_seq_k hK438 ?_
    refine wpC_seq_k (fun K hK447 => ?_)
    refine wpC_draw 24 [] (fun _ _ => True) ⟨by kernel_rfl, by kernel_rfl⟩ hS (fun w hS hB => ?_)
    refine wpR_batch [true, true, true] (by decide +kernel) (by repeat (first | exact PF.body | exact PF.round | apply PF.then | apply PF.inBlock | apply PF.jump)) ?_
    refine LtK.put rfl rfl rfl (yv_move rfl) ?_
    refine LtK.put rfl rfl rfl (yv_eql rfl rfl) ?_
    refine LtK.put rfl rfl rfl (yv_move rfl) ?_
    refine LtK.nil ?_
    refine wpR_case 201 rfl (fun hb => ?_) (fun hb => ?_)
    rotate_left
    · replace H := cond_f H hb
      refine wpR_batch [false, false, false, true, true, true, true, true, true] (by decide +kernel) (by repeat (first | exact PF.body | exact PF.round | apply PF.then | apply PF.inBlock | apply PF.jump)) ?_
      refine LtK.skip rfl rfl rfl ?_
      refine LtK.skip rfl rfl rfl ?_
      refine LtK.skip rfl rfl rfl ?_
      refine LtK.skip rfl rfl rfl ?_
      refine LtK.skip rfl rfl rfl ?_
      refine LtK.skip rfl rfl rfl ?_
      refine LtK.nil ?_
      refine wpR_call [false, false, false, false, false, false, false, false, false, true] 9 ⟨by decide, by kernel_rfl, by kernel_rfl⟩ rfl rfl ?_
      try dsimp only [pickL]
      refine wpS_skip rfl rfl rfl ?_
      refine wpS_nil ?_
      refine QH_step (Below.refl _ _) ?_
      refine wpR_batch [false, false, false, false, false, false, false, false, false, false, true, true, true, true, true, true, true, true, true, true, true] (by decide +kernel) (by repeat (first | exact PF.body | exact PF.round | apply PF.then | apply PF.inBlock | apply PF.jump)) ?_
      refine LtK.put rfl rfl rfl (yv_pick_f rfl rfl rfl) ?_
      refine LtK.put rfl rfl rfl (yv_move rfl) ?_
      refine LtK.skip rfl rfl rfl ?_
      refine LtK.skip rfl rfl rfl ?_
      refine LtK.skip rfl rfl rfl ?_
      refine LtK.skip rfl rfl rfl ?_
      refine LtK.skip rfl rfl rfl ?_
      refine LtK.skip rfl rfl rfl ?_
      refine LtK.skip rfl rfl rfl ?_
      refine LtK.put rfl rfl rfl (yv_pick_f rfl rfl rfl) ?_
      refine LtK.put rfl rfl rfl (yv_move rfl) ?_
      refine LtK.nil ?_
      refine wpR_call [false, false, false, false, false, false, false, false, false, false, false, false, false, false, false, false, false, false, false, false, false, true] 21 ⟨by decide, by kernel_rfl, by kernel_rfl⟩ rfl rfl ?_
      try dsimp only [pickL]
      refine wpS_skip rfl rfl rfl ?_
      refine wpS_nil ?_
      refine QH_step (Below.refl _ _) ?_
      refine wpR_batch [false, false, false, false, false, false, false, false, false, false, false, false, false, false, false, false, false, false, false, false, false, false, true, true] (by decide +kernel) (by repeat (first | exact PF.body | exact PF.round | apply PF.then | apply PF.inBlock | apply PF.jump)) ?_
      refine LtK.put rfl rfl rfl (yv_pick_f rfl rfl rfl) ?_
      refine LtK.put rfl rfl rfl (yv_assign rfl) ?_
      refine LtK.nil ?_
      refine wpR_end (by kernel_rfl) ?_
      refine QH_seq_k hK447 ?_
      refine wpC_ret ?_
      refine QH_ret rfl (RV.tmp rfl RV.nil) rfl ?_
      obtain rfl := Option.some.inj H
      replace hS := hS.cut 0
      exact ⟨rfl, hS⟩
    replace H := cond_t H hb
    refine wpR_batch [false, false, false, true, true, true, true, true, true] (by decide +kernel) (by repeat (first | exact PF.body | exact PF.round | apply PF.then | apply PF.inBlock | apply PF.jump)) ?_
    refine LtK.put rfl rfl rfl (yv_fieldAddr fo_33_1 rfl) ?_
    refine LtK.put rfl rfl rfl (yv_load_box sc_22 rfl (RW.below _) hS hs0 trivial sg1_1) ?_
    refine LtK.put rfl rfl rfl (yv_move rfl) ?_
    refine LtK.put rfl rfl rfl (yv_move rfl) ?_
    refine LtK.put rfl rfl rfl (yx_quo rfl rfl (by decide)) ?_
    obtain ⟨l449, ht450, H⟩ := bind_some H
    refine LtK.put rfl rfl rfl (yx_slice_h el_22 rfl rfl s0_.k.1 ht450) ?_
    refine LtK.nil ?_
    refine wpR_call [false, false, false, false, false, false, false, false, false, true] 9 ⟨by decide, by kernel_rfl, by kernel_rfl⟩ rfl rfl ?_
    try dsimp only [pickL]
    obtain ⟨r451, hm452, H⟩ := bind_some H
    refine wpS_call rfl rfl rfl rfl (by kernel_rfl) rfl (c_ref07_Entries r439.1.log l449 A441 c442 A0_ c0_ _ (SlI.of_rd k443 (hS.row_rd hs1) (hS.row_blk hs1)) (SlI.of_rd (k_take s0_.k ht450) (Rd.takeI he_enE (hS.rd0 s0_.rd) ht450) (hS.blk0 s0_.blk)) hm452) ?_
    rintro e w ⟨rfl, hN⟩; refine ⟨_, rfl, ?_⟩; have hB := hN.pure; have hS := hS.join hN; clear hN
    refine wpS_nil ?_
    refine QH_step hB ?_
    refine wpR_batch [false, false, false, false, false, false, false, false, false, false, true, true] (by decide +kernel) (by repeat (first | exact PF.body | exact PF.round | apply PF.then | apply PF.inBlock | apply PF.jump)) ?_
    refine LtK.put rfl rfl rfl (yv_pick_t rfl rfl rfl) ?_
    refine LtK.put rfl rfl rfl (yv_move rfl) ?_
    refine LtK.nil ?_
    refine wpR_case 210 rfl (fun hb => ?_) (fun hb => ?_)
    rotate_left
    · replace H := cond_f H hb
      refine wpR_batch [false, false, false, false, false, false, false, false, false, false, false, false, true, true, true, true, true, true, true, true, true] (by decide +kernel) (by repeat (first | exact PF.body | exact PF.round | apply PF.then | apply PF.inBlock | apply PF.jump)) ?_
      refine LtK.skip rfl rfl rfl ?_
      refine LtK.skip rfl rfl rfl ?_
      refine LtK.skip rfl rfl rfl ?_
      refine LtK.skip rfl rfl rfl ?_
      refine LtK.skip rfl rfl rfl ?_
      refine LtK.skip rfl rfl rfl ?_
      refine LtK.skip rfl rfl rfl ?_
      refine LtK.put rfl rfl rfl (yv_pick_f rfl rfl rfl) ?_
      refine LtK.put rfl rfl rfl (yv_move rfl) ?_
      refine LtK.nil ?_
      refine wpR_call [false, false, false, false, false, false, false, false, false, false, false, false, false, false, false, false, false, false, false, false, false, true] 21 ⟨by decide, by kernel_rfl, by kernel_rfl⟩ rfl rfl ?_
      try dsimp only [pickL]
      refine wpS_skip rfl rfl rfl ?_
      refine wpS_nil ?_
      refine QH_step (Below.refl _ _) ?_
      refine wpR_batch [false, false, false, false, false, false, false, false, false, false, false, false, false, false, false, false, false, false, false, false, false, false, true, true] (by decide +kernel) (by repeat (first | exact PF.body | exact PF.round | apply PF.then | apply PF.inBlock | apply PF.jump)) ?_
      refine LtK.put rfl rfl rfl (yv_pick_f rfl rfl rfl) ?_
      refine LtK.put rfl rfl rfl (yv_assign rfl) ?_
      refine LtK.nil ?_
      refine wpR_end (by kernel_rfl) ?_
      refine QH_seq_k hK447 ?_
      refine wpC_ret ?_
      refine QH_ret rfl (RV.tmp rfl RV.nil) rfl ?_
      obtain rfl := Option.some.inj H
      replace hS := hS.cut 0
      exact ⟨rfl, hS⟩
    replace H := cond_t H hb
    refine wpR_batch [false, false, false, false, false, false, false, false, false, false, false, false, true, true, true, true, true, true, true, true, true] (by decide +kernel) (by repeat (first | exact PF.body | exact PF.round | apply PF.then | apply PF.inBlock | apply PF.jump)) ?_
    refine LtK.put rfl rfl rfl (yv_fieldAddr fo_33_2 rfl) ?_
    refine LtK.put rfl rfl rfl (yv_load_box sc_3 rfl (RW.below _) hS hs0 trivial sg2_1) ?_
    refine LtK.put rfl rfl rfl (yv_move rfl) ?_
    refine LtK.put rfl rfl rfl (yx_quo rfl rfl (by decide)) ?_
    refine LtK.put rfl rfl rfl (yx_mul rfl rfl) ?_
    refine LtK.put rfl rfl rfl (yx_add rfl rfl) ?_
    refine LtK.put rfl rfl rfl (yv_eql rfl rfl) ?_
    refine LtK.put rfl rfl rfl (yv_pick_t rfl rfl rfl) ?_
    refine LtK.put rfl rfl rfl (yv_move rfl) ?_
    refine LtK.nil ?_
    refine wpR_case 219 rfl (fun hb => ?_) (fun hb => ?_)
    rotate_left
    · replace H := cond_f H hb
      refine wpR_call [false, false, false, false, false, false, false, false, false, false, false, false, false, false, false, false, false, false, false, false, false, true] 21 ⟨by decide, by kernel_rfl, by kernel_rfl⟩ rfl rfl ?_
      try dsimp only [pickL]
      refine wpS_skip rfl rfl rfl ?_
      refine wpS_nil ?_
      refine QH_step (Below.refl _ _) ?_
      refine wpR_batch [false, false, false, false, false, false, false, false, false, false, false, false, false, false, false, false, false, false, false, false, false, false, true, true] (by decide +kernel) (by repeat (first | exact PF.body | exact PF.round | apply PF.then | apply PF.inBlock | apply PF.jump)) ?_
      refine LtK.put rfl rfl rfl (yv_pick_f rfl rfl rfl) ?_
      refine LtK.put rfl rfl rfl (yv_assign rfl) ?_
      refine LtK.nil ?_
      refine wpR_end (by kernel_rfl) ?_
      refine QH_seq_k hK447 ?_
      refine wpC_ret ?_
      refine QH_ret rfl (RV.tmp rfl RV.nil) rfl ?_
      obtain rfl := Option.some.inj H
      replace hS := hS.cut 0
      exact ⟨rfl, hS⟩
    replace H := cond_t H hb
    refine wpR_call [false, false, false, false, false, false, false, false, false, false, false, false, false, false, false, false, false, false, false, false, false, true] 21 ⟨by decide, by kernel_rfl, by kernel_rfl⟩ rfl rfl ?_
    try dsimp only [pickL]
    obtain ⟨r455, hm456, H⟩ := bind_some H
    refine wpS_call rfl rfl rfl rfl (by kernel_rfl) rfl (c_law07_wakes _ (SlI.of_rd hT_.k (hS.rd0 hT_.rd) (hS.blk0 hT_.blk)) hm456) ?_
    rintro e w ⟨rfl, hN⟩; refine ⟨_, rfl, ?_⟩; have hB := hN.pure; have hS := hS.join hN; clear hN
    refine wpS_nil ?_
    refine QH_step hB ?_
    refine wpR_batch [false, false, false, false, false, false, false, false, false, false, false, false, false, false, false, false, false, false, false, false, false, false, true, true] (by decide +kernel) (by repeat (first | exact PF.body | exact PF.round | apply PF.then | apply PF.inBlock | apply PF.jump)) ?_
    refine LtK.put rfl rfl rfl (yv_pick_t rfl rfl rfl) ?_
    refine LtK.put rfl rfl rfl (yv_assign rfl) ?_
    refine LtK.nil ?_
    refine wpR_end (by kernel_rfl) ?_
    refine QH_seq_k hK447 ?_
    refine wpC_ret ?_
    refine QH_ret rfl (RV.tmp rfl RV.nil) rfl ?_
    obtain rfl := Option.some.inj H
    replace hS := hS.cut 0
    exact ⟨rfl, hS⟩
  replace H := cond_t H hb
  refine wpS_quick 1 rfl ?_
  refine wpS_put rfl rfl rfl (yv_leq rfl rfl) ?_
  refine wpS_quick 2 rfl ?_
  refine wpS_nil ?_
  refine QH_seq_k hK9 ?_
  refine wpC_seq_k (fun K hK11 => ?_)
  refine wpC_seq_k (fun K hK12 => ?_)
  refine wpC_region ?_
  refine wpS_quick 1 rfl ?_
  refine wpS_nil ?_
  refine QH_seq_k hK12 ?_
  refine wpC_block ?_
  refine wpC_loop (X := Nat × Bool × Int) (fun x => (0, .int .i64 x0) :: (1, .slice A0_ x1.length c0_) :: (2, .int .i64 x2) :: (3, .int .i64 x3) :: (4, .int .u8 (x4.toNat : Int)) :: (10, .bool false) :: (11, .bool x.2.1) :: (12, .int .i64 x.2.2) :: []) (fun x w => St0 All w0 w ([]) ∧ m_law07_OneBack_l1 x0 x1 x2 x3 x4 x.1 x.2.1 x.2.2 = some r) (fun x => x.1) (fuelN, (decide (x0 ≤ 1073741824)), 0) (by repeat (first | exact Sub.nil | refine Sub.cons rfl ?_)) ⟨hS, H⟩ ?_
  rintro ⟨n, v13, v14⟩ w ⟨hS, H⟩
  dsimp only at hS H ⊢
  obtain _ | n := n
  · have H0 : none = some r := H
    cases H0
  rw [m_law07_OneBack_l1] at H
  refine wpC_seq_k (fun K hK15 => ?_)
  refine wpC_seq_k (fun K hK16 => ?_)
  refine wpC_region ?_
  refine wpS_quick 2 rfl ?_
  refine wpS_put rfl rfl rfl (yv_len el_22 rfl) ?_
  refine wpS_put rfl rfl rfl (yv_lss rfl rfl) ?_
  refine wpS_nil ?_
  refine QH_seq_k hK16 ?_
  refine wpC_cond rfl (fun hb => ?_) (fun hb => ?_)
  · replace H := cond_t H hb
    refine wpC_skip ?_
    refine QH_seq_k hK15 ?_
    refine wpC_seq_k (fun K hK18 => ?_)
    refine wpC_block ?_
    refine wpC_region ?_
    refine wpS_quick 2 rfl ?_
    refine wpS_case 41 rfl (fun hb => ?_) (fun hb => ?_)
    rotate_left
    · replace H := cond_f H hb
      refine wpS_quick 7 rfl ?_
      refine wpS_nil ?_
      refine QH_block_normal ?_
      refine QH_seq_k hK18 ?_
      refine wpC_region ?_
      refine wpS_quick 1 rfl ?_
      refine wpS_put rfl rfl rfl (yx_add rfl rfl) ?_
      refine wpS_quick 1 rfl ?_
      refine wpS_nil ?_
      exact QH_again (n, false, (IntKind.wrap .i64 (v14 + 1))) (by repeat (first | exact Sub.nil | refine Sub.cons rfl ?_)) ⟨hS, H⟩ (Nat.lt_succ_self _)
    replace H := cond_t H hb
    refine wpS_quick 2 rfl ?_
    obtain ⟨e20, hi22, H⟩ := bind_some H
    obtain ⟨j21, hi22a, hi22b, hi22c⟩ := idx_some hi22
    refine wpS_put rfl rfl rfl (yx_idx el_22 rfl rfl hi22a hi22c (Rd.el (hS.rd0 s0_.rd) he_enE hi22b)) ?_
    refine wpS_put rfl rfl rfl (yx_ldA0 ag_40 rfl (RW.here _) (Rd.el (hS.rd0 s0_.rd) he_enE hi22b) sg0_3) ?_
    obtain ⟨r23, hm24, H⟩ := bind_some H
    refine wpS_call rfl rfl rfl rfl (by kernel_rfl) rfl (c_ref06_Right e20 _ hm24) ?_
    rintro e w ⟨rfl, hN⟩; refine ⟨_, rfl, ?_⟩; have hB := hN.pure; have hS := hS.join hN; clear hN
    refine wpS_quick 2 rfl ?_
    refine wpS_nil ?_
    refine QH_block_normal ?_
    refine QH_seq_k hK18 ?_
    refine wpC_region ?_
    refine wpS_quick 1 rfl ?_
    refine wpS_put rfl rfl rfl (yx_add rfl rfl) ?_
    refine wpS_quick 1 rfl ?_
    refine wpS_nil ?_
    exact QH_again (n, r23, (IntKind.wrap .i64 (v14 + 1))) (by repeat (first | exact Sub.nil | refine Sub.cons rfl ?_)) ⟨hS, H⟩ (Nat.lt_succ_self _)
  replace H := cond_f H hb
  refine wpC_exit ?_
  refine QH_then_exit ?_
  refine QH_then_exit ?_
  refine QH_block_hit ?_
  refine QH_seq_k hK11 ?_
  refine wpC_seq_k (fun K hK27 => ?_)
  refine wpC_region ?_
  refine wpS_quick 2 rfl ?_
  obtain ⟨r28, hm29, H⟩ := bind_some H
  refine wpS_call rfl rfl rfl rfl (by kernel_rfl) rfl (c_one_File x0 x1 A0_ c0_ _ (SlI.of_rd s0_.k (hS.rd0 s0_.rd) (hS.blk0 s0_.blk)) (SlI.of_rd hT_.k (hS.rd0 hT_.rd) (hS.blk0 hT_.blk)) hm29) ?_
  rintro e w ⟨A30, c31, rfl, k32, hN⟩; refine ⟨_, rfl, ?_⟩; have hB := hN.pure; have hS := hS.join hN; clear hN
  refine wpS_quick 1 rfl ?_
  refine wpS_put rfl rfl rfl (yv_extract rfl rfl) ?_
  refine wpS_put rfl rfl rfl (yv_extract rfl rfl) ?_
  refine wpS_quick 2 rfl ?_
  refine wpS_nil ?_
  refine QH_seq_k hK27 ?_
  refine wpC_seq_k (fun K hK34 => ?_)
  refine wpC_seq_k (fun K hK35 => ?_)
  refine wpC_region ?_
  refine wpS_quick 1 rfl ?_
  refine wpS_put rfl rfl rfl (yv_not rfl) ?_
  refine wpS_nil ?_
  refine QH_seq_k hK35 ?_
  refine wpC_cond rfl (fun hb => ?_) (fun hb => ?_)
  · replace H := cond_t H hb
    refine wpC_seq_k (fun K hK37 => ?_)
    refine wpC_region ?_
    refine wpS_quick 1 rfl ?_
    refine wpS_put rfl rfl rfl (yv_eql rfl rfl) ?_
    refine wpS_quick 1 rfl ?_
    refine wpS_case 58 rfl (fun hb => ?_) (fun hb => ?_)
    rotate_left
    · replace H := cond_f H hb
      refine wpS_quick 8 rfl ?_
      refine wpS_nil ?_
      refine QH_seq_k hK37 ?_
      refine wpC_ret ?_
      refine QH_then_ret ?_
      refine QH_ret rfl (RV.tmp rfl RV.nil) rfl ?_
      obtain rfl := Option.some.inj H
      replace hS := hS.cut 0
      exact ⟨rfl, hS⟩
    replace H := cond_t H hb
    refine wpS_quick 1 rfl ?_
    refine wpS_put rfl rfl rfl (yv_len el_23 rfl) ?_
    refine wpS_put rfl rfl rfl (yv_eql rfl rfl) ?_
    refine wpS_quick 2 rfl ?_
    refine wpS_case 63 rfl (fun hb => ?_) (fun hb => ?_)
    rotate_left
    · replace H := cond_f H hb
      refine wpS_quick 3 rfl ?_
      refine wpS_nil ?_
      refine QH_seq_k hK37 ?_
      refine wpC_ret ?_
      refine QH_then_ret ?_
      refine QH_ret rfl (RV.tmp rfl RV.nil) rfl ?_
      obtain rfl := Option.some.inj H
      replace hS := hS.cut 0
      exact ⟨rfl, hS⟩
    replace H := cond_t H hb
    obtain ⟨r40, hm41, H⟩ := bind_some H
    refine wpS_call rfl rfl rfl rfl (by kernel_rfl) rfl (c_law07_wakes _ (SlI.of_rd hT_.k (hS.rd0 hT_.rd) (hS.blk0 hT_.blk)) hm41) ?_
    rintro e w ⟨rfl, hN⟩; refine ⟨_, rfl, ?_⟩; have hB := hN.pure; have hS := hS.join hN; clear hN
    refine wpS_quick 2 rfl ?_
    refine wpS_nil ?_
    refine QH_seq_k hK37 ?_
    refine wpC_ret ?_
    refine QH_then_ret ?_
    refine QH_ret rfl (RV.tmp rfl RV.nil) rfl ?_
    obtain rfl := Option.some.inj H
    replace hS := hS.cut 0
    exact ⟨rfl, hS⟩
  replace H := cond_f H hb
  refine wpC_skip ?_
  refine QH_seq_k hK34 ?_
  refine wpC_seq_k (fun K hK45 => ?_)
  refine wpC_region ?_
  refine wpS_quick 1 rfl ?_
  obtain ⟨r46, hm47, H⟩ := bind_some H
  refine wpS_call rfl rfl rfl rfl (by kernel_rfl) rfl (c_one_Scan r28.1 A30 c31 _ (SlI.of_rd k32 (hS.row_rd hs0) (hS.row_blk hs0)) (SlI.of_rd hT_.k (hS.rd0 hT_.rd) (hS.blk0 hT_.blk)) hm47) ?_
  rintro e w ⟨A48, c49, rfl, k50, hN⟩; refine ⟨_, rfl, ?_⟩; have hB := hN.pure; have hS := hS.join hN; clear hN
  refine wpS_quick 1 rfl ?_
  refine wpS_put rfl rfl rfl (yv_extract rfl rfl) ?_
  refine wpS_put rfl rfl rfl (yv_extract rfl rfl) ?_
  refine wpS_alloc rfl rfl zc_33 hS (fun b52 w hS hB => ?_)
  refine wpS_store rfl rfl rfl CellsOf.agg hS ps0 st0_3 (by kernel_rfl) rfl (fun w hS hB => ?_)
  refine wpS_quick 1 rfl ?_
  refine wpS_nil ?_
  refine QH_seq_k hK45 ?_
  refine wpC_seq_k (fun K hK54 => ?_)
  refine wpC_seq_k (fun K hK55 => ?_)
  refine wpC_region ?_
  refine wpS_quick 1 rfl ?_
  refine wpS_put rfl rfl rfl (yv_neq rfl rfl) ?_
  refine wpS_quick 1 rfl ?_
  refine wpS_case 73 rfl (fun hb => ?_) (fun hb => ?_)
  · replace H := cond_t H hb
    refine wpS_quick 36 rfl ?_
    refine wpS_nil ?_
    refine QH_seq_k hK55 ?_
    refine wpC_cond_t rfl rfl ?_
    refine wpC_seq_k (fun K hK57 => ?_)
    refine wpC_region ?_
    refine wpS_quick 1 rfl ?_
    refine wpS_nil ?_
    refine QH_seq_k hK57 ?_
    refine wpC_ret ?_
    refine QH_then_ret ?_
    refine QH_ret rfl (RV.tmp rfl RV.nil) rfl ?_
    obtain rfl := Option.some.inj H
    replace hS := hS.cut 0
    exact ⟨rfl, hS⟩
  replace H := cond_f H hb
  refine wpS_quick 1 rfl ?_
  refine wpS_put rfl rfl rfl (yv_neq rfl rfl) ?_
  refine wpS_quick 2 rfl ?_
  refine wpS_case 77 rfl (fun hb => ?_) (fun hb => ?_)
  · replace H := cond_t H hb
    refine wpS_quick 32 rfl ?_
    refine wpS_nil ?_
    refine QH_seq_k hK55 ?_
    refine wpC_cond_t rfl rfl ?_
    refine wpC_seq_k (fun K hK60 => ?_)
    refine wpC_region ?_
    refine wpS_quick 1 rfl ?_
    refine wpS_nil ?_
    refine QH_seq_k hK60 ?_
    refine wpC_ret ?_
    refine QH_then_ret ?_
    refine QH_ret rfl (RV.tmp rfl RV.nil) rfl ?_
    obtain rfl := Option.some.inj H
    replace hS := hS.cut 0
    exact ⟨rfl, hS⟩
  replace H := cond_f H hb
  refine wpS_put rfl rfl rfl (yv_fieldAddr fo_33_0 rfl) ?_
  refine wpS_put rfl rfl rfl (yv_load_box sc_3 rfl (RW.here _) hS hs0 trivial sg0_1) ?_
  refine wpS_quick 1 rfl ?_
  refine wpS_put rfl rfl rfl (yv_neq rfl rfl) ?_
  refine wpS_quick 2 rfl ?_
  refine wpS_case 83 rfl (fun hb => ?_) (fun hb => ?_)
  · replace H := cond_t H hb
    refine wpS_quick 26 rfl ?_
    refine wpS_nil ?_
    refine QH_seq_k hK55 ?_
    refine wpC_cond_t rfl rfl ?_
    refine wpC_seq_k (fun K hK63 => ?_)
    refine wpC_region ?_
    refine wpS_quick 1 rfl ?_
    refine wpS_nil ?_
    refine QH_seq_k hK63 ?_
    refine wpC_ret ?_
    refine QH_then_ret ?_
    refine QH_ret rfl (RV.tmp rfl RV.nil) rfl ?_
    obtain rfl := Option.some.inj H
    replace hS := hS.cut 0
    exact ⟨rfl, hS⟩
  replace H := cond_f H hb
  refine wpS_put rfl rfl rfl (yv_fieldAddr fo_33_2 rfl) ?_
  refine wpS_put rfl rfl rfl (yv_load_box sc_3 rfl (RW.here _) hS hs0 trivial sg2_1) ?_
  refine wpS_quick 1 rfl ?_
  refine wpS_put rfl rfl rfl (yv_len el_23 rfl) ?_
  refine wpS_put rfl rfl rfl (yv_neq rfl rfl) ?_
  refine wpS_quick 2 rfl ?_
  refine wpS_case 90 rfl (fun hb => ?_) (fun hb => ?_)
  · replace H := cond_t H hb
    refine wpS_quick 19 rfl ?_
    refine wpS_nil ?_
    refine QH_seq_k hK55 ?_
    refine wpC_cond_t rfl rfl ?_
    refine wpC_seq_k (fun K hK66 => ?_)
    refine wpC_region ?_
    refine wpS_quick 1 rfl ?_
    refine wpS_nil ?_
    refine QH_seq_k hK66 ?_
    refine wpC_ret ?_
    refine QH_then_ret ?_
    refine QH_ret rfl (RV.tmp rfl RV.nil) rfl ?_
    obtain rfl := Option.some.inj H
    replace hS := hS.cut 0
    exact ⟨rfl, hS⟩
  replace H := cond_f H hb
  refine wpS_put rfl rfl rfl (yv_fieldAddr fo_33_1 rfl) ?_
  refine wpS_put rfl rfl rfl (yv_load_box sc_22 rfl (RW.here _) hS hs0 trivial sg1_1) ?_
  refine wpS_quick 1 rfl ?_
  obtain ⟨r68, hm69, H⟩ := bind_some H
  refine wpS_call rfl rfl rfl rfl (by kernel_rfl) rfl (c_ref07_Entries r46.1.log x1 A48 c49 A0_ c0_ _ (SlI.of_rd k50 (hS.row_rd hs1) (hS.row_blk hs1)) (SlI.of_rd s0_.k (hS.rd0 s0_.rd) (hS.blk0 s0_.blk)) hm69) ?_
  rintro e w ⟨rfl, hN⟩; refine ⟨_, rfl, ?_⟩; have hB := hN.pure; have hS := hS.join hN; clear hN
  refine wpS_put rfl rfl rfl (yv_not rfl) ?_
  refine wpS_quick 2 rfl ?_
  refine wpS_case 97 rfl (fun hb => ?_) (fun hb => ?_)
  · replace H := cond_t H hb
    refine wpS_quick 12 rfl ?_
    refine wpS_nil ?_
    refine QH_seq_k hK55 ?_
    refine wpC_cond_t rfl rfl ?_
    refine wpC_seq_k (fun K hK71 => ?_)
    refine wpC_region ?_
    refine wpS_quick 1 rfl ?_
    refine wpS_nil ?_
    refine QH_seq_k hK71 ?_
    refine wpC_ret ?_
    refine QH_then_ret ?_
    refine QH_ret rfl (RV.tmp rfl RV.nil) rfl ?_
    obtain rfl := Option.some.inj H
    replace hS := hS.cut 0
    exact ⟨rfl, hS⟩
  replace H := cond_f H hb
  refine wpS_quick 1 rfl ?_
  refine wpS_put rfl rfl rfl (yv_len el_23 rfl) ?_
  refine wpS_quick 1 rfl ?_
  refine wpS_put rfl rfl rfl (yv_len el_22 rfl) ?_
  obtain ⟨r73, hm74, H⟩ := bind_some H
  refine wpS_call rfl rfl rfl rfl (by kernel_rfl) rfl (c_one_Size (x1.length : Int) _ hm74) ?_
  rintro e w ⟨rfl, hN⟩; refine ⟨_, rfl, ?_⟩; have hB := hN.pure; have hS := hS.join hN; clear hN
  refine wpS_put rfl rfl rfl (yv_neq rfl rfl) ?_
  refine wpS_quick 2 rfl ?_
  refine wpS_case 105 rfl (fun hb => ?_) (fun hb => ?_)
  · replace H := cond_t H hb
    refine wpS_quick 4 rfl ?_
    refine wpS_nil ?_
    refine QH_seq_k hK55 ?_
    refine wpC_cond_t rfl rfl ?_
    refine wpC_seq_k (fun K hK76 => ?_)
    refine wpC_region ?_
    refine wpS_quick 1 rfl ?_
    refine wpS_nil ?_
    refine QH_seq_k hK76 ?_
    refine wpC_ret ?_
    refine QH_then_ret ?_
    refine QH_ret rfl (RV.tmp rfl RV.nil) rfl ?_
    obtain rfl := Option.some.inj H
    replace hS := hS.cut 0
    exact ⟨rfl, hS⟩
  replace H := cond_f H hb
  refine wpS_quick 1 rfl ?_
  refine wpS_put rfl rfl rfl (yv_len el_23 rfl) ?_
  refine wpS_put rfl rfl rfl (yv_lss rfl rfl) ?_
  refine wpS_quick 1 rfl ?_
  refine wpS_nil ?_
  refine QH_seq_k hK55 ?_
  refine wpC_cond rfl (fun hb => ?_) (fun hb => ?_)
  · replace H := cond_t H hb
    refine wpC_seq_k (fun K hK79 => ?_)
    refine wpC_region ?_
    refine wpS_quick 1 rfl ?_
    refine wpS_nil ?_
    refine QH_seq_k hK79 ?_
    refine wpC_ret ?_
    refine QH_then_ret ?_
    refine QH_ret rfl (RV.tmp rfl RV.nil) rfl ?_
    obtain rfl := Option.some.inj H
    replace hS := hS.cut 0
    exact ⟨rfl, hS⟩
  replace H := cond_f H hb
  refine wpC_skip ?_
  refine QH_seq_k hK54 ?_
  refine wpC_seq_k (fun K hK81 => ?_)
  refine wpC_region ?_
  refine wpS_quick 2 rfl ?_
  refine wpS_put rfl rfl rfl (yv_len el_23 rfl) ?_
  refine wpS_put rfl rfl rfl (yx_add rfl rfl) ?_
  obtain ⟨q82, hq83, H⟩ := bind_some H
  obtain ⟨hq83n, rfl⟩ := remI_some hq83
  refine wpS_put rfl rfl rfl (yx_rem rfl rfl hq83n) ?_
  refine wpS_quick 1 rfl ?_
  refine wpS_put rfl rfl rfl (yv_len el_23 rfl) ?_
  refine wpS_put rfl rfl rfl (yx_add rfl rfl) ?_
  refine wpS_put rfl rfl rfl (yx_add rfl rfl) ?_
  refine wpS_quick 1 rfl ?_
  refine wpS_put rfl rfl rfl (yv_len el_23 rfl) ?_
  refine wpS_put rfl rfl rfl (yx_add rfl rfl) ?_
  obtain ⟨q84, hq85, H⟩ := bind_some H
  obtain ⟨hq85n, rfl⟩ := remI_some hq85
  refine wpS_put rfl rfl rfl (yx_rem rfl rfl hq85n) ?_
  refine wpS_quick 1 rfl ?_
  refine wpS_nil ?_
  refine QH_seq_k hK81 ?_
  refine wpC_seq_k (fun K hK86 => ?_)
  refine wpC_region ?_
  refine wpS_quick 2 rfl ?_
  obtain ⟨l87, ht88, H⟩ := bind_some H
  refine wpS_put rfl rfl rfl (yx_slice_h el_23 rfl rfl k32.1 ht88) ?_
  obtain ⟨r89, hm90, H⟩ := bind_some H
  refine wpS_call rfl rfl rfl rfl (by kernel_rfl) rfl (c_one_Scan l87 A30 c31 _ (SlI.of_rd (k_take k32 ht88) (Rd.takeI he_enY (hS.row_rd hs2) ht88) (hS.row_blk hs2)) (SlI.of_rd hT_.k (hS.rd0 hT_.rd) (hS.blk0 hT_.blk)) hm90) ?_
  rintro e w ⟨A91, c92, rfl, k93, hN⟩; refine ⟨_, rfl, ?_⟩; have hB := hN.pure; have hS := hS.join hN; clear hN
  refine wpS_quick 1 rfl ?_
  refine wpS_put rfl rfl rfl (yv_extract rfl rfl) ?_
  refine wpS_put rfl rfl rfl (yv_extract rfl rfl) ?_
  refine wpS_alloc rfl rfl zc_33 hS (fun b95 w hS hB => ?_)
  refine wpS_store rfl rfl rfl CellsOf.agg hS ps0 st0_3 (by kernel_rfl) rfl (fun w hS hB => ?_)
  refine wpS_quick 1 rfl ?_
  refine wpS_nil ?_
  refine QH_seq_k hK86 ?_
  refine wpC_seq_k (fun K hK97 => ?_)
  refine wpC_seq_k (fun K hK98 => ?_)
  refine wpC_region ?_
  refine wpS_quick 1 rfl ?_
  refine wpS_put rfl rfl rfl (yv_lss rfl rfl) ?_
  refine wpS_nil ?_
  refine QH_seq_k hK98 ?_
  refine wpC_cond rfl (fun hb => ?_) (fun hb => ?_)
  · replace H := cond_t H hb
    refine wpC_seq_k (fun K hK100 => ?_)
    refine wpC_region ?_
    refine wpS_quick 1 rfl ?_
    refine wpS_put rfl rfl rfl (yv_neq rfl rfl) ?_
    refine wpS_quick 1 rfl ?_
    refine wpS_case 134 rfl (fun hb => ?_) (fun hb => ?_)
    · replace H := cond_t H hb
      refine wpS_quick 5 rfl ?_
      refine wpS_nil ?_
      refine QH_seq_k hK100 ?_
      refine wpC_cond_t rfl rfl ?_
      refine wpC_seq_k (fun K hK102 => ?_)
      refine wpC_region ?_
      refine wpS_quick 1 rfl ?_
      refine wpS_nil ?_
      refine QH_seq_k hK102 ?_
      refine wpC_ret ?_
      refine QH_then_ret ?_
      refine QH_ret rfl (RV.tmp rfl RV.nil) rfl ?_
      obtain rfl := Option.some.inj H
      replace hS := hS.cut 0
      exact ⟨rfl, hS⟩
    replace H := cond_f H hb
    refine wpS_put rfl rfl rfl (yv_fieldAddr fo_33_1 rfl) ?_
    refine wpS_put rfl rfl rfl (yv_load_box sc_22 rfl (RW.here _) hS hs0 trivial sg1_1) ?_
    refine wpS_put rfl rfl rfl (yv_len el_22 rfl) ?_
    refine wpS_put rfl rfl rfl (yv_neq rfl rfl) ?_
    refine wpS_quick 1 rfl ?_
    refine wpS_nil ?_
    refine QH_seq_k hK100 ?_
    refine wpC_cond rfl (fun hb => ?_) (fun hb => ?_)
    · replace H := cond_t H hb
      refine wpC_seq_k (fun K hK105 => ?_)
      refine wpC_region ?_
      refine wpS_quick 1 rfl ?_
      refine wpS_nil ?_
      refine QH_seq_k hK105 ?_
      refine wpC_ret ?_
      refine QH_then_ret ?_
      refine QH_ret rfl (RV.tmp rfl RV.nil) rfl ?_
      obtain rfl := Option.some.inj H
      replace hS := hS.cut 0
      exact ⟨rfl, hS⟩
    replace H := cond_f H hb
    refine wpC_skip ?_
    refine QH_seq_k hK97 ?_
    refine wpC_seq_k (fun K hK107 => ?_)
    refine wpC_seq_k (fun K hK108 => ?_)
    refine wpC_region ?_
    refine wpS_quick 1 rfl ?_
    refine wpS_put rfl rfl rfl (yv_len el_22 rfl) ?_
    refine wpS_put rfl rfl rfl (yv_eql rfl rfl) ?_
    refine wpS_quick 1 rfl ?_
    refine wpS_case 165 rfl (fun hb => ?_) (fun hb => ?_)
    · replace H := cond_t H hb
      refine wpS_quick 3 rfl ?_
      refine wpS_nil ?_
      refine QH_seq_k hK108 ?_
      refine wpC_cond_t rfl rfl ?_
      refine wpC_seq_k (fun K hK110 => ?_)
      refine wpC_region ?_
      obtain ⟨r111, hm112, H⟩ := bind_some H
      refine wpS_call rfl rfl rfl rfl (by kernel_rfl) rfl (c_law07_wakes _ (SlI.of_rd hT_.k (hS.rd0 hT_.rd) (hS.blk0 hT_.blk)) hm112) ?_
      rintro e w ⟨rfl, hN⟩; refine ⟨_, rfl, ?_⟩; have hB := hN.pure; have hS := hS.join hN; clear hN
      refine wpS_quick 1 rfl ?_
      refine wpS_nil ?_
      refine QH_seq_k hK110 ?_
      refine wpC_ret ?_
      refine QH_then_ret ?_
      refine QH_ret rfl (RV.tmp rfl RV.nil) rfl ?_
      obtain rfl := Option.some.inj H
      replace hS := hS.cut 0
      exact ⟨rfl, hS⟩
    replace H := cond_f H hb
    refine wpS_quick 1 rfl ?_
    refine wpS_put rfl rfl rfl (yv_eql rfl rfl) ?_
    refine wpS_quick 1 rfl ?_
    refine wpS_nil ?_
    refine QH_seq_k hK108 ?_
    refine wpC_cond rfl (fun hb => ?_) (fun hb => ?_)
    · replace H := cond_t H hb
      refine wpC_seq_k (fun K hK115 => ?_)
      refine wpC_region ?_
      obtain ⟨r116, hm117, H⟩ := bind_some H
      refine wpS_call rfl rfl rfl rfl (by kernel_rfl) rfl (c_law07_wakes _ (SlI.of_rd hT_.k (hS.rd0 hT_.rd) (hS.blk0 hT_.blk)) hm117) ?_
      rintro e w ⟨rfl, hN⟩; refine ⟨_, rfl, ?_⟩; have hB := hN.pure; have hS := hS.join hN; clear hN
      refine wpS_quick 1 rfl ?_
      refine wpS_nil ?_
      refine QH_seq_k hK115 ?_
      refine wpC_ret ?_
      refine QH_then_ret ?_
      refine QH_ret rfl (RV.tmp rfl RV.nil) rfl ?_
      obtain rfl := Option.some.inj H
      replace hS := hS.cut 0
      exact ⟨rfl, hS⟩
    replace H := cond_f H hb
    refine wpC_skip ?_
    refine QH_seq_k hK107 ?_
    refine wpC_seq_k (fun K hK119 => ?_)
    refine wpC_region ?_
    refine wpS_quick 1 rfl ?_
    refine wpS_put rfl rfl rfl (yv_len el_23 rfl) ?_
    refine wpS_put rfl rfl rfl (yx_sub rfl rfl) ?_
    refine wpS_quick 1 rfl ?_
    refine wpS_nil ?_
    refine QH_seq_k hK119 ?_
    refine wpC_seq_k (fun K hK120 => ?_)
    refine wpC_region ?_
    refine wpS_quick 2 rfl ?_
    obtain ⟨q121, hq122, H⟩ := bind_some H
    obtain ⟨hq122n, rfl⟩ := remI_some hq122
    refine wpS_put rfl rfl rfl (yx_rem rfl rfl hq122n) ?_
    refine wpS_quick 1 rfl ?_
    refine wpS_put rfl rfl rfl (yx_add rfl rfl) ?_
    refine wpS_quick 1 rfl ?_
    obtain ⟨q123, hq124, H⟩ := bind_some H
    obtain ⟨hq124n, rfl⟩ := remI_some hq124
    refine wpS_put rfl rfl rfl (yx_rem rfl rfl hq124n) ?_
    refine wpS_quick 1 rfl ?_
    refine wpS_nil ?_
    refine QH_seq_k hK120 ?_
    refine wpC_seq_k (fun K hK125 => ?_)
    refine wpC_region ?_
    refine wpS_slice0 el_23 rfl rfl hS (fun b126 w hS hB => ?_)
    refine wpS_quick 1 rfl ?_
    obtain ⟨l128, hf129, H⟩ := bind_some H
    refine wpX_append (ys := r28.1) he_enY oc_enY em_23 (by decide) rfl rfl rfl rfl hS (fun _ => ps0) (hS.row_rd hs5) hf129 (fun A130 c131 w k132 hS => ?_)
    refine wpS_quick 1 rfl ?_
    refine wpS_nil ?_
    refine QH_seq_k hK125 ?_
    refine wpC_seq_k (fun K hK133 => ?_)
    refine wpC_region ?_
    refine wpS_quick 2 rfl ?_
    refine wpS_put rfl rfl rfl (yx_add rfl rfl) ?_
    refine wpS_quick 2 rfl ?_
    refine wpS_put rfl rfl rfl (yx_add rfl rfl) ?_
    obtain ⟨e134, hi136, H⟩ := bind_some H
    obtain ⟨j135, hi136a, hi136b, hi136c⟩ := idx_some hi136
    refine wpS_put rfl rfl rfl (yx_idx el_23 rfl rfl hi136a hi136c (Rd.el (hS.row_rd hs0) he_enY hi136b)) ?_
    refine wpS_put rfl rfl rfl (yx_ld0 sc_5 rfl (RW.here _) (Rd.el (hS.row_rd hs0) he_enY hi136b) rfl) ?_
    refine wpS_quick 1 rfl ?_
    refine wpS_put rfl rfl rfl (yx_xor8 (a := e134) (b := x4) rfl rfl) ?_
    obtain ⟨e137, hi139, H⟩ := bind_some H
    obtain ⟨j138, hi139a, hi139b, hi139c⟩ := idx_some hi139
    refine wpS_put rfl rfl rfl (yx_idx el_23 rfl rfl hi139a hi139c (Rd.el (hS.row_rd hs0) he_enY hi139b)) ?_
    refine wpX_storeR (a' := (e134 ^^^ x4)) (zs := (setI l128 (IntKind.wrap .i64 (6 + (Int.tmod (IntKind.wrap .i64 ((Int.tmod x3 (IntKind.wrap .i64 ((r28.1.length : Int) - 6))) + (IntKind.wrap .i64 ((r28.1.length : Int) - 6)))) (IntKind.wrap .i64 ((r28.1.length : Int) - 6))))) (e134 ^^^ x4))) he_enY rfl rfl rfl CellsOf.int hS ps0 (Rd.el (hS.row_rd hs0) he_enY hi139b) hi139a hi139b rfl st0_1 (by kernel_rfl) rfl (fun w hS => ?_)
    have hi140b := setI_at (a := (e134 ^^^ x4)) hi139a hi139b
    have hi140a := hi139a
    refine wpS_nil ?_
    refine QH_seq_k hK133 ?_
    refine wpC_seq_k (fun K hK141 => ?_)
    refine wpC_region ?_
    refine wpS_quick 1 rfl ?_
    obtain ⟨r142, hm143, H⟩ := bind_some H
    refine wpS_call rfl rfl rfl rfl (by kernel_rfl) (by (repeat rw [(setI_len rfl)]); rfl) (c_one_Scan (setI l128 (IntKind.wrap .i64 (6 + (Int.tmod (IntKind.wrap .i64 ((Int.tmod x3 (IntKind.wrap .i64 ((r28.1.length : Int) - 6))) + (IntKind.wrap .i64 ((r28.1.length : Int) - 6)))) (IntKind.wrap .i64 ((r28.1.length : Int) - 6))))) (e134 ^^^ x4)) A130 c131 _ (SlI.of_rd (k_set k132) (hS.row_rd hs0) (hS.row_blk hs0)) (SlI.of_rd hT_.k (hS.rd0 hT_.rd) (hS.blk0 hT_.blk)) hm143) ?_
    rintro e w ⟨A144, c145, rfl, k146, hN⟩; refine ⟨_, rfl, ?_⟩; have hB := hN.pure; have hS := hS.join hN; clear hN
    refine wpS_quick 1 rfl ?_
    refine wpS_put rfl rfl rfl (yv_extract rfl rfl) ?_
    refine wpS_put rfl rfl rfl (yv_extract rfl rfl) ?_
    refine wpS_alloc rfl rfl zc_33 hS (fun b148 w hS hB => ?_)
    refine wpS_store rfl rfl rfl CellsOf.agg hS ps0 st0_3 (by kernel_rfl) rfl (fun w hS hB => ?_)
    refine wpS_quick 1 rfl ?_
    refine wpS_nil ?_
    refine QH_seq_k hK141 ?_
    refine wpC_seq_k (fun K hK150 => ?_)
    refine wpC_draw 24 [] (fun _ _ => True) ⟨by kernel_rfl, by kernel_rfl⟩ hS (fun w hS hB => ?_)
    refine wpR_batch [true, true, true] (by decide +kernel) (by repeat (first | exact PF.body | exact PF.round | apply PF.then | apply PF.inBlock | apply PF.jump)) ?_
    refine LtK.put rfl rfl rfl (yv_move rfl) ?_
    refine LtK.put rfl rfl rfl (yv_eql rfl rfl) ?_
    refine LtK.put rfl rfl rfl (yv_move rfl) ?_
    refine LtK.nil ?_
    refine wpR_case 201 rfl (fun hb => ?_) (fun hb => ?_)
    rotate_left
    · replace H := cond_f H hb
      refine wpR_batch [false, false, false, true, true, true, true, true, true] (by decide +kernel) (by repeat (first | exact PF.body | exact PF.round | apply PF.then | apply PF.inBlock | apply PF.jump)) ?_
      refine LtK.skip rfl rfl rfl ?_
      refine LtK.skip rfl rfl rfl ?_
      refine LtK.skip rfl rfl rfl ?_
      refine LtK.skip rfl rfl rfl ?_
      refine LtK.skip rfl rfl rfl ?_
      refine LtK.skip rfl rfl rfl ?_
      refine LtK.nil ?_
      refine wpR_call [false, false, false, false, false, false, false, false, false, true] 9 ⟨by decide, by kernel_rfl, by kernel_rfl⟩ rfl rfl ?_
      try dsimp only [pickL]
      refine wpS_skip rfl rfl rfl ?_
      refine wpS_nil ?_
      refine QH_step (Below.refl _ _) ?_
      refine wpR_batch [false, false, false, false, false, false, false, false, false, false, true, true, true, true, true, true, true, true, true, true, true] (by decide +kernel) (by repeat (first | exact PF.body | exact PF.round | apply PF.then | apply PF.inBlock | apply PF.jump)) ?_
      refine LtK.put rfl rfl rfl (yv_pick_f rfl rfl rfl) ?_
      refine LtK.put rfl rfl rfl (yv_move rfl) ?_
      refine LtK.skip rfl rfl rfl ?_
      refine LtK.skip rfl rfl rfl ?_
      refine LtK.skip rfl rfl rfl ?_
      refine LtK.skip rfl rfl rfl ?_
      refine LtK.skip rfl rfl rfl ?_
      refine LtK.skip rfl rfl rfl ?_
      refine LtK.skip rfl rfl rfl ?_
      refine LtK.put rfl rfl rfl (yv_pick_f rfl rfl rfl) ?_
      refine LtK.put rfl rfl rfl (yv_move rfl) ?_
      refine LtK.nil ?_
      refine wpR_call [false, false, false, false, false, false, false, false, false, false, false, false, false, false, false, false, false, false, false, false, false, true] 21 ⟨by decide, by kernel_rfl, by kernel_rfl⟩ rfl rfl ?_
      try dsimp only [pickL]
      refine wpS_skip rfl rfl rfl ?_
      refine wpS_nil ?_
      refine QH_step (Below.refl _ _) ?_
      refine wpR_batch [false, false, false, false, false, false, false, false, false, false, false, false, false, false, false, false, false, false, false, false, false, false, true, true] (by decide +kernel) (by repeat (first | exact PF.body | exact PF.round | apply PF.then | apply PF.inBlock | apply PF.jump)) ?_
      refine LtK.put rfl rfl rfl (yv_pick_f rfl rfl rfl) ?_
      refine LtK.put rfl rfl rfl (yv_assign rfl) ?_
      refine LtK.nil ?_
      refine wpR_end (by kernel_rfl) ?_
      refine QH_seq_k hK150 ?_
      refine wpC_ret ?_
      refine QH_ret rfl (RV.tmp rfl RV.nil) rfl ?_
      obtain rfl := Option.some.inj H
      replace hS := hS.cut 0
      exact ⟨rfl, hS⟩
    replace H := cond_t H hb
    refine wpR_batch [false, false, false, true, true, true, true, true, true] (by decide +kernel) (by repeat (first | exact PF.body | exact PF.round | apply PF.then | apply PF.inBlock | apply PF.jump)) ?_
    refine LtK.put rfl rfl rfl (yv_fieldAddr fo_33_1 rfl) ?_
    refine LtK.put rfl rfl rfl (yv_load_box sc_22 rfl (RW.below _) hS hs0 trivial sg1_1) ?_
    refine LtK.put rfl rfl rfl (yv_move rfl) ?_
    refine LtK.put rfl rfl rfl (yv_move rfl) ?_
    refine LtK.put rfl rfl rfl (yx_quo rfl rfl (by decide)) ?_
    obtain ⟨l152, ht153, H⟩ := bind_some H
    refine LtK.put rfl rfl rfl (yx_slice_h el_22 rfl rfl s0_.k.1 ht153) ?_
    refine LtK.nil ?_
    refine wpR_call [false, false, false, false, false, false, false, false, false, true] 9 ⟨by decide, by kernel_rfl, by kernel_rfl⟩ rfl rfl ?_
    try dsimp only [pickL]
    obtain ⟨r154, hm155, H⟩ := bind_some H
    refine wpS_call rfl rfl rfl rfl (by kernel_rfl) rfl (c_ref07_Entries r142.1.log l152 A144 c145 A0_ c0_ _ (SlI.of_rd k146 (hS.row_rd hs1) (hS.row_blk hs1)) (SlI.of_rd (k_take s0_.k ht153) (Rd.takeI he_enE (hS.rd0 s0_.rd) ht153) (hS.blk0 s0_.blk)) hm155) ?_
    rintro e w ⟨rfl, hN⟩; refine ⟨_, rfl, ?_⟩; have hB := hN.pure; have hS := hS.join hN; clear hN
    refine wpS_nil ?_
    refine QH_step hB ?_
    refine wpR_batch [false, false, false, false, false, false, false, false, false, false, true, true] (by decide +kernel) (by repeat (first | exact PF.body | exact PF.round | apply PF.then | apply PF.inBlock | apply PF.jump)) ?_
    refine LtK.put rfl rfl rfl (yv_pick_t rfl rfl rfl) ?_
    refine LtK.put rfl rfl rfl (yv_move rfl) ?_
    refine LtK.nil ?_
    refine wpR_case 210 rfl (fun hb => ?_) (fun hb => ?_)
    rotate_left
    · replace H := cond_f H hb
      refine wpR_batch [false, false, false, false, false, false, false, false, false, false, false, false, true, true, true, true, true, true, true, true, true] (by decide +kernel) (by repeat (first | exact PF.body | exact PF.round | apply PF.then | apply PF.inBlock | apply PF.jump)) ?_
      refine LtK.skip rfl rfl rfl ?_
      refine LtK.skip rfl rfl rfl ?_
      refine LtK.skip rfl rfl rfl ?_
      refine LtK.skip rfl rfl rfl ?_
      refine LtK.skip rfl rfl rfl ?_
      refine LtK.skip rfl rfl rfl ?_
      refine LtK.skip rfl rfl rfl ?_
      refine LtK.put rfl rfl rfl (yv_pick_f rfl rfl rfl) ?_
      refine LtK.put rfl rfl rfl (yv_move rfl) ?_
      refine LtK.nil ?_
      refine wpR_call [false, false, false, false, false, false, false, false, false, false, false, false, false, false, false, false, false, false, false, false, false, true] 21 ⟨by decide, by kernel_rfl, by kernel_rfl⟩ rfl rfl ?_
      try dsimp only [pickL]
      refine wpS_skip rfl rfl rfl ?_
      refine wpS_nil ?_
      refine QH_step (Below.refl _ _) ?_
      refine wpR_batch [false, false, false, false, false, false, false, false, false, false, false, false, false, false, false, false, false, false, false, false, false, false, true, true] (by decide +kernel) (by repeat (first | exact PF.body | exact PF.round | apply PF.then | apply PF.inBlock | apply PF.jump)) ?_
      refine LtK.put rfl rfl rfl (yv_pick_f rfl rfl rfl) ?_
      refine LtK.put rfl rfl rfl (yv_assign rfl) ?_
      refine LtK.nil ?_
      refine wpR_end (by kernel_rfl) ?_
      refine QH_seq_k hK150 ?_
      refine wpC_ret ?_
      refine QH_ret rfl (RV.tmp rfl RV.nil) rfl ?_
      obtain rfl := Option.some.inj H
      replace hS := hS.cut 0
      exact ⟨rfl, hS⟩
    replace H := cond_t H hb
    refine wpR_batch [false, false, false, false, false, false, false, false, false, false, false, false, true, true, true, true, true, true, true, true, true] (by decide +kernel) (by repeat (first | exact PF.body | exact PF.round | apply PF.then | apply PF.inBlock | apply PF.jump)) ?_
    refine LtK.put rfl rfl rfl (yv_fieldAddr fo_33_2 rfl) ?_
    refine LtK.put rfl rfl rfl (yv_load_box sc_3 rfl (RW.below _) hS hs0 trivial sg2_1) ?_
    refine LtK.put rfl rfl rfl (yv_move rfl) ?_
    refine LtK.put rfl rfl rfl (yx_quo rfl rfl (by decide)) ?_
    refine LtK.put rfl rfl rfl (yx_mul rfl rfl) ?_
    refine LtK.put rfl rfl rfl (yx_add rfl rfl) ?_
    refine LtK.put rfl rfl rfl (yv_eql rfl rfl) ?_
    refine LtK.put rfl rfl rfl (yv_pick_t rfl rfl rfl) ?_
    refine LtK.put rfl rfl rfl (yv_move rfl) ?_
    refine LtK.nil ?_
    refine wpR_case 219 rfl (fun hb => ?_) (fun hb => ?_)
    rotate_left
    · replace H := cond_f H hb
      refine wpR_call [false, false, false, false, false, false, false, false, false, false, false, false, false, false, false, false, false, false, false, false, false, true] 21 ⟨by decide, by kernel_rfl, by kernel_rfl⟩ rfl rfl ?_
      try dsimp only [pickL]
      refine wpS_skip rfl rfl rfl ?_
      refine wpS_nil ?_
      refine QH_step (Below.refl _ _) ?_
      refine wpR_batch [false, false, false, false, false, false, false, false, false, false, false, false, false, false, false, false, false, false, false, false, false, false, true, true] (by decide +kernel) (by repeat (first | exact PF.body | exact PF.round | apply PF.then | apply PF.inBlock | apply PF.jump)) ?_
      refine LtK.put rfl rfl rfl (yv_pick_f rfl rfl rfl) ?_
      refine LtK.put rfl rfl rfl (yv_assign rfl) ?_
      refine LtK.nil ?_
      refine wpR_end (by kernel_rfl) ?_
      refine QH_seq_k hK150 ?_
      refine wpC_ret ?_
      refine QH_ret rfl (RV.tmp rfl RV.nil) rfl ?_
      obtain rfl := Option.some.inj H
      replace hS := hS.cut 0
      exact ⟨rfl, hS⟩
    replace H := cond_t H hb
    refine wpR_call [false, false, false, false, false, false, false, false, false, false, false, false, false, false, false, false, false, false, false, false, false, true] 21 ⟨by decide, by kernel_rfl, by kernel_rfl⟩ rfl rfl ?_
    try dsimp only [pickL]
    obtain ⟨r158, hm159, H⟩ := bind_some H
    refine wpS_call rfl rfl rfl rfl (by kernel_rfl) rfl (c_law07_wakes _ (SlI.of_rd hT_.k (hS.rd0 hT_.rd) (hS.blk0 hT_.blk)) hm159) ?_
    rintro e w ⟨rfl, hN⟩; refine ⟨_, rfl, ?_⟩; have hB := hN.pure; have hS := hS.join hN; clear hN
    refine wpS_nil ?_
    refine QH_step hB ?_
    refine wpR_batch [false, false, false, false, false, false, false, false, false, false, false, false, false, false, false, false, false, false, false, false, false, false, true, true] (by decide +kernel) (by repeat (first | exact PF.body | exact PF.round | apply PF.then | apply PF.inBlock | apply PF.jump)) ?_
    refine LtK.put rfl rfl rfl (yv_pick_t rfl rfl rfl) ?_
    refine LtK.put rfl rfl rfl (yv_assign rfl) ?_
    refine LtK.nil ?_
    refine wpR_end (by kernel_rfl) ?_
    refine QH_seq_k hK150 ?_
    refine wpC_ret ?_
    refine QH_ret rfl (RV.tmp rfl RV.nil) rfl ?_
    obtain rfl := Option.some.inj H
    replace hS := hS.cut 0
    exact ⟨rfl, hS⟩
  replace H := cond_f H hb
  refine wpC_seq_k (fun K hK164 => ?_)
  refine wpC_region ?_
  refine wpS_quick 1 rfl ?_
  refine wpS_put rfl rfl rfl (yx_sub rfl rfl) ?_
  refine wpS_put rfl rfl rfl (yx_quo rfl rfl (by decide)) ?_
  refine wpS_quick 1 rfl ?_
  refine wpS_nil ?_
  refine QH_seq_k hK164 ?_
  refine wpC_seq_k (fun K hK165 => ?_)
  refine wpC_draw 19 [] (fun _ _ => True) ⟨by kernel_rfl, by kernel_rfl⟩ hS (fun w hS hB => ?_)
  refine wpR_batch [true, true, true] (by decide +kernel) (by repeat (first | exact PF.body | exact PF.round | apply PF.then | apply PF.inBlock | apply PF.jump)) ?_
  refine LtK.put rfl rfl rfl (yv_move rfl) ?_
  refine LtK.put rfl rfl rfl (yv_neq rfl rfl) ?_
  refine LtK.put rfl rfl rfl (yv_move rfl) ?_
  refine LtK.nil ?_
  refine wpR_case 145 rfl (fun hb => ?_) (fun hb => ?_)
  · replace H := cond_t H hb
    refine wpR_batch [false, false, false, true, true, true, true, true] (by decide +kernel) (by repeat (first | exact PF.body | exact PF.round | apply PF.then | apply PF.inBlock | apply PF.jump)) ?_
    refine LtK.skip rfl rfl rfl ?_
    refine LtK.skip rfl rfl rfl ?_
    refine LtK.skip rfl rfl rfl ?_
    refine LtK.skip rfl rfl rfl ?_
    refine LtK.skip rfl rfl rfl ?_
    refine LtK.nil ?_
    refine wpR_call [false, false, false, false, false, false, false, false, true] 8 ⟨by decide, by kernel_rfl, by kernel_rfl⟩ rfl rfl ?_
    try dsimp only [pickL]
    refine wpS_skip rfl rfl rfl ?_
    refine wpS_nil ?_
    refine QH_step (Below.refl _ _) ?_
    refine wpR_batch [false, false, false, false, false, false, false, false, false, true, true, true, true, true, true, true, true, true, true] (by decide +kernel) (by repeat (first | exact PF.body | exact PF.round | apply PF.then | apply PF.inBlock | apply PF.jump)) ?_
    refine LtK.skip rfl rfl rfl ?_
    refine LtK.put rfl rfl rfl (yv_pick_t rfl rfl rfl) ?_
    refine LtK.put rfl rfl rfl (yv_move rfl) ?_
    refine LtK.skip rfl rfl rfl ?_
    refine LtK.skip rfl rfl rfl ?_
    refine LtK.skip rfl rfl rfl ?_
    refine LtK.skip rfl rfl rfl ?_
    refine LtK.skip rfl rfl rfl ?_
    refine LtK.skip rfl rfl rfl ?_
    refine LtK.put rfl rfl rfl (yv_pick_t rfl rfl rfl) ?_
    refine LtK.nil ?_
    refine wpR_end (by kernel_rfl) ?_
    refine QH_seq_k hK165 ?_
    refine wpC_cond_t rfl rfl ?_
    refine wpC_seq_k (fun K hK167 => ?_)
    refine wpC_region ?_
    refine wpS_quick 1 rfl ?_
    refine wpS_nil ?_
    refine QH_seq_k hK167 ?_
    refine wpC_ret ?_
    refine QH_then_ret ?_
    refine QH_ret rfl (RV.tmp rfl RV.nil) rfl ?_
    obtain rfl := Option.some.inj H
    replace hS := hS.cut 0
    exact ⟨rfl, hS⟩
  replace H := cond_f H hb
  refine wpR_batch [false, false, false, true, true, true, true, true] (by decide +kernel) (by repeat (first | exact PF.body | exact PF.round | apply PF.then | apply PF.inBlock | apply PF.jump)) ?_
  refine LtK.put rfl rfl rfl (yv_fieldAddr fo_33_1 rfl) ?_
  refine LtK.put rfl rfl rfl (yv_load_box sc_22 rfl (RW.below _) hS hs0 trivial sg1_1) ?_
  refine LtK.put rfl rfl rfl (yv_move rfl) ?_
  refine LtK.put rfl rfl rfl (yv_move rfl) ?_
  obtain ⟨l169, ht170, H⟩ := bind_some H
  refine LtK.put rfl rfl rfl (yx_slice_h el_22 rfl rfl s0_.k.1 ht170) ?_
  refine LtK.nil ?_
  refine wpR_call [false, false, false, false, false, false, false, false, true] 8 ⟨by decide, by kernel_rfl, by kernel_rfl⟩ rfl rfl ?_
  try dsimp only [pickL]
  obtain ⟨r171, hm172, H⟩ := bind_some H
  refine wpS_call rfl rfl rfl rfl (by kernel_rfl) rfl (c_ref07_Entries r89.1.log l169 A91 c92 A0_ c0_ _ (SlI.of_rd k93 (hS.row_rd hs1) (hS.row_blk hs1)) (SlI.of_rd (k_take s0_.k ht170) (Rd.takeI he_enE (hS.rd0 s0_.rd) ht170) (hS.blk0 s0_.blk)) hm172) ?_
  rintro e w ⟨rfl, hN⟩; refine ⟨_, rfl, ?_⟩; have hB := hN.pure; have hS := hS.join hN; clear hN
  refine wpS_nil ?_
  refine QH_step hB ?_
  refine wpR_batch [false, false, false, false, false, false, false, false, false, true, true, true] (by decide +kernel) (by repeat (first | exact PF.body | exact PF.round | apply PF.then | apply PF.inBlock | apply PF.jump)) ?_
  refine LtK.put rfl rfl rfl (yv_not rfl) ?_
  refine LtK.put rfl rfl rfl (yv_pick_f rfl rfl rfl) ?_
  refine LtK.put rfl rfl rfl (yv_move rfl) ?_
  refine LtK.nil ?_
  refine wpR_case 154 rfl (fun hb => ?_) (fun hb => ?_)
  · replace H := cond_t H hb
    refine wpR_batch [false, false, false, false, false, false, false, false, false, false, false, false, true, true, true, true, true, true, true] (by decide +kernel) (by repeat (first | exact PF.body | exact PF.round | apply PF.then | apply PF.inBlock | apply PF.jump)) ?_
    refine LtK.skip rfl rfl rfl ?_
    refine LtK.skip rfl rfl rfl ?_
    refine LtK.skip rfl rfl rfl ?_
    refine LtK.skip rfl rfl rfl ?_
    refine LtK.skip rfl rfl rfl ?_
    refine LtK.skip rfl rfl rfl ?_
    refine LtK.put rfl rfl rfl (yv_pick_t rfl rfl rfl) ?_
    refine LtK.nil ?_
    refine wpR_end (by kernel_rfl) ?_
    refine QH_seq_k hK165 ?_
    refine wpC_cond_t rfl rfl ?_
    refine wpC_seq_k (fun K hK174 => ?_)
    refine wpC_region ?_
    refine wpS_quick 1 rfl ?_
    refine wpS_nil ?_
    refine QH_seq_k hK174 ?_
    refine wpC_ret ?_
    refine QH_then_ret ?_
    refine QH_ret rfl (RV.tmp rfl RV.nil) rfl ?_
    obtain rfl := Option.some.inj H
    replace hS := hS.cut 0
    exact ⟨rfl, hS⟩
  replace H := cond_f H hb
  refine wpR_batch [false, false, false, false, false, false, false, false, false, false, false, false, true, true, true, true, true, true, true] (by decide +kernel) (by repeat (first | exact PF.body | exact PF.round | apply PF.then | apply PF.inBlock | apply PF.jump)) ?_
  refine LtK.put rfl rfl rfl (yv_fieldAddr fo_33_2 rfl) ?_
  refine LtK.put rfl rfl rfl (yv_load_box sc_3 rfl (RW.below _) hS hs0 trivial sg2_1) ?_
  refine LtK.put rfl rfl rfl (yv_move rfl) ?_
  refine LtK.put rfl rfl rfl (yx_mul rfl rfl) ?_
  refine LtK.put rfl rfl rfl (yx_add rfl rfl) ?_
  refine LtK.put rfl rfl rfl (yv_neq rfl rfl) ?_
  refine LtK.put rfl rfl rfl (yv_pick_f rfl rfl rfl) ?_
  refine LtK.nil ?_
  refine wpR_end (by kernel_rfl) ?_
  refine QH_seq_k hK165 ?_
  refine wpC_cond rfl (fun hb => ?_) (fun hb => ?_)
  · replace H := cond_t H hb
    refine wpC_seq_k (fun K hK177 => ?_)
    refine wpC_region ?_
    refine wpS_quick 1 rfl ?_
    refine wpS_nil ?_
    refine QH_seq_k hK177 ?_
    refine wpC_ret ?_
    refine QH_then_ret ?_
    refine QH_ret rfl (RV.tmp rfl RV.nil) rfl ?_
    obtain rfl := Option.some.inj H
    replace hS := hS.cut 0
    exact ⟨rfl, hS⟩
  replace H := cond_f H hb
  refine wpC_skip ?_
  refine QH_seq_k hK97 ?_
  refine wpC_seq_k (fun K hK179 => ?_)
  refine wpC_seq_k (fun K hK180 => ?_)
  refine wpC_region ?_
  refine wpS_quick 1 rfl ?_
  refine wpS_put rfl rfl rfl (yv_len el_22 rfl) ?_
  refine wpS_put rfl rfl rfl (yv_eql rfl rfl) ?_
  refine wpS_quick 1 rfl ?_
  refine wpS_case 165 rfl (fun hb => ?_) (fun hb => ?_)
  · replace H := cond_t H hb
    refine wpS_quick 3 rfl ?_
    refine wpS_nil ?_
    refine QH_seq_k hK180 ?_
    refine wpC_cond_t rfl rfl ?_
    refine wpC_seq_k (fun K hK182 => ?_)
    refine wpC_region ?_
    obtain ⟨r183, hm184, H⟩ := bind_some H
    refine wpS_call rfl rfl rfl rfl (by kernel_rfl) rfl (c_law07_wakes _ (SlI.of_rd hT_.k (hS.rd0 hT_.rd) (hS.blk0 hT_.blk)) hm184) ?_
    rintro e w ⟨rfl, hN⟩; refine ⟨_, rfl, ?_⟩; have hB := hN.pure; have hS := hS.join hN; clear hN
    refine wpS_quick 1 rfl ?_
    refine wpS_nil ?_
    refine QH_seq_k hK182 ?_
    refine wpC_ret ?_
    refine QH_then_ret ?_
    refine QH_ret rfl (RV.tmp rfl RV.nil) rfl ?_
    obtain rfl := Option.some.inj H
    replace hS := hS.cut 0
    exact ⟨rfl, hS⟩
  replace H := cond_f H hb
  refine wpS_quick 1 rfl ?_
  refine wpS_put rfl rfl rfl (yv_eql rfl rfl) ?_
  refine wpS_quick 1 rfl ?_
  refine wpS_nil ?_
  refine QH_seq_k hK180 ?_
  refine wpC_cond rfl (fun hb => ?_) (fun hb => ?_)
  · replace H := cond_t H hb
    refine wpC_seq_k (fun K hK187 => ?_)
    refine wpC_region ?_
    obtain ⟨r188, hm189, H⟩ := bind_some H
    refine wpS_call rfl rfl rfl rfl (by kernel_rfl) rfl (c_law07_wakes _ (SlI.of_rd hT_.k (hS.rd0 hT_.rd) (hS.blk0 hT_.blk)) hm189) ?_
    rintro e w ⟨rfl, hN⟩; refine ⟨_, rfl, ?_⟩; have hB := hN.pure; have hS := hS.join hN; clear hN
    refine wpS_quick 1 rfl ?_
    refine wpS_nil ?_
    refine QH_seq_k hK187 ?_
    refine wpC_ret ?_
    refine QH_then_ret ?_
    refine QH_ret rfl (RV.tmp rfl RV.nil) rfl ?_
    obtain rfl := Option.some.inj H
    replace hS := hS.cut 0
    exact ⟨rfl, hS⟩
  replace H := cond_f H hb
  refine wpC_skip ?_
  refine QH_seq_k hK179 ?_
  refine wpC_seq_k (fun K hK191 => ?_)
  refine wpC_region ?_
  refine wpS_quick 1 rfl ?_
  refine wpS_put rfl rfl rfl (yv_len el_23 rfl) ?_
  refine wpS_put rfl rfl rfl (yx_sub rfl rfl) ?_
  refine wpS_quick 1 rfl ?_
  refine wpS_nil ?_
  refine QH_seq_k hK191 ?_
  refine wpC_seq_k (fun K hK192 => ?_)
  refine wpC_region ?_
  refine wpS_quick 2 rfl ?_
  obtain ⟨q193, hq194, H⟩ := bind_some H
  obtain ⟨hq194n, rfl⟩ := remI_some hq194
  refine wpS_put rfl rfl rfl (yx_rem rfl rfl hq194n) ?_
  refine wpS_quick 1 rfl ?_
  refine wpS_put rfl rfl rfl (yx_add rfl rfl) ?_
  refine wpS_quick 1 rfl ?_
  obtain ⟨q195, hq196, H⟩ := bind_some H
  obtain ⟨hq196n, rfl⟩ := remI_some hq196
  refine wpS_put rfl rfl rfl (yx_rem rfl rfl hq196n) ?_
  refine wpS_quick 1 rfl ?_
  refine wpS_nil ?_
  refine QH_seq_k hK192 ?_
  refine wpC_seq_k (fun K hK197 => ?_)
  refine wpC_region ?_
  refine wpS_slice0 el_23 rfl rfl hS (fun b198 w hS hB => ?_)
  refine wpS_quick 1 rfl ?_
  obtain ⟨l200, hf201, H⟩ := bind_some H
  refine wpX_append (ys := r28.1) he_enY oc_enY em_23 (by decide) rfl rfl rfl rfl hS (fun _ => ps0) (hS.row_rd hs5) hf201 (fun A202 c203 w k204 hS => ?_)
  refine wpS_quick 1 rfl ?_
  refine wpS_nil ?_
  refine QH_seq_k hK197 ?_
  refine wpC_seq_k (fun K hK205 => ?_)
  refine wpC_region ?_
  refine wpS_quick 2 rfl ?_
  refine wpS_put rfl rfl rfl (yx_add rfl rfl) ?_
  refine wpS_quick 2 rfl ?_
  refine wpS_put rfl rfl rfl (yx_add rfl rfl) ?_
  obtain ⟨e206, hi208, H⟩ := bind_some H
  obtain ⟨j207, hi208a, hi208b, hi208c⟩ := idx_some hi208
  refine wpS_put rfl rfl rfl (yx_idx el_23 rfl rfl hi208a hi208c (Rd.el (hS.row_rd hs0) he_enY hi208b)) ?_
  refine wpS_put rfl rfl rfl (yx_ld0 sc_5 rfl (RW.here _) (Rd.el (hS.row_rd hs0) he_enY hi208b) rfl) ?_
  refine wpS_quick 1 rfl ?_
  refine wpS_put rfl rfl rfl (yx_xor8 (a := e206) (b := x4) rfl rfl) ?_
  obtain ⟨e209, hi211, H⟩ := bind_some H
  obtain ⟨j210, hi211a, hi211b, hi211c⟩ := idx_some hi211
  refine wpS_put rfl rfl rfl (yx_idx el_23 rfl rfl hi211a hi211c (Rd.el (hS.row_rd hs0) he_enY hi211b)) ?_
  refine wpX_storeR (a' := (e206 ^^^ x4)) (zs := (setI l200 (IntKind.wrap .i64 (6 + (Int.tmod (IntKind.wrap .i64 ((Int.tmod x3 (IntKind.wrap .i64 ((r28.1.length : Int) - 6))) + (IntKind.wrap .i64 ((r28.1.length : Int) - 6)))) (IntKind.wrap .i64 ((r28.1.length : Int) - 6))))) (e206 ^^^ x4))) he_enY rfl rfl rfl CellsOf.int hS ps0 (Rd.el (hS.row_rd hs0) he_enY hi211b) hi211a hi211b rfl st0_1 (by kernel_rfl) rfl (fun w hS => ?_)
  have hi212b := setI_at (a := (e206 ^^^ x4)) hi211a hi211b
  have hi212a := hi211a
  refine wpS_nil ?_
  refine QH_seq_k hK205 ?_
  refine wpC_seq_k (fun K hK213 => ?_)
  refine wpC_region ?_
  refine wpS_quick 1 rfl ?_
  obtain ⟨r214, hm215, H⟩ := bind_some H
  refine wpS_call rfl rfl rfl rfl (by kernel_rfl) (by (repeat rw [(setI_len rfl)]); rfl) (c_one_Scan (setI l200 (IntKind.wrap .i64 (6 + (Int.tmod (IntKind.wrap .i64 ((Int.tmod x3 (IntKind.wrap .i64 ((r28.1.length : Int) - 6))) + (IntKind.wrap .i64 ((r28.1.length : Int) - 6)))) (IntKind.wrap .i64 ((r28.1.length : Int) - 6))))) (e206 ^^^ x4)) A202 c203 _ (SlI.of_rd (k_set k204) (hS.row_rd hs0) (hS.row_blk hs0)) (SlI.of_rd hT_.k (hS.rd0 hT_.rd) (hS.blk0 hT_.blk)) hm215) ?_
  rintro e w ⟨A216, c217, rfl, k218, hN⟩; refine ⟨_, rfl, ?_⟩; have hB := hN.pure; have hS := hS.join hN; clear hN
  refine wpS_quick 1 rfl ?_
  refine wpS_put rfl rfl rfl (yv_extract rfl rfl) ?_
  refine wpS_put rfl rfl rfl (yv_extract rfl rfl) ?_
  refine wpS_alloc rfl rfl zc_33 hS (fun b220 w hS hB => ?_)
  refine wpS_store rfl rfl rfl CellsOf.agg hS ps0 st0_3 (by kernel_rfl) rfl (fun w hS hB => ?_)
  refine wpS_quick 1 rfl ?_
  refine wpS_nil ?_
  refine QH_seq_k hK213 ?_
  refine wpC_seq_k (fun K hK222 => ?_)
  refine wpC_draw 24 [] (fun _ _ => True) ⟨by kernel_rfl, by kernel_rfl⟩ hS (fun w hS hB => ?_)
  refine wpR_batch [true, true, true] (by decide +kernel) (by repeat (first | exact PF.body | exact PF.round | apply PF.then | apply PF.inBlock | apply PF.jump)) ?_
  refine LtK.put rfl rfl rfl (yv_move rfl) ?_
  refine LtK.put rfl rfl rfl (yv_eql rfl rfl) ?_
  refine LtK.put rfl rfl rfl (yv_move rfl) ?_
  refine LtK.nil ?_
  refine wpR_case 201 rfl (fun hb => ?_) (fun hb => ?_)
  rotate_left
  · replace H := cond_f H hb
    refine wpR_batch [false, false, false, true, true, true, true, true, true] (by decide +kernel) (by repeat (first | exact PF.body | exact PF.round | apply PF.then | apply PF.inBlock | apply PF.jump)) ?_
    refine LtK.skip rfl rfl rfl ?_
    refine LtK.skip rfl rfl rfl ?_
    refine LtK.skip rfl rfl rfl ?_
    refine LtK.skip rfl rfl rfl ?_
    refine LtK.skip rfl rfl rfl ?_
    refine LtK.skip rfl rfl rfl ?_
    refine LtK.nil ?_
    refine wpR_call [false, false, false, false, false, false, false, false, false, true] 9 ⟨by decide, by kernel_rfl, by kernel_rfl⟩ rfl rfl ?_
    try dsimp only [pickL]
    refine wpS_skip rfl rfl rfl ?_
    refine wpS_nil ?_
    refine QH_step (Below.refl _ _) ?_
    refine wpR_batch [false, false, false, false, false, false, false, false, false, false, true, true, true, true, true, true, true, true, true, true, true] (by decide +kernel) (by repeat (first | exact PF.body | exact PF.round | apply PF.then | apply PF.inBlock | apply PF.jump)) ?_
    refine LtK.put rfl rfl rfl (yv_pick_f rfl rfl rfl) ?_
    refine LtK.put rfl rfl rfl (yv_move rfl) ?_
    refine LtK.skip rfl rfl rfl ?_
    refine LtK.skip rfl rfl rfl ?_
    refine LtK.skip rfl rfl rfl ?_
    refine LtK.skip rfl rfl rfl ?_
    refine LtK.skip rfl rfl rfl ?_
    refine LtK.skip rfl rfl rfl ?_
    refine LtK.skip rfl rfl rfl ?_
    refine LtK.put rfl rfl rfl (yv_pick_f rfl rfl rfl) ?_
    refine LtK.put rfl rfl rfl (yv_move rfl) ?_
    refine LtK.nil ?_
    refine wpR_call [false, false, false, false, false, false, false, false, false, false, false, false, false, false, false, false, false, false, false, false, false, true] 21 ⟨by decide, by kernel_rfl, by kernel_rfl⟩ rfl rfl ?_
    try dsimp only [pickL]
    refine wpS_skip rfl rfl rfl ?_
    refine wpS_nil ?_
    refine QH_step (Below.refl _ _) ?_
    refine wpR_batch [false, false, false, false, false, false, false, false, false, false, false, false, false, false, false, false, false, false, false, false, false, false, true, true] (by decide +kernel) (by repeat (first | exact PF.body | exact PF.round | apply PF.then | apply PF.inBlock | apply PF.jump)) ?_
    refine LtK.put rfl rfl rfl (yv_pick_f rfl rfl rfl) ?_
    refine LtK.put rfl rfl rfl (yv_assign rfl) ?_
    refine LtK.nil ?_
    refine wpR_end (by kernel_rfl) ?_
    refine QH_seq_k hK222 ?_
    refine wpC_ret ?_
    refine QH_ret rfl (RV.tmp rfl RV.nil) rfl ?_
    obtain rfl := Option.some.inj H
    replace hS := hS.cut 0
    exact ⟨rfl, hS⟩
  replace H := cond_t H hb
  refine wpR_batch [false, false, false, true, true, true, true, true, true] (by decide +kernel) (by repeat (first | exact PF.body | exact PF.round | apply PF.then | apply PF.inBlock | apply PF.jump)) ?_
  refine LtK.put rfl rfl rfl (yv_fieldAddr fo_33_1 rfl) ?_
  refine LtK.put rfl rfl rfl (yv_load_box sc_22 rfl (RW.below _) hS hs0 trivial sg1_1) ?_
  refine LtK.put rfl rfl rfl (yv_move rfl) ?_
  refine LtK.put rfl rfl rfl (yv_move rfl) ?_
  refine LtK.put rfl rfl rfl (yx_quo rfl rfl (by decide)) ?_
  obtain ⟨l224, ht225, H⟩ := bind_some H
  refine LtK.put rfl rfl rfl (yx_slice_h el_22 rfl rfl s0_.k.1 ht225) ?_
  refine LtK.nil ?_
  refine wpR_call [false, false, false, false, false, false, false, false, false, true] 9 ⟨by decide, by kernel_rfl, by kernel_rfl⟩ rfl rfl ?_
  try dsimp only [pickL]
  obtain ⟨r226, hm227, H⟩ := bind_some H
  refine wpS_call rfl rfl rfl rfl (by kernel_rfl) rfl (c_ref07_Entries r214.1.log l224 A216 c217 A0_ c0_ _ (SlI.of_rd k218 (hS.row_rd hs1) (hS.row_blk hs1)) (SlI.of_rd (k_take s0_.k ht225) (Rd.takeI he_enE (hS.rd0 s0_.rd) ht225) (hS.blk0 s0_.blk)) hm227) ?_
  rintro e w ⟨rfl, hN⟩; refine ⟨_, rfl, ?_⟩; have hB := hN.pure; have hS := hS.join hN; clear hN
  refine wpS_nil ?_
  refine QH_step hB ?_
  refine wpR_batch [false, false, false, false, false, false, false, false, false, false, true, true] (by decide +kernel) (by repeat (first | exact PF.body | exact PF.round | apply PF.then | apply PF.inBlock | apply PF.jump)) ?_
  refine LtK.put rfl rfl rfl (yv_pick_t rfl rfl rfl) ?_
  refine LtK.put rfl rfl rfl (yv_move rfl) ?_
  refine LtK.nil ?_
  refine wpR_case 210 rfl (fun hb => ?_) (fun hb => ?_)
  rotate_left
  · replace H := cond_f H hb
    refine wpR_batch [false, false, false, false, false, false, false, false, false, false, false, false, true, true, true, true, true, true, true, true, true] (by decide +kernel) (by repeat (first | exact PF.body | exact PF.round | apply PF.then | apply PF.inBlock | apply PF.jump)) ?_
    refine LtK.skip rfl rfl rfl ?_
    refine LtK.skip rfl rfl rfl ?_
    refine LtK.skip rfl rfl rfl ?_
    refine LtK.skip rfl rfl rfl ?_
    refine LtK.skip rfl rfl rfl ?_
    refine LtK.skip rfl rfl rfl ?_
    refine LtK.skip rfl rfl rfl ?_
    refine LtK.put rfl rfl rfl (yv_pick_f rfl rfl rfl) ?_
    refine LtK.put rfl rfl rfl (yv_move rfl) ?_
    refine LtK.nil ?_
    refine wpR_call [false, false, false, false, false, false, false, false, false, false, false, false, false, false, false, false, false, false, false, false, false, true] 21 ⟨by decide, by kernel_rfl, by kernel_rfl⟩ rfl rfl ?_
    try dsimp only [pickL]
    refine wpS_skip rfl rfl rfl ?_
    refine wpS_nil ?_
    refine QH_step (Below.refl _ _) ?_
    refine wpR_batch [false, false, false, false, false, false, false, false, false, false, false, false, false, false, false, false, false, false, false, false, false, false, true, true] (by decide +kernel) (by repeat (first | exact PF.body | exact PF.round | apply PF.then | apply PF.inBlock | apply PF.jump)) ?_
    refine LtK.put rfl rfl rfl (yv_pick_f rfl rfl rfl) ?_
    refine LtK.put rfl rfl rfl (yv_assign rfl) ?_
    refine LtK.nil ?_
    refine wpR_end (by kernel_rfl) ?_
    refine QH_seq_k hK222 ?_
    refine wpC_ret ?_
    refine QH_ret rfl (RV.tmp rfl RV.nil) rfl ?_
    obtain rfl := Option.some.inj H
    replace hS := hS.cut 0
    exact ⟨rfl, hS⟩
  replace H := cond_t H hb
  refine wpR_batch [false, false, false, false, false, false, false, false, false, false, false, false, true, true, true, true, true, true, true, true, true] (by decide +kernel) (by repeat (first | exact PF.body | exact PF.round | apply PF.then | apply PF.inBlock | apply PF.jump)) ?_
  refine LtK.put rfl rfl rfl (yv_fieldAddr fo_33_2 rfl) ?_
  refine LtK.put rfl rfl rfl (yv_load_box sc_3 rfl (RW.below _) hS hs0 trivial sg2_1) ?_
  refine LtK.put rfl rfl rfl (yv_move rfl) ?_
  refine LtK.put rfl rfl rfl (yx_quo rfl rfl (by decide)) ?_
  refine LtK.put rfl rfl rfl (yx_mul rfl rfl) ?_
  refine LtK.put rfl rfl rfl (yx_add rfl rfl) ?_
  refine LtK.put rfl rfl rfl (yv_eql rfl rfl) ?_
  refine LtK.put rfl rfl rfl (yv_pick_t rfl rfl rfl) ?_
  refine LtK.put rfl rfl rfl (yv_move rfl) ?_
  refine LtK.nil ?_
  refine wpR_case 219 rfl (fun hb => ?_) (fun hb => ?_)
  rotate_left
  · replace H := cond_f H hb
    refine wpR_call [false, false, false, false, false, false, false, false, false, false, false, false, false, false, false, false, false, false, false, false, false, true] 21 ⟨by decide, by kernel_rfl, by kernel_rfl⟩ rfl rfl ?_
    try dsimp only [pickL]
    refine wpS_skip rfl rfl rfl ?_
    refine wpS_nil ?_
    refine QH_step (Below.refl _ _) ?_
    refine wpR_batch [false, false, false, false, false, false, false, false, false, false, false, false, false, false, false, false, false, false, false, false, false, false, true, true] (by decide +kernel) (by repeat (first | exact PF.body | exact PF.round | apply PF.then | apply PF.inBlock | apply PF.jump)) ?_
    refine LtK.put rfl rfl rfl (yv_pick_f rfl rfl rfl) ?_
    refine LtK.put rfl rfl rfl (yv_assign rfl) ?_
    refine LtK.nil ?_
    refine wpR_end (by kernel_rfl) ?_
    refine QH_seq_k hK222 ?_
    refine wpC_ret ?_
    refine QH_ret rfl (RV.tmp rfl RV.nil) rfl ?_
    obtain rfl := Option.some.inj H
    replace hS := hS.cut 0
    exact ⟨rfl, hS⟩
  replace H := cond_t H hb
  refine wpR_call [false, false, false, false, false, false, false, false, false, false, false, false, false, false, false, false, false, false, false, false, false, true] 21 ⟨by decide, by kernel_rfl, by kernel_rfl⟩ rfl rfl ?_
  try dsimp only [pickL]
  obtain ⟨r230, hm231, H⟩ := bind_some H
  refine wpS_call rfl rfl rfl rfl (by kernel_rfl) rfl (c_law07_wakes _ (SlI.of_rd hT_.k (hS.rd0 hT_.rd) (hS.blk0 hT_.blk)) hm231) ?_
  rintro e w ⟨rfl, hN⟩; refine ⟨_, rfl, ?_⟩; have hB := hN.pure; have hS := hS.join hN; clear hN
  refine wpS_nil ?_
  refine QH_step hB ?_
  refine wpR_batch [false, false, false, false, false, false, false, false, false, false, false, false, false, false, false, false, false, false, false, false, false, false, true, true] (by decide +kernel) (by repeat (first | exact PF.body | exact PF.round | apply PF.then | apply PF.inBlock | apply PF.jump)) ?_
  refine LtK.put rfl rfl rfl (yv_pick_t rfl rfl rfl) ?_
  refine LtK.put rfl rfl rfl (yv_assign rfl) ?_
  refine LtK.nil ?_
  refine wpR_end (by kernel_rfl) ?_
  refine QH_seq_k hK222 ?_
  refine wpC_ret ?_
  refine QH_ret rfl (RV.tmp rfl RV.nil) rfl ?_
  obtain rfl := Option.some.inj H
  replace hS := hS.cut 0
  exact ⟨rfl, hS⟩
end Go.Proofs.YtofheinbbefbcaaDoor
/- The printed texts of this seat. -/
/- Sums of data, as plain numbers. -/
namespace Go.Proofs.YtofheinbbefbcaaDoor
open Go Go.RowKit
set_option maxRecDepth 100000

theorem next_data (s : St) (hf : FineP s) (hi : s.index < 1073741824) (v : Int) (h0 : 0 ≤ v) (h1 : v ≤ 1073741824) : nextS s ⟨1, 1, v⟩ = ⟨s.index + 1, 1, (31 * s.sum + v + 1) % 1073741824, s.level, s.final⟩ := by
  unfold nextS
  rw [if_pos ⟨by simp [rightB, h0, h1], (fineB_iff s).2 hf, hi⟩]
  rfl
def SumInv (l : List Int) (q : Nat) (value : Int) (s : St) (k : Nat) (a b : St) : Prop :=
  FineP a ∧ FineP b ∧ a.index = s.index + k ∧ b.index = s.index + k ∧ (k ≤ q → a = b) ∧
    (q < k → a.sum < 1073741824 ∧ b.sum < 1073741824 ∧ ∃ x, l[q]? = some x ∧ 0 ≤ x ∧ x ≤ 999 ∧
      ((k = q + 1 ∧ (a.sum - b.sum - (x - value)) % 1073741824 = 0) ∨ (k = q + 2 ∧ (a.sum - b.sum - 31 * (x - value)) % 1073741824 = 0) ∨ (k = q + 3 ∧ (a.sum - b.sum - 961 * (x - value)) % 1073741824 = 0)))
theorem SumInv.start (l : List Int) (q : Nat) (value : Int) (s : St) (h : FineP s) : SumInv l q value s 0 s s := ⟨h, h, by simp, by simp, fun _ => rfl, fun h => by omega⟩
theorem SumInv.step {l : List Int} {q : Nat} {value : Int} {s : St} {k : Nat} {a b : St} (h : SumInv l q value s k a b) (hs : s.index ≤ 1073741624) (hk : k < 3) (v : Int) (hv : l[k]? = some v) (h0 : 0 ≤ v) (h1 : v ≤ 999) (g0 : 0 ≤ value) (g1 : value ≤ 999) :
    SumInv l q value s (k + 1) (nextS a ⟨1, 1, v⟩) (nextS b ⟨1, 1, if k = q then value else v⟩) := by
  obtain ⟨fa, fb, ia, ib, he, hd⟩ := h
  refine ⟨nextS_fine _ _ fa, nextS_fine _ _ fb, ?_⟩
  have va : 0 ≤ (if k = q then value else v) ∧ (if k = q then value else v) ≤ 999 := by split <;> omega
  rw [next_data a fa (by omega) v h0 (by omega), next_data b fb (by omega) _ va.1 (by omega)]
  refine ⟨by show a.index + 1 = _; omega, by show b.index + 1 = _; omega, fun hkq => ?_, fun hkq => ?_⟩
  · rw [if_neg (by omega), he (by omega)]
  · refine ⟨by show _ % _ < _; omega, by show _ % _ < _; omega, ?_⟩
    by_cases e : k = q
    · subst e
      refine ⟨v, hv, h0, h1, .inl ⟨rfl, ?_⟩⟩
      rw [if_pos rfl, he (by omega)]
      show ((31 * b.sum + v + 1) % 1073741824 - (31 * b.sum + value + 1) % 1073741824 - (v - value)) % 1073741824 = 0
      omega
    · obtain ⟨_, _, x, hx, x0, x1, hh⟩ := hd (by omega)
      refine ⟨x, hx, x0, x1, ?_⟩
      rw [if_neg e]
      have goal : ∀ c : Int, (a.sum - b.sum - c) % 1073741824 = 0 → ((31 * a.sum + v + 1) % 1073741824 - (31 * b.sum + v + 1) % 1073741824 - 31 * c) % 1073741824 = 0 := fun c hc => by omega
      rcases hh with ⟨rfl, hh⟩ | ⟨rfl, hh⟩ | ⟨rfl, hh⟩
      · exact .inr (.inl ⟨rfl, goal _ hh⟩)
      · refine .inr (.inr ⟨rfl, ?_⟩)
        have := goal _ hh
        show ((31 * a.sum + v + 1) % 1073741824 - (31 * b.sum + v + 1) % 1073741824 - 961 * (x - value)) % 1073741824 = 0
        omega
      · omega
end Go.Proofs.YtofheinbbefbcaaDoor
/- What comes behind an entry, as the law of layer 6 asks for it. -/
namespace Go.Proofs.YtofheinbbefbcaaDoor
open Go Go.RowKit
set_option maxRecDepth 100000
end Go.Proofs.YtofheinbbefbcaaDoor
/- Tuples' changes, as plain numbers: what the laws of layer 12 ask. -/
namespace Go.Proofs.YtofheinbbefbcaaDoor
open Go Go.RowKit
set_option maxRecDepth 100000

end Go.Proofs.YtofheinbbefbcaaDoor
/- What the references of entries and tuples compute, in plain terms. -/
namespace Go.Proofs.YtofheinbbefbcaaDoor
open Go Go.RowKit
set_option maxRecDepth 100000
theorem p_number (x : Int) : m_ref06_number x = some (numB x) := by
  unfold m_ref06_number numB
  by_cases h : 0 ≤ x <;> simp [h]
theorem p_Right (x : En) : m_ref06_Right x = some (rightB x) := by
  obtain ⟨t, k, v⟩ := x
  simp only [m_ref06_Right, p_number, Option.bind_some, rightB, numB, Bool.cond_not, Bool.cond_decide]
  (repeat' split) <;> (refine congrArg some ?_; rw [Bool.eq_iff_iff]; simp only [decide_eq_true_eq, true_iff, Bool.false_eq_true, false_iff]; omega)
end Go.Proofs.YtofheinbbefbcaaDoor
/- Plain law of the sum of bytes: its steps undo, bursts of four bytes are seen, three rows go with exclusive or. -/
namespace Go.Proofs.YtofheinbbefbcaaDoor

theorem tab_top (i j : Nat) (hi : i < 16) (hj : j < 16) (h : tab i / 268435456 = tab j / 268435456) : i = j :=
  (show ∀ i, i < 16 → ∀ j, j < 16 → tab i / 268435456 = tab j / 268435456 → i = j by decide) i hi j hj h
theorem bit4_eq (x : Nat) : bit4 x = tab (x % 16) ^^^ (x / 16) := by
  conv => lhs; rw [split16 x]
  rw [bit4_xor, bit4_mul, bit4_low _ (Nat.mod_lt _ (by omega)), Nat.xor_comm]
theorem xor_div28 (a b : Nat) : (a ^^^ b) / 268435456 = (a / 268435456) ^^^ (b / 268435456) := by
  have := @Nat.xor_div_two_pow a b 28
  simpa using this
theorem bit4_lt (x : Nat) (h : x < 4294967296) : bit4 x < 4294967296 := by
  rw [bit4_eq]; exact Nat.xor_lt_two_pow (n := 32) (tab_lt _) (by omega)
theorem bit4_inj (x y : Nat) (hx : x < 4294967296) (hy : y < 4294967296) (h : bit4 x = bit4 y) : x = y := by
  rw [bit4_eq, bit4_eq] at h
  have h1 := congrArg (· / 268435456) h
  simp only [xor_div28] at h1
  rw [Nat.div_eq_of_lt (show x / 16 < 268435456 by omega), Nat.div_eq_of_lt (show y / 16 < 268435456 by omega), Nat.xor_zero, Nat.xor_zero] at h1
  have h2 := tab_top _ _ (Nat.mod_lt x (by omega)) (Nat.mod_lt y (by omega)) h1
  rw [h2] at h
  have h3 : x / 16 = y / 16 := by
    have := congrArg (tab (y % 16) ^^^ ·) h
    simp only [← Nat.xor_assoc, Nat.xor_self, Nat.zero_xor] at this
    exact this
  omega

/-- Eight single steps. -/
def bit8 (x : Nat) : Nat := bit4 (bit4 x)
theorem bit8_xor (a b : Nat) : bit8 (a ^^^ b) = bit8 a ^^^ bit8 b := by simp only [bit8, bit4_xor]
theorem bit8_mul (q : Nat) : bit8 (256 * q) = q := by
  unfold bit8
  rw [show 256 * q = 16 * (16 * q) from by omega, bit4_mul, bit4_mul]
theorem bit8_lt (x : Nat) (h : x < 4294967296) : bit8 x < 4294967296 := bit4_lt _ (bit4_lt _ h)
theorem bit8_inj (x y : Nat) (hx : x < 4294967296) (hy : y < 4294967296) (h : bit8 x = bit8 y) : x = y :=
  bit4_inj x y hx hy (bit4_inj _ _ (bit4_lt _ hx) (bit4_lt _ hy) h)
theorem byteN_eq (s : Nat) (c : UInt8) : byteN s c = bit8 (s ^^^ c.toNat) := by
  unfold byteN bit8
  rw [stepN_eq, stepN_eq, Nat.mod_mod, Nat.mod_eq_of_lt (show c.toNat / 16 < 16 by have := c.toNat_lt; omega)]
  congr 1
  conv => rhs; rw [split16 c.toNat, Nat.xor_comm (16 * (c.toNat / 16)), ← Nat.xor_assoc, bit4_xor, bit4_mul]
theorem byteN_inj (s t : Nat) (c : UInt8) (hs : s < 4294967296) (ht : t < 4294967296) (h : byteN s c = byteN t c) : s = t := by
  rw [byteN_eq, byteN_eq] at h
  have hc := c.toNat_lt
  have h1 := bit8_inj _ _ (Nat.xor_lt_two_pow (n := 32) hs (by omega)) (Nat.xor_lt_two_pow (n := 32) ht (by omega)) h
  have := congrArg (· ^^^ c.toNat) h1
  simp only [Nat.xor_assoc, Nat.xor_self, Nat.xor_zero] at this
  exact this
theorem runN_inj (l : List UInt8) : ∀ s t, s < 4294967296 → t < 4294967296 → runN s l = runN t l → s = t := by
  induction l with
  | nil => intro s t _ _ h; exact h
  | cons c l ih => intro s t hs ht h; exact byteN_inj s t c hs ht (ih _ _ (byteN_lt _ _ hs) (byteN_lt _ _ ht) h)

/-- Four bytes as one number. -/
def packN (a b c d : UInt8) : Nat := a.toNat ^^^ (256 * b.toNat ^^^ (65536 * c.toNat ^^^ 16777216 * d.toNat))
def bit32 (x : Nat) : Nat := bit8 (bit8 (bit8 (bit8 x)))
theorem run4 (s : Nat) (a b c d : UInt8) : runN s [a, b, c, d] = bit32 (s ^^^ packN a b c d) := by
  simp only [runN, List.foldl_cons, List.foldl_nil, byteN_eq, bit32, packN]
  rw [show s ^^^ (a.toNat ^^^ (256 * b.toNat ^^^ (65536 * c.toNat ^^^ 16777216 * d.toNat))) = (s ^^^ a.toNat) ^^^ (256 * b.toNat ^^^ (65536 * c.toNat ^^^ 16777216 * d.toNat)) from by ac_rfl]
  rw [bit8_xor (s ^^^ a.toNat), bit8_xor (256 * b.toNat), bit8_mul, bit8_xor (65536 * c.toNat), show 65536 * c.toNat = 256 * (256 * c.toNat) from by omega, show 16777216 * d.toNat = 256 * (65536 * d.toNat) from by omega, bit8_mul, bit8_mul]
  rw [← Nat.xor_assoc (bit8 (s ^^^ a.toNat)), bit8_xor (bit8 (s ^^^ a.toNat) ^^^ b.toNat), bit8_xor (256 * c.toNat), bit8_mul, show 65536 * d.toNat = 256 * (256 * d.toNat) from by omega, bit8_mul]
  rw [← Nat.xor_assoc (bit8 (bit8 (s ^^^ a.toNat) ^^^ b.toNat)), bit8_xor (bit8 (bit8 (s ^^^ a.toNat) ^^^ b.toNat) ^^^ c.toNat), bit8_mul]
theorem bit32_inj (x y : Nat) (hx : x < 4294967296) (hy : y < 4294967296) (h : bit32 x = bit32 y) : x = y :=
  bit8_inj x y hx hy (bit8_inj _ _ (bit8_lt _ hx) (bit8_lt _ hy) (bit8_inj _ _ (bit8_lt _ (bit8_lt _ hx)) (bit8_lt _ (bit8_lt _ hy)) (bit8_inj _ _ (bit8_lt _ (bit8_lt _ (bit8_lt _ hx))) (bit8_lt _ (bit8_lt _ (bit8_lt _ hy))) h)))
theorem xor_add (n a q : Nat) (h : a < 2 ^ n) : a ^^^ (2 ^ n * q) = a + 2 ^ n * q := by
  rw [Nat.add_comm, Nat.two_pow_add_eq_or_of_lt h]
  apply Nat.eq_of_testBit_eq
  intro i
  rw [Nat.testBit_xor, Nat.testBit_or, Nat.testBit_two_pow_mul]
  by_cases hi : i < n
  · simp [Nat.not_le.2 hi]
  · have : a.testBit i = false := Nat.testBit_lt_two_pow (Nat.lt_of_lt_of_le h (Nat.pow_le_pow_right (by decide) (by omega)))
    simp [this]
theorem packN_eq (a b c d : UInt8) : packN a b c d = a.toNat + 256 * b.toNat + 65536 * c.toNat + 16777216 * d.toNat := by
  have ha := a.toNat_lt
  have hb := b.toNat_lt
  have hc := c.toNat_lt
  unfold packN
  have e1 : 65536 * c.toNat ^^^ 16777216 * d.toNat = 65536 * c.toNat + 16777216 * d.toNat := by
    have := xor_add 24 (65536 * c.toNat) d.toNat (by omega)
    simpa using this
  have e2 : 256 * b.toNat ^^^ (65536 * c.toNat + 16777216 * d.toNat) = 256 * b.toNat + (65536 * c.toNat + 16777216 * d.toNat) := by
    have := xor_add 16 (256 * b.toNat) (c.toNat + 256 * d.toNat) (by omega)
    rw [show 65536 * c.toNat + 16777216 * d.toNat = 2 ^ 16 * (c.toNat + 256 * d.toNat) from by omega]
    exact this
  have e3 := xor_add 8 a.toNat (b.toNat + 256 * c.toNat + 65536 * d.toNat) (by omega)
  rw [e1, e2, show 256 * b.toNat + (65536 * c.toNat + 16777216 * d.toNat) = 2 ^ 8 * (b.toNat + 256 * c.toNat + 65536 * d.toNat) from by omega, e3]
  omega
theorem packN_lt (a b c d : UInt8) : packN a b c d < 4294967296 := by
  have := a.toNat_lt
  have := b.toNat_lt
  have := c.toNat_lt
  have := d.toNat_lt
  rw [packN_eq]; omega
theorem packN_inj (a b c d a' b' c' d' : UInt8) (h : packN a b c d = packN a' b' c' d') : a = a' ∧ b = b' ∧ c = c' ∧ d = d' := by
  have := a.toNat_lt
  have := b.toNat_lt
  have := c.toNat_lt
  have := d.toNat_lt
  have := a'.toNat_lt
  have := b'.toNat_lt
  have := c'.toNat_lt
  have := d'.toNat_lt
  rw [packN_eq, packN_eq] at h
  refine ⟨UInt8.toNat_inj.1 ?_, UInt8.toNat_inj.1 ?_, UInt8.toNat_inj.1 ?_, UInt8.toNat_inj.1 ?_⟩ <;> omega

/-- What a row with its right sum behind runs to. -/
def residue : Nat := bit32 4294967295
theorem inv32_xor (x : Nat) (h : x < 4294967296) : inv32 x = 4294967295 ^^^ x := by
  have h1 : (4294967295 : Nat) ^^^ x = (BitVec.allOnes 32 ^^^ BitVec.ofNat 32 x).toNat := by
    rw [BitVec.toNat_xor, BitVec.toNat_allOnes, BitVec.toNat_ofNat, Nat.mod_eq_of_lt h]
  rw [h1, BitVec.allOnes_xor, BitVec.toNat_not, BitVec.toNat_ofNat, Nat.mod_eq_of_lt h]
  rfl
theorem pack_fourN (s : Nat) (h : s < 4294967296) : ∃ a b c d, fourN s = [a, b, c, d] ∧ packN a b c d = s := by
  refine ⟨_, _, _, _, rfl, ?_⟩
  rw [packN_eq]
  have e (n : Nat) : (UInt8.ofNat n).toNat = n % 256 := by simp
  rw [e, e, e, e]; omega
theorem four_iff (s : Nat) (h : s < 4294967296) (a b c d : UInt8) : fourN s = [a, b, c, d] ↔ packN a b c d = s := by
  obtain ⟨a', b', c', d', e, e'⟩ := pack_fourN s h
  rw [e]
  constructor
  · intro hh
    injection hh with h1 hh
    injection hh with h2 hh
    injection hh with h3 hh
    injection hh with h4 _
    rw [← h1, ← h2, ← h3, ← h4]; exact e'
  · intro hh
    obtain ⟨rfl, rfl, rfl, rfl⟩ := packN_inj _ _ _ _ _ _ _ _ (e'.trans hh.symm)
    rfl
theorem sum_iff (p : List UInt8) (a b c d : UInt8) : fourN (nextN 0 p) = [a, b, c, d] ↔ runN (inv32 0) (p ++ [a, b, c, d]) = residue := by
  rw [four_iff _ (nextN_lt _ _), runN_append, run4]
  have h0 := runN_lt p (inv32 0) (inv32_lt 0)
  have hp := packN_lt a b c d
  have hn : nextN 0 p = 4294967295 ^^^ runN (inv32 0) p := inv32_xor _ h0
  rw [hn]
  constructor
  · intro h
    rw [h]
    unfold residue
    congr 1
    rw [Nat.xor_comm 4294967295, ← Nat.xor_assoc, Nat.xor_self, Nat.zero_xor]
  · intro h
    have := bit32_inj _ _ (Nat.xor_lt_two_pow (n := 32) h0 hp) (by decide) h
    rw [← this, Nat.xor_comm (runN (inv32 0) p), Nat.xor_assoc, Nat.xor_self, Nat.xor_zero]
theorem run_put (b : List UInt8) : runN (inv32 0) (putN b) = residue := by
  obtain ⟨a, b', c, d, e, _⟩ := pack_fourN (nextN 0 b) (nextN_lt _ _)
  unfold putN
  rw [e]
  exact (sum_iff b a b' c d).1 e
theorem take_none (l : List UInt8) (h : runN (inv32 0) l ≠ residue) : takeN l = none := by
  unfold takeN
  split
  · rfl
  · rename_i h4
    rw [if_neg]
    intro hf
    have hq : (l.drop (l.length - 4)).length = 4 := by rw [List.length_drop]; omega
    match hd : l.drop (l.length - 4), hq with
    | [a, b, c, d], _ =>
      rw [hd] at hf
      have := (sum_iff _ a b c d).1 hf
      rw [← hd, List.take_append_drop] at this
      exact h this
theorem take_put (b : List UInt8) : takeN (putN b) = some b := by
  have hl : (putN b).length = b.length + 4 := by simp [putN, fourN]
  have h1 : (putN b).take ((putN b).length - 4) = b := by rw [hl]; simp [putN]
  have h2 : (putN b).drop ((putN b).length - 4) = fourN (nextN 0 b) := by rw [hl]; simp [putN]
  unfold takeN
  rw [if_neg (by omega), h1, h2, if_pos rfl]

end Go.Proofs.YtofheinbbefbcaaDoor
/- Layer 7: records and segments, in plain terms. -/
namespace Go.Proofs.YtofheinbbefbcaaDoor
open Go Go.RowKit
set_option maxRecDepth 100000
theorem p_wakes07 : m_law07_wakes = some true := by decide +kernel
/-! ### Bytes -/
theorem long_yes (x : Int) (h : 0 ≤ x ∧ x ≤ 1073741824) : m_num_Long [x] = some (long1 x.toNat, 0) ∧ m_ref01_Long [x] = some (long1 x.toNat, 0) := by
  have hb := badN_false.2 h
  have e1 : longR [x] = long1 x.toNat := by
    unfold longR isN longL
    simp [hb]
  have e2 : errN [x] = 0 := by
    unfold errN isN
    simp [hb]
  unfold m_num_Long m_ref01_Long
  rw [e1, e2]
  exact ⟨rfl, rfl⟩
theorem long_no (x : Int) (h : ¬ (0 ≤ x ∧ x ≤ 1073741824)) : m_num_Long [x] = some ([], 2) := by
  have hb : badN x = true := badN_true.2 (by omega)
  have e1 : longR [x] = [] := by
    unfold longR isN
    simp [hb]
  have e2 : errN [x] = 2 := by
    unfold errN isN
    simp [hb]
  unfold m_num_Long
  rw [e1, e2]
  rfl
def headB (n : Int) : List UInt8 := 1 :: long1 n.toNat
theorem headB_len (n : Int) : (headB n).length = 6 := rfl
def payB (e : En) : List UInt8 := long1 e.term.toNat ++ [byI e.kind] ++ long1 e.value.toNat
def recB (e : En) : List UInt8 := putN (payB e)
def recsB (l : List En) : List UInt8 := l.flatMap recB
theorem payB_len (e : En) : (payB e).length = 11 := rfl
theorem recB_len (e : En) : (recB e).length = 15 := by unfold recB; rw [putN_len, payB_len]
theorem recsB_cons (e : En) (l : List En) : recsB (e :: l) = recB e ++ recsB l := rfl
theorem recsB_app (l m : List En) : recsB (l ++ m) = recsB l ++ recsB m := by unfold recsB; rw [List.flatMap_append]
theorem recsB_len (l : List En) : (recsB l).length = 15 * l.length := by
  induction l with
  | nil => rfl
  | cons e l ih => rw [recsB_cons, List.length_append, recB_len, ih, List.length_cons]; omega
theorem right_iff (e : En) : rightB e = true ↔ 0 ≤ e.kind ∧ e.kind ≤ 4 ∧ 0 < e.term ∧ e.term ≤ 1073741824 ∧ 0 ≤ e.value ∧ e.value ≤ 1073741824 ∧ (e.value = 0 ∨ e.kind = 1) := decide_eq_true_iff
/-! ### What is put -/
def headR (x : Int) : List UInt8 × Int := if 1 ≤ x ∧ x ≤ 1073741824 then (headB x, 0) else ([], 2)
theorem p_oneHead (x : Int) : m_one_Head x = some (headR x) := by
  unfold m_one_Head headR
  by_cases h : 0 ≤ x ∧ x ≤ 1073741824
  · rw [(long_yes x h).1, Option.bind_some]
    by_cases h0 : x = 0
    · rw [decide_eq_false (by simp), cond_false, decide_eq_true h0, cond_true, if_neg (by omega)]
    · rw [decide_eq_false (by simp), cond_false, decide_eq_false h0, cond_false, if_pos (by omega)]
      rfl
  · rw [long_no x h, Option.bind_some, decide_eq_true (by decide), cond_true, if_neg (by omega)]
def putR (l : List En) : List UInt8 × Int := if l.all rightB = true then (recsB l, 0) else ([], 2)
theorem onePut_l1 (l : List En) (hl : l.length ≤ 100) : ∀ (q k n : Nat) (acc : List UInt8) (v : Int), q + k = l.length → q < n → acc.length + 15 * q ≤ 100000 →
    m_one_Put_l1 l n acc v k = some (if (l.drop k).all rightB = true then (acc ++ recsB (l.drop k), 0) else ([], 2)) := by
  intro q
  induction q with
  | zero =>
    intro k n acc v hk hn ha
    obtain ⟨n, rfl⟩ : ∃ n', n = n' + 1 := ⟨n - 1, by omega⟩
    rw [m_one_Put_l1, decide_eq_false (show ¬ (k : Int) < (l.length : Int) by omega), cond_false, List.drop_eq_nil_of_le (by omega)]
    simp [recsB]
  | succ q ih =>
    intro k n acc v hk hn ha
    obtain ⟨n, rfl⟩ : ∃ n', n = n' + 1 := ⟨n - 1, by omega⟩
    obtain ⟨e, he, hd⟩ := drop_step (show k < l.length by omega)
    have w1 : IntKind.wrap .i64 ((k : Int) + 1) = ((k + 1 : Nat) : Int) := by rw [w64i (by omega)]; omega
    have hR : m_entry_Right e = some (rightB e) := rfl
    rw [m_one_Put_l1, decide_eq_true (show (k : Int) < (l.length : Int) by omega), cond_true, idx_nat, he, Option.bind_some, hR, Option.bind_some, hd, w1]
    cases hr : rightB e with
    | false => rw [Bool.not_false, cond_true, List.all_cons, hr, Bool.false_and, if_neg (by decide)]
    | true =>
      have h' := (right_iff e).1 hr
      have hP : m_crc_Put (payB e) = some (recB e) := by unfold m_crc_Put; rw [decide_eq_true (by rw [payB_len]; decide)]; rfl
      rw [Bool.not_true, cond_false, (long_yes e.term (by omega)).1, Option.bind_some, (long_yes e.value (by omega)).1, Option.bind_some]
      dsimp only
      rw [fewI_ok _ (by simp [long1_len]), Option.bind_some, fewI_ok _ (by simp [long1_len]), Option.bind_some]
      show (m_crc_Put (payB e)).bind _ = _
      rw [hP, Option.bind_some, fewI_ok _ (by rw [List.length_append, recB_len]; omega), Option.bind_some, ih (k + 1) n (acc ++ recB e) v (by omega) (by omega) (by rw [List.length_append, recB_len]; omega), List.all_cons, hr, Bool.true_and, recsB_cons, List.append_assoc]
theorem p_onePut (l : List En) (hl : l.length ≤ 100) : m_one_Put l = some (putR l) := by
  have := onePut_l1 l hl l.length 0 fuelN [] 0 (by omega) (by unfold fuelN; omega) (by simp; omega)
  exact this
def fileR (x : Int) (l : List En) : List UInt8 × Int := if (1 ≤ x ∧ x ≤ 1073741824) ∧ l.all rightB = true then (headB x ++ recsB l, 0) else ([], 2)
theorem p_oneFile (x : Int) (l : List En) (hl : l.length ≤ 100) : m_one_File x l = some (fileR x l) := by
  unfold m_one_File fileR
  rw [p_oneHead, Option.bind_some, p_onePut l hl]
  unfold headR putR
  by_cases h1 : 1 ≤ x ∧ x ≤ 1073741824
  · rw [if_pos h1, decide_eq_false (by simp), cond_false, Option.bind_some]
    by_cases h2 : l.all rightB = true
    · rw [if_pos h2, decide_eq_false (by simp), cond_false, if_pos ⟨h1, h2⟩, fewI_ok _ (by dsimp only; rw [List.length_append, headB_len, recsB_len]; omega), Option.bind_some]
    · rw [if_neg h2, decide_eq_true (by decide), cond_true, if_neg (fun h => h2 h.2)]
  · rw [if_neg h1, decide_eq_true (by decide), cond_true, if_neg (fun h => h1 h.1)]
theorem take_inv (b p : List UInt8) (h : takeN b = some p) : b = putN p ∧ b.length = p.length + 4 := by
  unfold takeN at h
  split at h
  · cases h
  · rename_i h4
    split at h
    · rename_i h5
      have h := Option.some.inj h
      have e : b = putN p := by
        unfold putN
        rw [← h, h5, List.take_append_drop]
      exact ⟨e, by rw [e, putN_len]⟩
    · cases h
/-- A record's entry. -/
def takeE (b : List UInt8) : Option En := match takeN b with
  | none => none
  | some p => if (tlN p).2.2 = 0 then (if (tlN ((tlN p).2.1.drop 1)).2.2 = 0 then
      (if rightB ⟨(tlN p).1, (((tlN p).2.1[0]?.getD 0).toNat : Int), (tlN ((tlN p).2.1.drop 1)).1⟩ = true then some ⟨(tlN p).1, (((tlN p).2.1[0]?.getD 0).toNat : Int), (tlN ((tlN p).2.1.drop 1)).1⟩ else none) else none) else none
theorem tl_eta (l : List UInt8) (h : (tlN l).2.2 = 0) : tlN l = ((tlN l).1, (tlN l).2.1, 0) := by rw [← h]
theorem tl_rest (l : List UInt8) (h : (tlN l).2.2 = 0) : (tlN l).2.1.length + 5 = l.length := by
  obtain ⟨X, _, _, hl⟩ := tl_inv l _ _ (tl_eta l h)
  have := congrArg List.length hl
  rw [List.length_append, long1_len] at this
  omega
theorem takeE_rec (e : En) (h : rightB e = true) : takeE (recB e) = some e := by
  have h' := (right_iff e).1 h
  have t1 : takeN (recB e) = some (payB e) := take_put _
  have t2 : tlN (payB e) = (e.term, byI e.kind :: long1 e.value.toNat, 0) := by
    unfold payB
    rw [List.append_assoc, tl_long _ (by omega)]
    rw [Int.toNat_of_nonneg (by omega)]
    rfl
  have t3 : tlN (long1 e.value.toNat) = (e.value, [], 0) := by
    have := tl_long e.value.toNat (by omega) []
    rw [List.append_nil] at this
    rw [this, Int.toNat_of_nonneg (by omega)]
  have t4 : ((byI e.kind).toNat : Int) = e.kind := by
    rw [← byI_wrap]
    have : IntKind.wrap .u8 e.kind = e.kind % 256 := rfl
    rw [this]
    exact Int.emod_eq_of_lt (by omega) (by omega)
  unfold takeE
  simp only [t1, t2, List.drop_succ_cons, List.drop_zero, t3, List.getElem?_cons_zero, Option.getD_some, t4, if_true, h]
theorem p_oneTake (b : List UInt8) (hb : b.length = 15) : m_one_take b = some ((takeE b).getD ⟨0, 0, 0⟩, (takeE b).isSome) := by
  have hT : m_crc_Take b = some ((takeN b).getD [], (takeN b).isSome) := by unfold m_crc_Take; rw [decide_eq_true (by omega)]; rfl
  unfold m_one_take takeE
  rw [hT, Option.bind_some]
  cases hp : takeN b with
  | none => rfl
  | some p =>
    obtain ⟨hbp, hlen⟩ := take_inv b p hp
    have hL : m_num_TakeLong p = some (tlN p) := by unfold m_num_TakeLong; rw [decide_eq_true (by omega)]; rfl
    dsimp only [Option.isSome_some, Option.getD_some]
    rw [Bool.not_true, cond_false, hL, Option.bind_some]
    by_cases h1 : (tlN p).2.2 = 0
    case neg => rw [decide_eq_true (show (tlN p).2.2 ≠ 0 from h1), cond_true, if_neg h1]; rfl
    have l1 := tl_rest p h1
    obtain ⟨c, m, hcm⟩ : ∃ c m, (tlN p).2.1 = c :: m := by
      cases hm : (tlN p).2.1 with
      | nil => rw [hm] at l1; simp at l1; omega
      | cons c m => exact ⟨c, m, rfl⟩
    have hi : idx (tlN p).2.1 0 = some c := by rw [hcm]; rfl
    have hd : dropI (tlN p).2.1 1 = some ((tlN p).2.1.drop 1) := dropI_nat _ 1 (by omega)
    have hL2 : m_num_TakeLong ((tlN p).2.1.drop 1) = some (tlN ((tlN p).2.1.drop 1)) := by unfold m_num_TakeLong; rw [decide_eq_true (by rw [List.length_drop]; omega)]; rfl
    have hc : IntKind.wrap .i64 (c.toNat : Int) = (c.toNat : Int) := w64i (by have := c.toNat_lt; omega)
    have hg : (tlN p).2.1[0]?.getD 0 = c := by rw [hcm]; rfl
    rw [decide_eq_false (show ¬ (tlN p).2.2 ≠ 0 from fun h => h h1), cond_false, if_pos h1, hi, Option.bind_some, hd, Option.bind_some, hL2, Option.bind_some, hc, hg]
    by_cases h2 : (tlN ((tlN p).2.1.drop 1)).2.2 = 0
    case neg => rw [decide_eq_true (show (tlN ((tlN p).2.1.drop 1)).2.2 ≠ 0 from h2), cond_true, if_neg h2]; rfl
    rw [decide_eq_false (show ¬ (tlN ((tlN p).2.1.drop 1)).2.2 ≠ 0 from fun h => h h2), cond_false, if_pos h2]
    show (some (rightB _)).bind _ = _
    rw [Option.bind_some]
    cases rightB ⟨(tlN p).1, (c.toNat : Int), (tlN ((tlN p).2.1.drop 1)).1⟩ with
    | true => rfl
    | false => rfl
end Go.Proofs.YtofheinbbefbcaaDoor
/- Layer 7's statements, in plain terms. -/
namespace Go.Proofs.YtofheinbbefbcaaDoor
open Go Go.RowKit
set_option maxRecDepth 100000
/-! ### What is scanned -/
def scanL (b : List UInt8) : Nat → Nat → List En
  | 0, _ => []
  | q + 1, k => if k + 15 ≤ b.length then (match takeE ((b.take (k + 15)).drop k) with
    | some e => e :: scanL b q (k + 15)
    | none => []) else []
def pairL : List En → Nat → List (Int × En)
  | [], _ => []
  | e :: l, k => (((k + 15 : Nat) : Int), e) :: pairL l (k + 15)
theorem cut_len15 (b : List UInt8) (k : Nat) (h : k + 15 ≤ b.length) : ((b.take (k + 15)).drop k).length = 15 := by rw [List.length_drop, List.length_take]; omega
theorem recs_scan (b : List UInt8) : ∀ q k, recsI b q k = some (pairL (scanL b q k) k) := by
  intro q
  induction q with
  | zero => intro k; rfl
  | succ q ih =>
    intro k
    rw [recsI, scanL]
    by_cases h : k + 15 ≤ b.length
    · rw [if_pos h, if_pos h, p_oneTake _ (cut_len15 b k h), Option.bind_some]
      cases ht : takeE ((b.take (k + 15)).drop k) with
      | none => rfl
      | some e =>
        dsimp only [Option.isSome_some, Option.getD_some]
        rw [if_pos rfl, ih (k + 15), Option.bind_some]
        rfl
    · rw [if_neg h, if_neg h]; rfl
theorem scan_len (b : List UInt8) : ∀ q k, k ≤ b.length → k + 15 * (scanL b q k).length ≤ b.length := by
  intro q
  induction q with
  | zero => intro k h; simpa [scanL] using h
  | succ q ih =>
    intro k h
    rw [scanL]
    split
    · rename_i h1
      split
      · rename_i e _
        have := ih (k + 15) h1
        rw [List.length_cons]; omega
      · simpa using h
    · simpa using h
def headO (b : List UInt8) : Option Int := if 6 ≤ b.length ∧ b[0]? = some 1 ∧ (tlN ((b.take 6).drop 1)).2.2 = 0 ∧ (tlN ((b.take 6).drop 1)).1 ≠ 0 then some (tlN ((b.take 6).drop 1)).1 else none
def scanR (b : List UInt8) : Sc × Int := match headO b with
  | some n => (⟨n, scanL b (b.length + 1) 6, ((6 + 15 * (scanL b (b.length + 1) 6).length : Nat) : Int)⟩, 0)
  | none => (⟨0, [], 0⟩, 11)
theorem scan_r1 (r : Int × List UInt8 × Int) : ∀ (l : List En) (k : Nat) (log : List En), log.length + l.length ≤ 100000 → m_one_Scan_r1 r (pairL l k) log k = some (⟨r.1, log ++ l, ((k + 15 * l.length : Nat) : Int)⟩, 0) := by
  intro l
  induction l with
  | nil => intro k log _; rw [pairL, m_one_Scan_r1]; simp
  | cons e l ih =>
    intro k log h
    rw [List.length_cons] at h
    rw [pairL, m_one_Scan_r1, fewI_ok _ (by rw [List.length_append]; simp only [List.length_cons, List.length_nil]; omega), Option.bind_some]
    have := ih (k + 15) (log ++ [e]) (by rw [List.length_append]; simp only [List.length_cons, List.length_nil]; omega)
    rw [this, List.append_assoc, List.length_cons]
    congr 4
    omega
theorem one_byte (c : UInt8) : (c.toNat : Int) = 1 ↔ c = 1 := by
  constructor
  · intro h
    have : c.toNat = 1 := by omega
    rw [← ofNat_toNat' c, this]; rfl
  · rintro rfl; rfl
theorem p_oneScan (b : List UInt8) (hb : b.length ≤ 1000) : m_one_Scan b = some (scanR b) := by
  unfold m_one_Scan scanR headO
  by_cases h6 : (b.length : Int) < 6
  · rw [decide_eq_true h6, cond_true, if_neg (fun h => by have := h.1; omega)]
  rw [decide_eq_false h6, cond_false]
  obtain ⟨c, hc, _⟩ := drop_step (show 0 < b.length by omega)
  have hi : idx b 0 = some c := by have := idx_nat b 0; rw [show ((0 : Nat) : Int) = 0 from rfl] at this; rw [this]; exact hc
  rw [hi, Option.bind_some, hc]
  by_cases h1 : c = 1
  case neg => rw [decide_eq_true (show (c.toNat : Int) ≠ 1 from fun h => h1 ((one_byte c).1 h)), cond_true, if_neg (fun h => h1 (Option.some.inj h.2.1))]
  have ht : takeI b 6 = some (b.take 6) := takeI_nat b 6 (by omega)
  have hd : dropI (b.take 6) 1 = some ((b.take 6).drop 1) := dropI_nat _ 1 (by rw [List.length_take]; omega)
  have hL : m_num_TakeLong ((b.take 6).drop 1) = some (tlN ((b.take 6).drop 1)) := by unfold m_num_TakeLong; rw [decide_eq_true (by rw [List.length_drop, List.length_take]; omega)]; rfl
  rw [decide_eq_false (show ¬ (c.toNat : Int) ≠ 1 from fun h => h ((one_byte c).2 h1)), cond_false, ht, Option.bind_some, hd, Option.bind_some, hL, Option.bind_some]
  by_cases h2 : (tlN ((b.take 6).drop 1)).2.2 = 0
  case neg => rw [decide_eq_true (show (tlN ((b.take 6).drop 1)).2.2 ≠ 0 from h2), cond_true, if_neg (fun h => h2 h.2.2.1)]
  rw [decide_eq_false (fun h => h h2), cond_false]
  by_cases h3 : (tlN ((b.take 6).drop 1)).1 = 0
  · rw [decide_eq_true h3, cond_true, if_neg (fun h => h.2.2.2 h3)]
  rw [decide_eq_false h3, cond_false, if_pos ⟨by omega, by rw [h1], h2, h3⟩]
  have hlen := scan_len b (b.length + 1) 6 (by omega)
  unfold m_it_records
  rw [if_pos (by omega), recs_scan, Option.bind_some]
  have := scan_r1 (tlN ((b.take 6).drop 1)) (scanL b (b.length + 1) 6) 6 [] (by rw [List.length_nil]; omega)
  exact this
theorem head_of (n : Int) (h : 1 ≤ n ∧ n ≤ 1073741824) (r : List UInt8) : headO (headB n ++ r) = some n := by
  have e1 : ((headB n ++ r).take 6).drop 1 = long1 n.toNat := rfl
  have e2 : tlN (long1 n.toNat) = (n, [], 0) := by
    have := tl_long n.toNat (by omega) []
    rw [List.append_nil] at this
    rw [this, Int.toNat_of_nonneg (by omega)]
  unfold headO
  rw [e1, e2, if_pos ⟨by rw [List.length_append, headB_len]; omega, rfl, rfl, by dsimp only; omega⟩]
theorem scan_recs : ∀ (l : List En) (pre r : List UInt8) (q : Nat), l.all rightB = true → (r.length < 15 ∨ takeE (r.take 15) = none) → l.length < q → scanL (pre ++ (recsB l ++ r)) q pre.length = l := by
  intro l
  induction l with
  | nil =>
    intro pre r q _ hr hq
    obtain ⟨q, rfl⟩ : ∃ q', q = q' + 1 := ⟨q - 1, by rw [List.length_nil] at hq; omega⟩
    rw [scanL]
    by_cases h : pre.length + 15 ≤ (pre ++ (recsB [] ++ r)).length
    · rw [if_pos h]
      have h15 : 15 ≤ r.length := by
        have : (pre ++ (recsB [] ++ r)).length = pre.length + r.length := by simp [recsB]
        omega
      have e : ((pre ++ (recsB [] ++ r)).take (pre.length + 15)).drop pre.length = r.take 15 := by
        show ((pre ++ r).take (pre.length + 15)).drop pre.length = _
        rw [List.take_append, List.take_of_length_le (by omega), List.drop_append, List.drop_eq_nil_of_le (Nat.le_refl _), Nat.sub_self, List.drop_zero, List.nil_append]
        congr 1; omega
      rw [e]
      rcases hr with hr | hr
      · omega
      · rw [hr]
    · rw [if_neg h]
  | cons e l ih =>
    intro pre r q ha hr hq
    rw [List.length_cons] at hq
    obtain ⟨q, rfl⟩ : ∃ q', q = q' + 1 := ⟨q - 1, by omega⟩
    rw [List.all_cons, Bool.and_eq_true] at ha
    have hl := recB_len e
    rw [scanL, recsB_cons, List.append_assoc]
    have e1 : ((pre ++ (recB e ++ (recsB l ++ r))).take (pre.length + 15)).drop pre.length = recB e := by
      rw [List.take_append, List.take_of_length_le (by omega), List.drop_append, List.drop_eq_nil_of_le (Nat.le_refl _), Nat.sub_self, List.drop_zero, List.nil_append, show pre.length + 15 - pre.length = (recB e).length by omega, List.take_left]
    rw [if_pos (by rw [List.length_append, List.length_append]; omega), e1, takeE_rec e ha.1]
    dsimp only
    have := ih (pre ++ recB e) r q ha.2 hr (by omega)
    rw [List.append_assoc, List.length_append, hl] at this
    rw [this]
theorem scan_of (n : Int) (h : 1 ≤ n ∧ n ≤ 1073741824) (l : List En) (ha : l.all rightB = true) (r : List UInt8) (hr : r.length < 15 ∨ takeE (r.take 15) = none) : scanR (headB n ++ (recsB l ++ r)) = (⟨n, l, ((6 + 15 * l.length : Nat) : Int)⟩, 0) := by
  have hs := scan_recs l (headB n) r ((headB n ++ (recsB l ++ r)).length + 1) ha hr (by rw [List.length_append, List.length_append, recsB_len]; omega)
  rw [headB_len] at hs
  unfold scanR
  rw [head_of n h]
  dsimp only
  rw [hs]
theorem entries_l1 (l : List En) (hl : l.length ≤ 1000000) : ∀ (q k n : Nat) (v : Bool), q + k = l.length → q < n → m_ref07_Entries_l1 l l n v k = some true := by
  intro q
  induction q with
  | zero =>
    intro k n v hk hn
    obtain ⟨n, rfl⟩ : ∃ n', n = n' + 1 := ⟨n - 1, by omega⟩
    rw [m_ref07_Entries_l1, decide_eq_false (show ¬ (k : Int) < (l.length : Int) by omega), cond_false]
  | succ q ih =>
    intro k n v hk hn
    obtain ⟨n, rfl⟩ : ∃ n', n = n' + 1 := ⟨n - 1, by omega⟩
    obtain ⟨e, he, _⟩ := drop_step (show k < l.length by omega)
    have w1 : IntKind.wrap .i64 ((k : Int) + 1) = ((k + 1 : Nat) : Int) := by rw [w64i (by omega)]; omega
    rw [m_ref07_Entries_l1, decide_eq_true (show (k : Int) < (l.length : Int) by omega), cond_true, idx_nat, he, Option.bind_some, Option.bind_some, en_eq, decide_eq_true rfl, Bool.not_true, cond_false, w1]
    exact ih (k + 1) n v (by omega) (by omega)
theorem p_Entries07 (l : List En) (hl : l.length ≤ 1000000) : m_ref07_Entries l l = some true := by
  unfold m_ref07_Entries
  rw [decide_eq_false (fun h => h rfl), cond_false]
  exact entries_l1 l hl l.length 0 fuelN false (by omega) (by unfold fuelN; omega)
end Go.Proofs.YtofheinbbefbcaaDoor
/- Layer 7's stage theorem, in plain terms. -/
namespace Go.Proofs.YtofheinbbefbcaaDoor
open Go Go.RowKit
set_option maxRecDepth 100000
theorem xor_back (a x : UInt8) (h : x ≠ 0) : a ^^^ x ≠ a := by
  intro e
  have := congrArg (a ^^^ ·) e
  rw [← UInt8.xor_assoc] at this
  exact h (by simpa using this)
theorem byteN_in (s : Nat) (c d : UInt8) (hs : s < 4294967296) (h : byteN s c = byteN s d) : c = d := by
  rw [byteN_eq, byteN_eq] at h
  have hc := c.toNat_lt
  have hd := d.toNat_lt
  have h1 := bit8_inj _ _ (Nat.xor_lt_two_pow (n := 32) hs (by omega)) (Nat.xor_lt_two_pow (n := 32) hs (by omega)) h
  have h2 := congrArg (s ^^^ ·) h1
  rw [← Nat.xor_assoc, ← Nat.xor_assoc, Nat.xor_self, Nat.zero_xor, Nat.zero_xor] at h2
  rw [← ofNat_toNat' c, ← ofNat_toNat' d, h2]
theorem run_set : ∀ (l : List UInt8) (s i : Nat) (c d : UInt8), s < 4294967296 → l[i]? = some c → d ≠ c → runN s (l.set i d) ≠ runN s l := by
  intro l
  induction l with
  | nil => intro s i c d _ h; simp at h
  | cons a l ih =>
    intro s i c d hs h hne
    cases i with
    | zero =>
      obtain rfl : a = c := by simpa using h
      intro e
      exact hne (byteN_in s _ _ hs (runN_inj l _ _ (byteN_lt s d hs) (byteN_lt s a hs) e))
    | succ i =>
      exact ih (byteN s a) i c d (byteN_lt s a hs) (by simpa using h) hne
theorem takeE_set (e : En) (i : Nat) (c d : UInt8) (h : (recB e)[i]? = some c) (hne : d ≠ c) : takeE ((recB e).set i d) = none := by
  have hn : takeN ((recB e).set i d) = none := take_none _ fun hr => run_set (recB e) (inv32 0) i c d (inv32_lt 0) h hne (hr.trans (run_put (payB e)).symm)
  unfold takeE
  rw [hn]
theorem tdiv_nat (a : Nat) : Int.tdiv (a : Int) 15 = ((a / 15 : Nat) : Int) := rfl
theorem scan_short (b : List UInt8) (h : b.length < 6) : scanR b = (⟨0, [], 0⟩, 11) := by
  unfold scanR headO
  rw [if_neg (fun h2 => by have := h2.1; omega)]
/-- Bytes cut off at the end. -/
theorem cut_seg (x : Int) (l : List En) (k : Nat) (h6 : 6 ≤ k) (hk : k ≤ 6 + 15 * l.length) : ∃ r : List UInt8, (headB x ++ recsB l).take k = headB x ++ (recsB (l.take ((k - 6) / 15)) ++ r) ∧ r.length < 15 := by
  have hs : recsB l = recsB (l.take ((k - 6) / 15)) ++ recsB (l.drop ((k - 6) / 15)) := by rw [← recsB_app, List.take_append_drop]
  have hl : (recsB (l.take ((k - 6) / 15))).length = 15 * ((k - 6) / 15) := by rw [recsB_len, List.length_take]; omega
  refine ⟨(recsB (l.drop ((k - 6) / 15))).take (k - 6 - 15 * ((k - 6) / 15)), ?_, by rw [List.length_take]; omega⟩
  rw [List.take_append, List.take_of_length_le (by rw [headB_len]; exact h6), headB_len]
  congr 1
  conv => lhs; rw [hs]
  rw [List.take_append, List.take_of_length_le (by rw [hl]; omega), hl]
/-- One byte of a record is another one. -/
theorem set_seg (x : Int) (l : List En) (t : Nat) (ht : t < 15 * l.length) (d : UInt8) : ∃ (e : En) (r : List UInt8), l[t / 15]? = some e ∧ (headB x ++ recsB l)[6 + t]? = (recB e)[t % 15]? ∧ (headB x ++ recsB l).set (6 + t) d = headB x ++ (recsB (l.take (t / 15)) ++ ((recB e).set (t % 15) d ++ r)) := by
  have hj : t / 15 < l.length := by omega
  obtain ⟨e, he, hd⟩ := drop_step hj
  have hs : recsB l = recsB (l.take (t / 15)) ++ (recB e ++ recsB (l.drop (t / 15 + 1))) := by rw [← recsB_cons, ← recsB_app, ← hd, List.take_append_drop]
  have hl : (recsB (l.take (t / 15))).length = 15 * (t / 15) := by rw [recsB_len, List.length_take]; omega
  refine ⟨e, recsB (l.drop (t / 15 + 1)), he, ?_, ?_⟩
  · rw [List.getElem?_append_right (by rw [headB_len]; omega), headB_len, hs, List.getElem?_append_right (by rw [hl]; omega), hl, List.getElem?_append_left (by rw [recB_len]; omega)]
    congr 1; omega
  · rw [List.set_append_right _ _ (by rw [headB_len]; omega), headB_len, hs, List.set_append_right _ _ (by rw [hl]; omega), hl, List.set_append_left _ _ (by rw [recB_len]; omega)]
    have : 6 + t - 6 - 15 * (t / 15) = t % 15 := by omega
    rw [this]
theorem back_l2 (x : Int) (l : List En) (a b : Int) (c : UInt8) : ∀ (n : Nat) (v : Bool) (k : Int), m_law07_OneBack_l2 x l a b c n v k = m_law07_OneBack_l1 x l a b c n v k := by
  intro n
  induction n with
  | zero => intro v k; rfl
  | succ n ih => intro v k; rw [m_law07_OneBack_l2, m_law07_OneBack_l1]; simp only [ih]
theorem all_take (l : List En) (k : Nat) (e : En) (h : l[k]? = some e) : (l.take (k + 1)).all rightB = ((l.take k).all rightB && rightB e) := by
  rw [List.take_add_one, h, List.all_append]; simp
theorem back_l1 (x : Int) (l : List En) (a b : Int) (c : UInt8) (hl : l.length ≤ 40) : ∀ (q k n : Nat) (v : Bool), q + k = l.length → q < n → v = (decide (1 ≤ x ∧ x ≤ 1073741824) && (l.take k).all rightB) → m_law07_OneBack_l1 x l a b c n v k = some true := by
  intro q
  induction q with
  | succ q ih =>
    intro k n v hk hn hv
    obtain ⟨n, rfl⟩ : ∃ n', n = n' + 1 := ⟨n - 1, by omega⟩
    obtain ⟨e, he, _⟩ := drop_step (show k < l.length by omega)
    have w1 : IntKind.wrap .i64 ((k : Int) + 1) = ((k + 1 : Nat) : Int) := by rw [w64i (by omega)]; omega
    rw [m_law07_OneBack_l1, decide_eq_true (show (k : Int) < (l.length : Int) by omega), cond_true, idx_nat, he, w1]
    cases v with
    | true =>
      rw [cond_true, Option.bind_some, p_Right, Option.bind_some]
      exact ih (k + 1) n _ (by omega) (by omega) (by rw [all_take l k e he, ← Bool.and_assoc, ← hv, Bool.true_and])
    | false =>
      rw [cond_false]
      exact ih (k + 1) n _ (by omega) (by omega) (by rw [all_take l k e he, ← Bool.and_assoc, ← hv, Bool.false_and])
  | zero =>
    intro k n v hk hn hv
    obtain ⟨n, rfl⟩ : ∃ n', n = n' + 1 := ⟨n - 1, by omega⟩
    rw [List.take_of_length_le (by omega)] at hv
    rw [m_law07_OneBack_l1, decide_eq_false (show ¬ (k : Int) < (l.length : Int) by omega), cond_false, p_oneFile x l (by omega), Option.bind_some]
    cases v with
    | false =>
      have hF : fileR x l = ([], 2) := by
        unfold fileR
        rw [if_neg]
        rintro ⟨h1, h2⟩
        rw [decide_eq_true h1, h2] at hv
        cases hv
      rw [hF, p_wakes07]
      rfl
    | true =>
      have hv' := hv.symm
      rw [Bool.and_eq_true, decide_eq_true_eq] at hv'
      obtain ⟨hx, ha⟩ := hv'
      have hF : fileR x l = (headB x ++ recsB l, 0) := by unfold fileR; rw [if_pos ⟨hx, ha⟩]
      have hlen : (headB x ++ recsB l).length = 6 + 15 * l.length := by rw [List.length_append, headB_len, recsB_len]
      have hs : scanR (headB x ++ recsB l) = (⟨x, l, ((6 + 15 * l.length : Nat) : Int)⟩, 0) := by
        have := scan_of x hx l ha [] (.inl (by decide))
        rw [List.append_nil] at this
        exact this
      have hz : m_one_Size (l.length : Int) = some (((6 + 15 * l.length : Nat) : Int)) := by
        unfold m_one_Size
        rw [show min (max (l.length : Int) 0) 1073741824 = (l.length : Int) by omega, w64i (n := 15 * (l.length : Int)) (by omega), w64i (by omega)]
        congr 1
      rw [hF]
      dsimp only
      rw [p_oneScan _ (by rw [hlen]; omega), Option.bind_some, hs]
      simp only [Bool.not_true, cond_false, Bool.cond_decide, ne_eq, not_true, if_false, hlen, p_Entries07 l (by omega), hz, Option.bind_some]
      rw [if_neg (show ¬ ((6 + 15 * l.length : Nat) : Int) < 6 by omega)]
      obtain ⟨k2, hk2, _, hk3⟩ := rem_two a (6 + 15 * l.length) (by omega)
      have hp : (0 : Int) < ((6 + 15 * l.length : Nat) : Int) + 1 := by omega
      have b1 := Int.tmod_lt_of_pos a hp
      have b2 := Int.lt_tmod_of_pos a hp
      have wl : IntKind.wrap .i64 (((6 + 15 * l.length : Nat) : Int) + 1) = ((6 + 15 * l.length : Nat) : Int) + 1 := w64i (by omega)
      have eW : IntKind.wrap .i64 (IntKind.wrap .i64 (a.tmod (IntKind.wrap .i64 (((6 + 15 * l.length : Nat) : Int) + 1)) + ((6 + 15 * l.length : Nat) : Int)) + 1) = IntKind.wrap .i64 (a.tmod (IntKind.wrap .i64 (((6 + 15 * l.length : Nat) : Int) + 1)) + IntKind.wrap .i64 (((6 + 15 * l.length : Nat) : Int) + 1)) := by
        rw [wl, w64i (n := a.tmod (((6 + 15 * l.length : Nat) : Int) + 1) + ((6 + 15 * l.length : Nat) : Int)) (by omega), w64i (by omega), w64i (by omega)]
        omega
      have r1 : ∀ z : Int, remI z (IntKind.wrap .i64 (((6 + 15 * l.length : Nat) : Int) + 1)) = some (z.tmod (IntKind.wrap .i64 (((6 + 15 * l.length : Nat) : Int) + 1))) := fun z => remI_ok z _ (by rw [wl]; omega)
      simp only [eW, hk3, r1, Option.bind_some]
      rw [takeI_nat _ k2 (by rw [hlen]; exact hk2), Option.bind_some, p_oneScan _ (by rw [List.length_take, hlen]; omega), Option.bind_some]
      have tail : (if (l.length : Int) = 0 then some true else if (c.toNat : Int) = 0 then some true else
          (remI b (IntKind.wrap .i64 (((6 + 15 * l.length : Nat) : Int) - 6))).bind fun _ =>
          (remI (IntKind.wrap .i64 ((Int.tmod b (IntKind.wrap .i64 (((6 + 15 * l.length : Nat) : Int) - 6))) + (IntKind.wrap .i64 (((6 + 15 * l.length : Nat) : Int) - 6)))) (IntKind.wrap .i64 (((6 + 15 * l.length : Nat) : Int) - 6))).bind fun _ =>
          (fewI ([] ++ (headB x ++ recsB l))).bind fun l128 =>
          (idx l128 (IntKind.wrap .i64 (6 + (Int.tmod (IntKind.wrap .i64 ((Int.tmod b (IntKind.wrap .i64 (((6 + 15 * l.length : Nat) : Int) - 6))) + (IntKind.wrap .i64 (((6 + 15 * l.length : Nat) : Int) - 6)))) (IntKind.wrap .i64 (((6 + 15 * l.length : Nat) : Int) - 6)))))).bind fun e134 =>
          (idx l128 (IntKind.wrap .i64 (6 + (Int.tmod (IntKind.wrap .i64 ((Int.tmod b (IntKind.wrap .i64 (((6 + 15 * l.length : Nat) : Int) - 6))) + (IntKind.wrap .i64 (((6 + 15 * l.length : Nat) : Int) - 6)))) (IntKind.wrap .i64 (((6 + 15 * l.length : Nat) : Int) - 6)))))).bind fun _ =>
          (m_one_Scan (setI l128 (IntKind.wrap .i64 (6 + (Int.tmod (IntKind.wrap .i64 ((Int.tmod b (IntKind.wrap .i64 (((6 + 15 * l.length : Nat) : Int) - 6))) + (IntKind.wrap .i64 (((6 + 15 * l.length : Nat) : Int) - 6)))) (IntKind.wrap .i64 (((6 + 15 * l.length : Nat) : Int) - 6))))) (e134 ^^^ c))).bind fun r142 =>
          if r142.2 = 0 then
            (takeI l (IntKind.wrap .i64 (Int.tdiv (Int.tmod (IntKind.wrap .i64 ((Int.tmod b (IntKind.wrap .i64 (((6 + 15 * l.length : Nat) : Int) - 6))) + (IntKind.wrap .i64 (((6 + 15 * l.length : Nat) : Int) - 6)))) (IntKind.wrap .i64 (((6 + 15 * l.length : Nat) : Int) - 6))) 15))).bind fun l152 =>
            (m_ref07_Entries r142.1.log l152).bind fun r154 =>
            bif r154 then
              (if r142.1.used = (IntKind.wrap .i64 (6 + (IntKind.wrap .i64 ((IntKind.wrap .i64 (Int.tdiv (Int.tmod (IntKind.wrap .i64 ((Int.tmod b (IntKind.wrap .i64 (((6 + 15 * l.length : Nat) : Int) - 6))) + (IntKind.wrap .i64 (((6 + 15 * l.length : Nat) : Int) - 6)))) (IntKind.wrap .i64 (((6 + 15 * l.length : Nat) : Int) - 6))) 15)) * 15)))) then some true else some false)
            else some false
          else some false) = some true := by
        by_cases c0 : (l.length : Int) = 0
        · rw [if_pos c0]
        by_cases c1 : (c.toNat : Int) = 0
        · rw [if_neg c0, if_pos c1]
        rw [if_neg c0, if_neg c1]
        have hc0 : c ≠ 0 := fun h => c1 (by rw [h]; rfl)
        have e6 : ((6 + 15 * l.length : Nat) : Int) - 6 = ((15 * l.length - 1 : Nat) : Int) + 1 := by omega
        obtain ⟨t, ht, _, ht2⟩ := rem_two b (15 * l.length - 1) (by omega)
        have wl2 : IntKind.wrap .i64 (((15 * l.length - 1 : Nat) : Int) + 1) = ((15 * l.length - 1 : Nat) : Int) + 1 := w64i (by omega)
        have r2 : ∀ z : Int, remI z (IntKind.wrap .i64 (((15 * l.length - 1 : Nat) : Int) + 1)) = some (z.tmod (IntKind.wrap .i64 (((15 * l.length - 1 : Nat) : Int) + 1))) := fun z => remI_ok z _ (by rw [wl2]; omega)
        have w6 : IntKind.wrap .i64 (6 + (t : Int)) = ((6 + t : Nat) : Int) := by rw [w64i (by omega)]; omega
        rw [e6]
        simp only [ht2, r2, Option.bind_some, w6, tdiv_nat]
        rw [List.nil_append, fewI_ok _ (by rw [hlen]; omega), Option.bind_some]
        obtain ⟨e0, r0, he0, hg, _⟩ := set_seg x l t (by omega) 0
        obtain ⟨d, hd, _⟩ := drop_step (show t % 15 < (recB e0).length by rw [recB_len]; omega)
        obtain ⟨e, r, he, _, hset⟩ := set_seg x l t (by omega) (d ^^^ c)
        rw [he0] at he
        obtain rfl := Option.some.inj he
        rw [idx_nat, hg, hd, Option.bind_some, Option.bind_some]
        have hsI : setI (headB x ++ recsB l) ((6 + t : Nat) : Int) (d ^^^ c) = (headB x ++ recsB l).set (6 + t) (d ^^^ c) := by unfold setI; rw [Int.toNat_natCast]
        have hlt : (l.take (t / 15)).all rightB = true := by
          rw [List.all_eq_true] at ha ⊢
          exact fun y hy => ha y (List.mem_of_mem_take hy)
        have hscan : scanR ((headB x ++ recsB l).set (6 + t) (d ^^^ c)) = (⟨x, l.take (t / 15), ((6 + 15 * (l.take (t / 15)).length : Nat) : Int)⟩, 0) := by
          rw [hset]
          refine scan_of x hx _ hlt _ (.inr ?_)
          rw [List.take_append_of_le_length (by rw [List.length_set, recB_len]; omega), List.take_of_length_le (by rw [List.length_set, recB_len]; omega)]
          exact takeE_set e0 (t % 15) d (d ^^^ c) hd (xor_back d c hc0)
        have htl : (l.take (t / 15)).length = t / 15 := by rw [List.length_take]; omega
        have wt : IntKind.wrap .i64 ((t / 15 : Nat) : Int) = ((t / 15 : Nat) : Int) := w64i (by omega)
        rw [hsI, p_oneScan _ (by rw [List.length_set, hlen]; omega), Option.bind_some, hscan]
        dsimp only
        rw [if_pos rfl, wt, takeI_nat l (t / 15) (by omega), Option.bind_some, p_Entries07 _ (by omega), Option.bind_some, cond_true, htl, w64i (n := ((t / 15 : Nat) : Int) * 15) (by omega), w64i (by omega), if_pos (by omega)]
      by_cases c6 : (k2 : Int) < 6
      · rw [if_pos c6, scan_short _ (by rw [List.length_take]; omega)]
        simp only [p_wakes07, Option.bind_some, List.length_nil, Int.natCast_zero, not_true, if_false]
        exact tail
      · rw [if_neg c6]
        obtain ⟨r, hr, hr15⟩ := cut_seg x l k2 (by omega) hk2
        have hlt : (l.take ((k2 - 6) / 15)).all rightB = true := by
          rw [List.all_eq_true] at ha ⊢
          exact fun y hy => ha y (List.mem_of_mem_take hy)
        have htl : (l.take ((k2 - 6) / 15)).length = (k2 - 6) / 15 := by rw [List.length_take]; omega
        have wk : IntKind.wrap .i64 ((k2 : Int) - 6) = ((k2 - 6 : Nat) : Int) := by rw [w64i (by omega)]; omega
        have wt : IntKind.wrap .i64 (((k2 - 6) / 15 : Nat) : Int) = (((k2 - 6) / 15 : Nat) : Int) := w64i (by omega)
        have wu : IntKind.wrap .i64 (6 + IntKind.wrap .i64 (15 * (((k2 - 6) / 15 : Nat) : Int))) = ((6 + 15 * ((k2 - 6) / 15) : Nat) : Int) := by rw [w64i (n := 15 * (((k2 - 6) / 15 : Nat) : Int)) (by omega), w64i (by omega)]; omega
        rw [hr, scan_of x hx _ hlt r (.inl hr15)]
        simp only [wk, tdiv_nat, wt, wu, htl, takeI_nat l _ (show (k2 - 6) / 15 ≤ l.length by omega), p_Entries07 (l.take ((k2 - 6) / 15)) (by omega), p_wakes07, Option.bind_some, not_true, if_false, Bool.not_true, cond_false]
        exact tail
theorem p_OneBack (x : Int) (l : List En) (a b : Int) (c : UInt8) : m_law07_OneBack x l a b c = some true := by
  unfold m_law07_OneBack
  by_cases h1 : (40 : Int) < (l.length : Int)
  · rw [decide_eq_true h1, cond_true, p_wakes07]; rfl
  rw [decide_eq_false h1, cond_false]
  by_cases h2 : 1 ≤ x
  · rw [decide_eq_true h2, cond_true]
    exact back_l1 x l a b c (by omega) l.length 0 fuelN _ (by omega) (by unfold fuelN; omega) (by simp [h2])
  · rw [decide_eq_false h2, cond_false, back_l2]
    exact back_l1 x l a b c (by omega) l.length 0 fuelN _ (by omega) (by unfold fuelN; omega) (by simp [h2])
end Go.Proofs.YtofheinbbefbcaaDoor
