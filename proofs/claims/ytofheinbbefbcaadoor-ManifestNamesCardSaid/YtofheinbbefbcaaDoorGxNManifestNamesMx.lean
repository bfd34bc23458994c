/- What functions compute, in plain terms, and that they do; printed. -/
import Derived.Test.YtofheinbbefbcaaDoorMx1
import Derived.Test.YtofheinbbefbcaaDoorMx2
import Derived.Test.YtofheinbbefbcaaDoorMx3
namespace Go.Proofs.YtofheinbbefbcaaDoor
open Go Go.RowKit
set_option maxRecDepth 100000
set_option maxHeartbeats 4000000
theorem c_law11_ManifestNames (x0 : Mf) (A0_ : Option Addr) (c0_ : Nat) (w0 : World) (s0_ : SlI w0 enSg A0_ c0_ x0.segs) (hT_ : SlI w0 enU (some ⟨0, 0, none⟩) 16 tabU) {r : Bool} (H : m_law11_ManifestNames x0 = some r) : Calls Tryd.prog 10 #[.agg #[.int .i64 x0.next, .int .i64 x0.term, .int .i64 x0.vote, .int .i64 x0.snap.seq, .int .i64 x0.snap.fmt, .slice A0_ x0.segs.length c0_]] w0 fun e w' => e = .returned (.bool r) ∧ St0 All w0 w' [] := by
  unfold m_law11_ManifestNames at H
  refine gw_enter1 Tryd.func10 rfl Tryd.ntmps10 rfl ?_
  have hS := St0.start All w0
  refine wpC_seq_k (fun K hK1 => ?_)
  refine wpC_region ?_
  refine wpS_box rfl rfl rfl CellsOf.agg hS (fun b2 w hS hB => ?_)
  refine wpS_quick 1 rfl ?_
  refine wpS_nil ?_
  refine QH_seq_k hK1 ?_
  refine wpC_seq_k (fun K hK4 => ?_)
  refine wpC_seq_k (fun K hK5 => ?_)
  refine wpC_region ?_
  refine wpS_put rfl rfl rfl (yv_load_boxA ag_50 rfl (RW.here _) hS hs0 trivial sg0_6) ?_
  obtain ⟨r6, hm7, H⟩ := bind_some H
  refine wpS_call rfl rfl rfl rfl (by kernel_rfl) rfl (c_law11_great x0 A0_ c0_ _ (SlI.of_rd s0_.k (hS.rd0 s0_.rd) (hS.blk0 s0_.blk)) hm7) ?_
  rintro e w ⟨rfl, hN⟩; refine ⟨_, rfl, ?_⟩; have hB := hN.pure; have hS := hS.join hN; clear hN
  refine wpS_quick 1 rfl ?_
  refine wpS_case 12 rfl (fun hb => ?_) (fun hb => ?_)
  · replace H := cond_t H hb
    refine wpS_quick 4 rfl ?_
    refine wpS_nil ?_
    refine QH_seq_k hK5 ?_
    refine wpC_cond_t rfl rfl ?_
    refine wpC_seq_k (fun K hK9 => ?_)
    refine wpC_region ?_
    obtain ⟨r10, hm11, H⟩ := bind_some H
    refine wpS_call rfl rfl rfl rfl (by kernel_rfl) rfl (c_law11_wakes _ (SlI.of_rd hT_.k (hS.rd0 hT_.rd) (hS.blk0 hT_.blk)) hm11) ?_
    rintro e w ⟨rfl, hN⟩; refine ⟨_, rfl, ?_⟩; have hB := hN.pure; have hS := hS.join hN; clear hN
    refine wpS_quick 1 rfl ?_
    refine wpS_nil ?_
    refine QH_seq_k hK9 ?_
    refine wpC_ret ?_
    refine QH_then_ret ?_
    refine QH_ret rfl (RV.tmp rfl RV.nil) rfl ?_
    obtain rfl := Option.some.inj H
    replace hS := hS.cut 0
    exact ⟨rfl, hS⟩
  replace H := cond_f H hb
  refine wpS_put rfl rfl rfl (yv_load_boxA ag_50 rfl (RW.here _) hS hs0 trivial sg0_6) ?_
  obtain ⟨r13, hm14, H⟩ := bind_some H
  refine wpS_call rfl rfl rfl rfl (by kernel_rfl) rfl (c_ref11_Check x0 A0_ c0_ _ (SlI.of_rd s0_.k (hS.rd0 s0_.rd) (hS.blk0 s0_.blk)) hm14) ?_
  rintro e w ⟨rfl, hN⟩; refine ⟨_, rfl, ?_⟩; have hB := hN.pure; have hS := hS.join hN; clear hN
  refine wpS_put rfl rfl rfl (yv_neq rfl rfl) ?_
  refine wpS_quick 1 rfl ?_
  refine wpS_nil ?_
  refine QH_seq_k hK5 ?_
  refine wpC_cond rfl (fun hb => ?_) (fun hb => ?_)
  · replace H := cond_t H hb
    refine wpC_seq_k (fun K hK16 => ?_)
    refine wpC_region ?_
    obtain ⟨r17, hm18, H⟩ := bind_some H
    refine wpS_call rfl rfl rfl rfl (by kernel_rfl) rfl (c_law11_wakes _ (SlI.of_rd hT_.k (hS.rd0 hT_.rd) (hS.blk0 hT_.blk)) hm18) ?_
    rintro e w ⟨rfl, hN⟩; refine ⟨_, rfl, ?_⟩; have hB := hN.pure; have hS := hS.join hN; clear hN
    refine wpS_quick 1 rfl ?_
    refine wpS_nil ?_
    refine QH_seq_k hK16 ?_
    refine wpC_ret ?_
    refine QH_then_ret ?_
    refine QH_ret rfl (RV.tmp rfl RV.nil) rfl ?_
    obtain rfl := Option.some.inj H
    replace hS := hS.cut 0
    exact ⟨rfl, hS⟩
  replace H := cond_f H hb
  refine wpC_skip ?_
  refine QH_seq_k hK4 ?_
  refine wpC_seq_k (fun K hK20 => ?_)
  refine wpC_region ?_
  refine wpS_put rfl rfl rfl (yv_load_boxA ag_50 rfl (RW.here _) hS hs0 trivial sg0_6) ?_
  obtain ⟨r21, hm22, H⟩ := bind_some H
  refine wpS_call rfl rfl rfl rfl (by kernel_rfl) rfl (c_manifest_Keep x0 A0_ c0_ _ (SlI.of_rd s0_.k (hS.rd0 s0_.rd) (hS.blk0 s0_.blk)) hm22) ?_
  rintro e w ⟨A23, c24, rfl, k25, hN⟩; refine ⟨_, rfl, ?_⟩; have hB := hN.pure; have hS := hS.join hN; clear hN
  refine wpS_quick 1 rfl ?_
  refine wpS_nil ?_
  refine QH_seq_k hK20 ?_
  refine wpC_seq_k (fun K hK27 => ?_)
  refine wpC_region ?_
  refine wpS_put rfl rfl rfl (yv_fieldAddr fo_50_4 rfl) ?_
  refine wpS_put rfl rfl rfl (yv_load_box sc_48 rfl (RW.here _) hS hs1 trivial sg5_1) ?_
  refine wpS_put rfl rfl rfl (yv_len el_48 rfl) ?_
  refine wpS_put rfl rfl rfl (yx_add rfl rfl) ?_
  refine wpS_quick 1 rfl ?_
  refine wpS_nil ?_
  refine QH_seq_k hK27 ?_
  refine wpC_seq_k (fun K hK28 => ?_)
  refine wpC_seq_k (fun K hK29 => ?_)
  refine wpC_region ?_
  refine wpS_put rfl rfl rfl (yv_fieldAddr fo_50_3 rfl) ?_
  refine wpS_put rfl rfl rfl (yv_fieldAddr fo_47_0 rfl) ?_
  refine wpS_put rfl rfl rfl (yv_load_box sc_3 rfl (RW.here _) hS hs1 trivial sg3_1) ?_
  refine wpS_put rfl rfl rfl (yv_neq rfl rfl) ?_
  refine wpS_nil ?_
  refine QH_seq_k hK29 ?_
  refine wpC_cond rfl (fun hb => ?_) (fun hb => ?_)
  rotate_left
  · replace H := cond_f H hb
    refine wpC_skip ?_
    refine QH_seq_k hK28 ?_
    refine wpC_seq_k (fun K hK108 => ?_)
    refine wpC_seq_k (fun K hK109 => ?_)
    refine wpC_region ?_
    refine wpS_quick 1 rfl ?_
    refine wpS_put rfl rfl rfl (yv_len el_58 rfl) ?_
    refine wpS_quick 1 rfl ?_
    refine wpS_put rfl rfl rfl (yv_neq rfl rfl) ?_
    refine wpS_quick 1 rfl ?_
    refine wpS_case 34 rfl (fun hb => ?_) (fun hb => ?_)
    · replace H := cond_t H hb
      refine wpS_quick 11 rfl ?_
      refine wpS_nil ?_
      refine QH_seq_k hK109 ?_
      refine wpC_cond_t rfl rfl ?_
      refine wpC_seq_k (fun K hK111 => ?_)
      refine wpC_region ?_
      refine wpS_quick 1 rfl ?_
      refine wpS_nil ?_
      refine QH_seq_k hK111 ?_
      refine wpC_ret ?_
      refine QH_then_ret ?_
      refine QH_ret rfl (RV.tmp rfl RV.nil) rfl ?_
      obtain rfl := Option.some.inj H
      replace hS := hS.cut 0
      exact ⟨rfl, hS⟩
    replace H := cond_f H hb
    refine wpS_quick 1 rfl ?_
    obtain ⟨r113, hm114, H⟩ := bind_some H
    refine wpS_call rfl rfl rfl rfl (by kernel_rfl) rfl (c_ref11_Names r21 A23 c24 _ (SlI.of_rd k25 (hS.row_rd hs0) (hS.row_blk hs0)) hm114) ?_
    rintro e w ⟨rfl, hN⟩; refine ⟨_, rfl, ?_⟩; have hB := hN.pure; have hS := hS.join hN; clear hN
    refine wpS_put rfl rfl rfl (yv_not rfl) ?_
    refine wpS_quick 2 rfl ?_
    refine wpS_case 39 rfl (fun hb => ?_) (fun hb => ?_)
    · replace H := cond_t H hb
      refine wpS_quick 6 rfl ?_
      refine wpS_nil ?_
      refine QH_seq_k hK109 ?_
      refine wpC_cond_t rfl rfl ?_
      refine wpC_seq_k (fun K hK116 => ?_)
      refine wpC_region ?_
      refine wpS_quick 1 rfl ?_
      refine wpS_nil ?_
      refine QH_seq_k hK116 ?_
      refine wpC_ret ?_
      refine QH_then_ret ?_
      refine QH_ret rfl (RV.tmp rfl RV.nil) rfl ?_
      obtain rfl := Option.some.inj H
      replace hS := hS.cut 0
      exact ⟨rfl, hS⟩
    replace H := cond_f H hb
    refine wpS_quick 1 rfl ?_
    obtain ⟨e118, hi120, H⟩ := bind_some H
    obtain ⟨j119, hi120a, hi120b, hi120c⟩ := idx_some hi120
    refine wpS_put rfl rfl rfl (yx_idx el_58 rfl rfl hi120a hi120c (Rd.el (hS.row_rd hs0) he_enId hi120b)) ?_
    refine wpS_put rfl rfl rfl (yx_ldA0 ag_62 rfl (RW.here _) (Rd.el (hS.row_rd hs0) he_enId hi120b) sg0_3) ?_
    refine wpS_put rfl rfl rfl (yv_build (cells := [.int .u8 1, .int .i64 0, .int .i64 0]) rfl (by kernel_rfl)) ?_
    refine wpS_put rfl rfl rfl (yv_neqS (by kernel_rfl) rfl rfl (eqT_62 _ _ _ _ _ _)) ?_
    refine wpS_quick 1 rfl ?_
    refine wpS_nil ?_
    refine QH_seq_k hK109 ?_
    refine wpC_cond rfl (fun hb => ?_) (fun hb => ?_)
    · replace H := cond_t H hb
      refine wpC_seq_k (fun K hK122 => ?_)
      refine wpC_region ?_
      refine wpS_quick 1 rfl ?_
      refine wpS_nil ?_
      refine QH_seq_k hK122 ?_
      refine wpC_ret ?_
      refine QH_then_ret ?_
      refine QH_ret rfl (RV.tmp rfl RV.nil) rfl ?_
      obtain rfl := Option.some.inj H
      replace hS := hS.cut 0
      exact ⟨rfl, hS⟩
    replace H := cond_f H hb
    refine wpC_skip ?_
    refine QH_seq_k hK108 ?_
    refine wpC_seq_k (fun K hK124 => ?_)
    refine wpC_region ?_
    refine wpS_put rfl rfl rfl (yv_load_boxA ag_50 rfl (RW.here _) hS hs1 trivial sg0_6) ?_
    obtain ⟨r125, hm126, H⟩ := bind_some H
    refine wpS_call rfl rfl rfl rfl (by kernel_rfl) rfl (c_manifest_Open x0 A0_ c0_ _ (SlI.of_rd s0_.k (hS.rd0 s0_.rd) (hS.blk0 s0_.blk)) hm126) ?_
    rintro e w ⟨rfl, hN⟩; refine ⟨_, rfl, ?_⟩; have hB := hN.pure; have hS := hS.join hN; clear hN
    refine wpS_quick 1 rfl ?_
    refine wpS_put rfl rfl rfl (yv_extract rfl rfl) ?_
    refine wpS_put rfl rfl rfl (yv_extract rfl rfl) ?_
    refine wpS_quick 2 rfl ?_
    refine wpS_nil ?_
    refine QH_seq_k hK124 ?_
    refine wpC_seq_k (fun K hK127 => ?_)
    refine wpC_seq_k (fun K hK128 => ?_)
    refine wpC_region ?_
    refine wpS_quick 1 rfl ?_
    refine wpS_nil ?_
    refine QH_seq_k hK128 ?_
    refine wpC_block ?_
    refine wpC_loop (X := Nat × Bool × Int) (fun x => (1, .pointer (some ⟨b2, 0, none⟩)) :: (2, .bool x.2.1) :: (3, .slice A23 r21.length c24) :: (5, .int .i64 r125.1) :: (6, .bool r125.2) :: (7, .int .i64 x.2.2) :: []) (fun x w => St0 All w0 w (.row (.slice A23 r21.length c24) 62 3 r21.length (encs enId r21) :: .box b2 [.int .i64 x0.next, .int .i64 x0.term, .int .i64 x0.vote, .int .i64 x0.snap.seq, .int .i64 x0.snap.fmt, .slice A0_ x0.segs.length c0_] 50 :: []) ∧ m_law11_ManifestNames_l3 x0 r21 r125 x.1 x.2.1 x.2.2 = some r) (fun x => x.1) (fuelN, false, 0) (by repeat (first | exact Sub.nil | refine Sub.cons rfl ?_)) ⟨hS, H⟩ ?_
    rintro ⟨n, v129, v130⟩ w ⟨hS, H⟩
    dsimp only at hS H ⊢
    obtain _ | n := n
    · have H0 : none = some r := H
      cases H0
    rw [m_law11_ManifestNames_l3] at H
    refine wpC_seq_k (fun K hK131 => ?_)
    refine wpC_seq_k (fun K hK132 => ?_)
    refine wpC_region ?_
    refine wpS_quick 1 rfl ?_
    refine wpS_put rfl rfl rfl (yv_fieldAddr fo_50_4 rfl) ?_
    refine wpS_put rfl rfl rfl (yv_load_box sc_48 rfl (RW.here _) hS hs1 trivial sg5_1) ?_
    refine wpS_put rfl rfl rfl (yv_len el_48 rfl) ?_
    refine wpS_put rfl rfl rfl (yv_lss rfl rfl) ?_
    refine wpS_nil ?_
    refine QH_seq_k hK132 ?_
    refine wpC_cond rfl (fun hb => ?_) (fun hb => ?_)
    · replace H := cond_t H hb
      refine wpC_skip ?_
      refine QH_seq_k hK131 ?_
      refine wpC_seq_k (fun K hK134 => ?_)
      refine wpC_block ?_
      refine wpC_seq_k (fun K hK135 => ?_)
      refine wpC_region ?_
      refine wpS_put rfl rfl rfl (yv_fieldAddr fo_50_4 rfl) ?_
      refine wpS_put rfl rfl rfl (yv_load_box sc_48 rfl (RW.here _) hS hs1 trivial sg5_1) ?_
      refine wpS_quick 1 rfl ?_
      obtain ⟨e136, hi138, H⟩ := bind_some H
      obtain ⟨j137, hi138a, hi138b, hi138c⟩ := idx_some hi138
      refine wpS_put rfl rfl rfl (yx_idx el_48 rfl rfl hi138a hi138c (Rd.el (hS.rd0 s0_.rd) he_enSg hi138b)) ?_
      refine wpS_put rfl rfl rfl (yx_fieldAddr fo_66_3 rfl (Rd.el (hS.rd0 s0_.rd) he_enSg hi138b)) ?_
      refine wpS_put rfl rfl rfl (yx_ld sc_3 rfl (RW.here _) (Rd.el (hS.rd0 s0_.rd) he_enSg hi138b) rfl) ?_
      refine wpS_put rfl rfl rfl (yv_eql rfl rfl) ?_
      refine wpS_quick 2 rfl ?_
      refine wpS_case 66 rfl (fun hb => ?_) (fun hb => ?_)
      rotate_left
      · replace H := cond_f H hb
        refine wpS_quick 4 rfl ?_
        refine wpS_put rfl rfl rfl (yv_neqB (by kernel_rfl) rfl rfl) ?_
        refine wpS_nil ?_
        refine QH_seq_k hK135 ?_
        refine wpC_cond rfl (fun hb => ?_) (fun hb => ?_)
        rotate_left
        · replace H := cond_f H hb
          refine wpC_skip ?_
          refine QH_block_normal ?_
          refine QH_seq_k hK134 ?_
          refine wpC_region ?_
          refine wpS_quick 1 rfl ?_
          refine wpS_put rfl rfl rfl (yx_add rfl rfl) ?_
          refine wpS_quick 1 rfl ?_
          refine wpS_nil ?_
          exact QH_again (n, v129, (IntKind.wrap .i64 (v130 + 1))) (by repeat (first | exact Sub.nil | refine Sub.cons rfl ?_)) ⟨hS, H⟩ (Nat.lt_succ_self _)
        replace H := cond_t H hb
        refine wpC_seq_k (fun K hK145 => ?_)
        refine wpC_region ?_
        refine wpS_quick 1 rfl ?_
        refine wpS_nil ?_
        refine QH_seq_k hK145 ?_
        refine wpC_ret ?_
        refine QH_block_ret ?_
        refine QH_then_ret ?_
        refine QH_then_ret ?_
        refine QH_block_ret ?_
        refine QH_then_ret ?_
        refine QH_ret rfl (RV.tmp rfl RV.nil) rfl ?_
        obtain rfl := Option.some.inj H
        replace hS := hS.cut 0
        exact ⟨rfl, hS⟩
      replace H := cond_t H hb
      refine wpS_quick 2 rfl ?_
      refine wpS_put rfl rfl rfl (yv_eql rfl rfl) ?_
      refine wpS_quick 1 rfl ?_
      refine wpS_put rfl rfl rfl (yv_neqB (by kernel_rfl) rfl rfl) ?_
      refine wpS_nil ?_
      refine QH_seq_k hK135 ?_
      refine wpC_cond rfl (fun hb => ?_) (fun hb => ?_)
      rotate_left
      · replace H := cond_f H hb
        refine wpC_skip ?_
        refine QH_block_normal ?_
        refine QH_seq_k hK134 ?_
        refine wpC_region ?_
        refine wpS_quick 1 rfl ?_
        refine wpS_put rfl rfl rfl (yx_add rfl rfl) ?_
        refine wpS_quick 1 rfl ?_
        refine wpS_nil ?_
        exact QH_again (n, v129, (IntKind.wrap .i64 (v130 + 1))) (by repeat (first | exact Sub.nil | refine Sub.cons rfl ?_)) ⟨hS, H⟩ (Nat.lt_succ_self _)
      replace H := cond_t H hb
      refine wpC_seq_k (fun K hK141 => ?_)
      refine wpC_region ?_
      refine wpS_quick 1 rfl ?_
      refine wpS_nil ?_
      refine QH_seq_k hK141 ?_
      refine wpC_ret ?_
      refine QH_block_ret ?_
      refine QH_then_ret ?_
      refine QH_then_ret ?_
      refine QH_block_ret ?_
      refine QH_then_ret ?_
      refine QH_ret rfl (RV.tmp rfl RV.nil) rfl ?_
      obtain rfl := Option.some.inj H
      replace hS := hS.cut 0
      exact ⟨rfl, hS⟩
    replace H := cond_f H hb
    refine wpC_exit ?_
    refine QH_then_exit ?_
    refine QH_then_exit ?_
    refine QH_block_hit ?_
    refine QH_seq_k hK127 ?_
    refine wpC_seq_k (fun K hK148 => ?_)
    refine wpC_region ?_
    refine wpS_quick 1 rfl ?_
    refine wpS_nil ?_
    refine QH_seq_k hK148 ?_
    refine wpC_seq_k (fun K hK149 => ?_)
    refine wpC_seq_k (fun K hK150 => ?_)
    refine wpC_region ?_
    refine wpS_quick 1 rfl ?_
    refine wpS_nil ?_
    refine QH_seq_k hK150 ?_
    refine wpC_block ?_
    refine wpC_loop (X := Nat × Bool × Int) (fun x => (1, .pointer (some ⟨b2, 0, none⟩)) :: (2, .bool v129) :: (3, .slice A23 r21.length c24) :: (5, .int .i64 r125.1) :: (6, .bool r125.2) :: (8, .bool x.2.1) :: (9, .int .i64 x.2.2) :: []) (fun x w => St0 All w0 w (.row (.slice A23 r21.length c24) 62 3 r21.length (encs enId r21) :: .box b2 [.int .i64 x0.next, .int .i64 x0.term, .int .i64 x0.vote, .int .i64 x0.snap.seq, .int .i64 x0.snap.fmt, .slice A0_ x0.segs.length c0_] 50 :: []) ∧ m_law11_ManifestNames_l4 x0 r21 r125 x.1 x.2.1 x.2.2 = some r) (fun x => x.1) (fuelN, false, 1) (by repeat (first | exact Sub.nil | refine Sub.cons rfl ?_)) ⟨hS, H⟩ ?_
    rintro ⟨n, v151, v152⟩ w ⟨hS, H⟩
    dsimp only at hS H ⊢
    obtain _ | n := n
    · have H0 : none = some r := H
      cases H0
    rw [m_law11_ManifestNames_l4] at H
    refine wpC_seq_k (fun K hK153 => ?_)
    refine wpC_seq_k (fun K hK154 => ?_)
    refine wpC_region ?_
    refine wpS_quick 2 rfl ?_
    refine wpS_put rfl rfl rfl (yv_len el_58 rfl) ?_
    refine wpS_put rfl rfl rfl (yv_lss rfl rfl) ?_
    refine wpS_nil ?_
    refine QH_seq_k hK154 ?_
    refine wpC_cond rfl (fun hb => ?_) (fun hb => ?_)
    · replace H := cond_t H hb
      refine wpC_skip ?_
      refine QH_seq_k hK153 ?_
      refine wpC_seq_k (fun K hK156 => ?_)
      refine wpC_block ?_
      refine wpC_region ?_
      refine wpS_quick 2 rfl ?_
      refine wpS_case 79 rfl (fun hb => ?_) (fun hb => ?_)
      · replace H := cond_t H hb
        refine wpS_quick 8 rfl ?_
        refine wpS_nil ?_
        refine QH_block_normal ?_
        refine QH_seq_k hK156 ?_
        refine wpC_region ?_
        refine wpS_quick 1 rfl ?_
        refine wpS_put rfl rfl rfl (yx_add rfl rfl) ?_
        refine wpS_quick 1 rfl ?_
        refine wpS_nil ?_
        exact QH_again (n, true, (IntKind.wrap .i64 (v152 + 1))) (by repeat (first | exact Sub.nil | refine Sub.cons rfl ?_)) ⟨hS, H⟩ (Nat.lt_succ_self _)
      replace H := cond_f H hb
      refine wpS_quick 2 rfl ?_
      obtain ⟨e159, hi161, H⟩ := bind_some H
      obtain ⟨j160, hi161a, hi161b, hi161c⟩ := idx_some hi161
      refine wpS_put rfl rfl rfl (yx_idx el_58 rfl rfl hi161a hi161c (Rd.el (hS.row_rd hs0) he_enId hi161b)) ?_
      refine wpS_put rfl rfl rfl (yx_fieldAddr fo_62_2 rfl (Rd.el (hS.row_rd hs0) he_enId hi161b)) ?_
      refine wpS_put rfl rfl rfl (yx_ld sc_3 rfl (RW.here _) (Rd.el (hS.row_rd hs0) he_enId hi161b) rfl) ?_
      refine wpS_put rfl rfl rfl (yv_eql rfl rfl) ?_
      refine wpS_quick 2 rfl ?_
      refine wpS_nil ?_
      refine QH_block_normal ?_
      refine QH_seq_k hK156 ?_
      refine wpC_region ?_
      refine wpS_quick 1 rfl ?_
      refine wpS_put rfl rfl rfl (yx_add rfl rfl) ?_
      refine wpS_quick 1 rfl ?_
      refine wpS_nil ?_
      exact QH_again (n, (decide (e159.fmt = 2)), (IntKind.wrap .i64 (v152 + 1))) (by repeat (first | exact Sub.nil | refine Sub.cons rfl ?_)) ⟨hS, H⟩ (Nat.lt_succ_self _)
    replace H := cond_f H hb
    refine wpC_exit ?_
    refine QH_then_exit ?_
    refine QH_then_exit ?_
    refine QH_block_hit ?_
    refine QH_seq_k hK149 ?_
    refine wpC_seq_k (fun K hK163 => ?_)
    refine wpC_region ?_
    refine wpS_put rfl rfl rfl (yv_load_boxA ag_50 rfl (RW.here _) hS hs1 trivial sg0_6) ?_
    obtain ⟨r164, hm165, H⟩ := bind_some H
    refine wpS_call rfl rfl rfl rfl (by kernel_rfl) rfl (c_manifest_Two x0 A0_ c0_ _ (SlI.of_rd s0_.k (hS.rd0 s0_.rd) (hS.blk0 s0_.blk)) hm165) ?_
    rintro e w ⟨rfl, hN⟩; refine ⟨_, rfl, ?_⟩; have hB := hN.pure; have hS := hS.join hN; clear hN
    refine wpS_quick 1 rfl ?_
    refine wpS_put rfl rfl rfl (yv_eqlB (by kernel_rfl) rfl rfl) ?_
    refine wpS_quick 1 rfl ?_
    refine wpS_case 91 rfl (fun hb => ?_) (fun hb => ?_)
    rotate_left
    · replace H := cond_f H hb
      refine wpS_quick 15 rfl ?_
      refine wpS_nil ?_
      refine QH_seq_k hK163 ?_
      refine wpC_ret ?_
      refine QH_ret rfl (RV.tmp rfl RV.nil) rfl ?_
      obtain rfl := Option.some.inj H
      replace hS := hS.cut 0
      exact ⟨rfl, hS⟩
    replace H := cond_t H hb
    refine wpS_quick 2 rfl ?_
    refine wpS_case 93 rfl (fun hb => ?_) (fun hb => ?_)
    · replace H := cond_t H hb
      refine wpS_quick 5 rfl ?_
      refine wpS_put rfl rfl rfl (yv_load_boxA ag_50 rfl (RW.here _) hS hs1 trivial sg0_6) ?_
      obtain ⟨r168, hm169, H⟩ := bind_some H
      refine wpS_call rfl rfl rfl rfl (by kernel_rfl) rfl (c_manifest_Check x0 A0_ c0_ _ (SlI.of_rd s0_.k (hS.rd0 s0_.rd) (hS.blk0 s0_.blk)) hm169) ?_
      rintro e w ⟨rfl, hN⟩; refine ⟨_, rfl, ?_⟩; have hB := hN.pure; have hS := hS.join hN; clear hN
      refine wpS_put rfl rfl rfl (yv_eql rfl rfl) ?_
      refine wpS_quick 2 rfl ?_
      refine wpS_case 103 rfl (fun hb => ?_) (fun hb => ?_)
      rotate_left
      · replace H := cond_f H hb
        refine wpS_quick 3 rfl ?_
        refine wpS_nil ?_
        refine QH_seq_k hK163 ?_
        refine wpC_ret ?_
        refine QH_ret rfl (RV.tmp rfl RV.nil) rfl ?_
        obtain rfl := Option.some.inj H
        replace hS := hS.cut 0
        exact ⟨rfl, hS⟩
      replace H := cond_t H hb
      obtain ⟨r171, hm172, H⟩ := bind_some H
      refine wpS_call rfl rfl rfl rfl (by kernel_rfl) rfl (c_law11_wakes _ (SlI.of_rd hT_.k (hS.rd0 hT_.rd) (hS.blk0 hT_.blk)) hm172) ?_
      rintro e w ⟨rfl, hN⟩; refine ⟨_, rfl, ?_⟩; have hB := hN.pure; have hS := hS.join hN; clear hN
      refine wpS_quick 2 rfl ?_
      refine wpS_nil ?_
      refine QH_seq_k hK163 ?_
      refine wpC_ret ?_
      refine QH_ret rfl (RV.tmp rfl RV.nil) rfl ?_
      obtain rfl := Option.some.inj H
      replace hS := hS.cut 0
      exact ⟨rfl, hS⟩
    replace H := cond_f H hb
    refine wpS_quick 1 rfl ?_
    refine wpS_put rfl rfl rfl (yv_eql rfl rfl) ?_
    refine wpS_quick 3 rfl ?_
    refine wpS_case 98 rfl (fun hb => ?_) (fun hb => ?_)
    rotate_left
    · replace H := cond_f H hb
      refine wpS_quick 8 rfl ?_
      refine wpS_nil ?_
      refine QH_seq_k hK163 ?_
      refine wpC_ret ?_
      refine QH_ret rfl (RV.tmp rfl RV.nil) rfl ?_
      obtain rfl := Option.some.inj H
      replace hS := hS.cut 0
      exact ⟨rfl, hS⟩
    replace H := cond_t H hb
    refine wpS_put rfl rfl rfl (yv_load_boxA ag_50 rfl (RW.here _) hS hs1 trivial sg0_6) ?_
    obtain ⟨r176, hm177, H⟩ := bind_some H
    refine wpS_call rfl rfl rfl rfl (by kernel_rfl) rfl (c_manifest_Check x0 A0_ c0_ _ (SlI.of_rd s0_.k (hS.rd0 s0_.rd) (hS.blk0 s0_.blk)) hm177) ?_
    rintro e w ⟨rfl, hN⟩; refine ⟨_, rfl, ?_⟩; have hB := hN.pure; have hS := hS.join hN; clear hN
    refine wpS_put rfl rfl rfl (yv_eql rfl rfl) ?_
    refine wpS_quick 2 rfl ?_
    refine wpS_case 103 rfl (fun hb => ?_) (fun hb => ?_)
    rotate_left
    · replace H := cond_f H hb
      refine wpS_quick 3 rfl ?_
      refine wpS_nil ?_
      refine QH_seq_k hK163 ?_
      refine wpC_ret ?_
      refine QH_ret rfl (RV.tmp rfl RV.nil) rfl ?_
      obtain rfl := Option.some.inj H
      replace hS := hS.cut 0
      exact ⟨rfl, hS⟩
    replace H := cond_t H hb
    obtain ⟨r179, hm180, H⟩ := bind_some H
    refine wpS_call rfl rfl rfl rfl (by kernel_rfl) rfl (c_law11_wakes _ (SlI.of_rd hT_.k (hS.rd0 hT_.rd) (hS.blk0 hT_.blk)) hm180) ?_
    rintro e w ⟨rfl, hN⟩; refine ⟨_, rfl, ?_⟩; have hB := hN.pure; have hS := hS.join hN; clear hN
    refine wpS_quick 2 rfl ?_
    refine wpS_nil ?_
    refine QH_seq_k hK163 ?_
    refine wpC_ret ?_
    refine QH_ret rfl (RV.tmp rfl RV.nil) rfl ?_
    obtain rfl := Option.some.inj H
    replace hS := hS.cut 0
    exact ⟨rfl, hS⟩
  replace H := cond_t H hb
  refine wpC_region ?_
  refine wpS_quick 1 rfl ?_
  refine wpS_put rfl rfl rfl (yx_add rfl rfl) ?_
  refine wpS_quick 1 rfl ?_
  refine wpS_nil ?_
  refine QH_seq_k hK28 ?_
  refine wpC_seq_k (fun K hK31 => ?_)
  refine wpC_seq_k (fun K hK32 => ?_)
  refine wpC_region ?_
  refine wpS_quick 1 rfl ?_
  refine wpS_put rfl rfl rfl (yv_len el_58 rfl) ?_
  refine wpS_quick 1 rfl ?_
  refine wpS_put rfl rfl rfl (yv_neq rfl rfl) ?_
  refine wpS_quick 1 rfl ?_
  refine wpS_case 34 rfl (fun hb => ?_) (fun hb => ?_)
  · replace H := cond_t H hb
    refine wpS_quick 11 rfl ?_
    refine wpS_nil ?_
    refine QH_seq_k hK32 ?_
    refine wpC_cond_t rfl rfl ?_
    refine wpC_seq_k (fun K hK34 => ?_)
    refine wpC_region ?_
    refine wpS_quick 1 rfl ?_
    refine wpS_nil ?_
    refine QH_seq_k hK34 ?_
    refine wpC_ret ?_
    refine QH_then_ret ?_
    refine QH_ret rfl (RV.tmp rfl RV.nil) rfl ?_
    obtain rfl := Option.some.inj H
    replace hS := hS.cut 0
    exact ⟨rfl, hS⟩
  replace H := cond_f H hb
  refine wpS_quick 1 rfl ?_
  obtain ⟨r36, hm37, H⟩ := bind_some H
  refine wpS_call rfl rfl rfl rfl (by kernel_rfl) rfl (c_ref11_Names r21 A23 c24 _ (SlI.of_rd k25 (hS.row_rd hs0) (hS.row_blk hs0)) hm37) ?_
  rintro e w ⟨rfl, hN⟩; refine ⟨_, rfl, ?_⟩; have hB := hN.pure; have hS := hS.join hN; clear hN
  refine wpS_put rfl rfl rfl (yv_not rfl) ?_
  refine wpS_quick 2 rfl ?_
  refine wpS_case 39 rfl (fun hb => ?_) (fun hb => ?_)
  · replace H := cond_t H hb
    refine wpS_quick 6 rfl ?_
    refine wpS_nil ?_
    refine QH_seq_k hK32 ?_
    refine wpC_cond_t rfl rfl ?_
    refine wpC_seq_k (fun K hK39 => ?_)
    refine wpC_region ?_
    refine wpS_quick 1 rfl ?_
    refine wpS_nil ?_
    refine QH_seq_k hK39 ?_
    refine wpC_ret ?_
    refine QH_then_ret ?_
    refine QH_ret rfl (RV.tmp rfl RV.nil) rfl ?_
    obtain rfl := Option.some.inj H
    replace hS := hS.cut 0
    exact ⟨rfl, hS⟩
  replace H := cond_f H hb
  refine wpS_quick 1 rfl ?_
  obtain ⟨e41, hi43, H⟩ := bind_some H
  obtain ⟨j42, hi43a, hi43b, hi43c⟩ := idx_some hi43
  refine wpS_put rfl rfl rfl (yx_idx el_58 rfl rfl hi43a hi43c (Rd.el (hS.row_rd hs0) he_enId hi43b)) ?_
  refine wpS_put rfl rfl rfl (yx_ldA0 ag_62 rfl (RW.here _) (Rd.el (hS.row_rd hs0) he_enId hi43b) sg0_3) ?_
  refine wpS_put rfl rfl rfl (yv_build (cells := [.int .u8 1, .int .i64 0, .int .i64 0]) rfl (by kernel_rfl)) ?_
  refine wpS_put rfl rfl rfl (yv_neqS (by kernel_rfl) rfl rfl (eqT_62 _ _ _ _ _ _)) ?_
  refine wpS_quick 1 rfl ?_
  refine wpS_nil ?_
  refine QH_seq_k hK32 ?_
  refine wpC_cond rfl (fun hb => ?_) (fun hb => ?_)
  · replace H := cond_t H hb
    refine wpC_seq_k (fun K hK45 => ?_)
    refine wpC_region ?_
    refine wpS_quick 1 rfl ?_
    refine wpS_nil ?_
    refine QH_seq_k hK45 ?_
    refine wpC_ret ?_
    refine QH_then_ret ?_
    refine QH_ret rfl (RV.tmp rfl RV.nil) rfl ?_
    obtain rfl := Option.some.inj H
    replace hS := hS.cut 0
    exact ⟨rfl, hS⟩
  replace H := cond_f H hb
  refine wpC_skip ?_
  refine QH_seq_k hK31 ?_
  refine wpC_seq_k (fun K hK47 => ?_)
  refine wpC_region ?_
  refine wpS_put rfl rfl rfl (yv_load_boxA ag_50 rfl (RW.here _) hS hs1 trivial sg0_6) ?_
  obtain ⟨r48, hm49, H⟩ := bind_some H
  refine wpS_call rfl rfl rfl rfl (by kernel_rfl) rfl (c_manifest_Open x0 A0_ c0_ _ (SlI.of_rd s0_.k (hS.rd0 s0_.rd) (hS.blk0 s0_.blk)) hm49) ?_
  rintro e w ⟨rfl, hN⟩; refine ⟨_, rfl, ?_⟩; have hB := hN.pure; have hS := hS.join hN; clear hN
  refine wpS_quick 1 rfl ?_
  refine wpS_put rfl rfl rfl (yv_extract rfl rfl) ?_
  refine wpS_put rfl rfl rfl (yv_extract rfl rfl) ?_
  refine wpS_quick 2 rfl ?_
  refine wpS_nil ?_
  refine QH_seq_k hK47 ?_
  refine wpC_seq_k (fun K hK50 => ?_)
  refine wpC_seq_k (fun K hK51 => ?_)
  refine wpC_region ?_
  refine wpS_quick 1 rfl ?_
  refine wpS_nil ?_
  refine QH_seq_k hK51 ?_
  refine wpC_block ?_
  refine wpC_loop (X := Nat × Bool × Int) (fun x => (1, .pointer (some ⟨b2, 0, none⟩)) :: (2, .bool x.2.1) :: (3, .slice A23 r21.length c24) :: (5, .int .i64 r48.1) :: (6, .bool r48.2) :: (7, .int .i64 x.2.2) :: []) (fun x w => St0 All w0 w (.row (.slice A23 r21.length c24) 62 3 r21.length (encs enId r21) :: .box b2 [.int .i64 x0.next, .int .i64 x0.term, .int .i64 x0.vote, .int .i64 x0.snap.seq, .int .i64 x0.snap.fmt, .slice A0_ x0.segs.length c0_] 50 :: []) ∧ m_law11_ManifestNames_l1 x0 r21 r48 x.1 x.2.1 x.2.2 = some r) (fun x => x.1) (fuelN, false, 0) (by repeat (first | exact Sub.nil | refine Sub.cons rfl ?_)) ⟨hS, H⟩ ?_
  rintro ⟨n, v52, v53⟩ w ⟨hS, H⟩
  dsimp only at hS H ⊢
  obtain _ | n := n
  · have H0 : none = some r := H
    cases H0
  rw [m_law11_ManifestNames_l1] at H
  refine wpC_seq_k (fun K hK54 => ?_)
  refine wpC_seq_k (fun K hK55 => ?_)
  refine wpC_region ?_
  refine wpS_quick 1 rfl ?_
  refine wpS_put rfl rfl rfl (yv_fieldAddr fo_50_4 rfl) ?_
  refine wpS_put rfl rfl rfl (yv_load_box sc_48 rfl (RW.here _) hS hs1 trivial sg5_1) ?_
  refine wpS_put rfl rfl rfl (yv_len el_48 rfl) ?_
  refine wpS_put rfl rfl rfl (yv_lss rfl rfl) ?_
  refine wpS_nil ?_
  refine QH_seq_k hK55 ?_
  refine wpC_cond rfl (fun hb => ?_) (fun hb => ?_)
  · replace H := cond_t H hb
    refine wpC_skip ?_
    refine QH_seq_k hK54 ?_
    refine wpC_seq_k (fun K hK57 => ?_)
    refine wpC_block ?_
    refine wpC_seq_k (fun K hK58 => ?_)
    refine wpC_region ?_
    refine wpS_put rfl rfl rfl (yv_fieldAddr fo_50_4 rfl) ?_
    refine wpS_put rfl rfl rfl (yv_load_box sc_48 rfl (RW.here _) hS hs1 trivial sg5_1) ?_
    refine wpS_quick 1 rfl ?_
    obtain ⟨e59, hi61, H⟩ := bind_some H
    obtain ⟨j60, hi61a, hi61b, hi61c⟩ := idx_some hi61
    refine wpS_put rfl rfl rfl (yx_idx el_48 rfl rfl hi61a hi61c (Rd.el (hS.rd0 s0_.rd) he_enSg hi61b)) ?_
    refine wpS_put rfl rfl rfl (yx_fieldAddr fo_66_3 rfl (Rd.el (hS.rd0 s0_.rd) he_enSg hi61b)) ?_
    refine wpS_put rfl rfl rfl (yx_ld sc_3 rfl (RW.here _) (Rd.el (hS.rd0 s0_.rd) he_enSg hi61b) rfl) ?_
    refine wpS_put rfl rfl rfl (yv_eql rfl rfl) ?_
    refine wpS_quick 2 rfl ?_
    refine wpS_case 66 rfl (fun hb => ?_) (fun hb => ?_)
    rotate_left
    · replace H := cond_f H hb
      refine wpS_quick 4 rfl ?_
      refine wpS_put rfl rfl rfl (yv_neqB (by kernel_rfl) rfl rfl) ?_
      refine wpS_nil ?_
      refine QH_seq_k hK58 ?_
      refine wpC_cond rfl (fun hb => ?_) (fun hb => ?_)
      rotate_left
      · replace H := cond_f H hb
        refine wpC_skip ?_
        refine QH_block_normal ?_
        refine QH_seq_k hK57 ?_
        refine wpC_region ?_
        refine wpS_quick 1 rfl ?_
        refine wpS_put rfl rfl rfl (yx_add rfl rfl) ?_
        refine wpS_quick 1 rfl ?_
        refine wpS_nil ?_
        exact QH_again (n, v52, (IntKind.wrap .i64 (v53 + 1))) (by repeat (first | exact Sub.nil | refine Sub.cons rfl ?_)) ⟨hS, H⟩ (Nat.lt_succ_self _)
      replace H := cond_t H hb
      refine wpC_seq_k (fun K hK68 => ?_)
      refine wpC_region ?_
      refine wpS_quick 1 rfl ?_
      refine wpS_nil ?_
      refine QH_seq_k hK68 ?_
      refine wpC_ret ?_
      refine QH_block_ret ?_
      refine QH_then_ret ?_
      refine QH_then_ret ?_
      refine QH_block_ret ?_
      refine QH_then_ret ?_
      refine QH_ret rfl (RV.tmp rfl RV.nil) rfl ?_
      obtain rfl := Option.some.inj H
      replace hS := hS.cut 0
      exact ⟨rfl, hS⟩
    replace H := cond_t H hb
    refine wpS_quick 2 rfl ?_
    refine wpS_put rfl rfl rfl (yv_eql rfl rfl) ?_
    refine wpS_quick 1 rfl ?_
    refine wpS_put rfl rfl rfl (yv_neqB (by kernel_rfl) rfl rfl) ?_
    refine wpS_nil ?_
    refine QH_seq_k hK58 ?_
    refine wpC_cond rfl (fun hb => ?_) (fun hb => ?_)
    rotate_left
    · replace H := cond_f H hb
      refine wpC_skip ?_
      refine QH_block_normal ?_
      refine QH_seq_k hK57 ?_
      refine wpC_region ?_
      refine wpS_quick 1 rfl ?_
      refine wpS_put rfl rfl rfl (yx_add rfl rfl) ?_
      refine wpS_quick 1 rfl ?_
      refine wpS_nil ?_
      exact QH_again (n, v52, (IntKind.wrap .i64 (v53 + 1))) (by repeat (first | exact Sub.nil | refine Sub.cons rfl ?_)) ⟨hS, H⟩ (Nat.lt_succ_self _)
    replace H := cond_t H hb
    refine wpC_seq_k (fun K hK64 => ?_)
    refine wpC_region ?_
    refine wpS_quick 1 rfl ?_
    refine wpS_nil ?_
    refine QH_seq_k hK64 ?_
    refine wpC_ret ?_
    refine QH_block_ret ?_
    refine QH_then_ret ?_
    refine QH_then_ret ?_
    refine QH_block_ret ?_
    refine QH_then_ret ?_
    refine QH_ret rfl (RV.tmp rfl RV.nil) rfl ?_
    obtain rfl := Option.some.inj H
    replace hS := hS.cut 0
    exact ⟨rfl, hS⟩
  replace H := cond_f H hb
  refine wpC_exit ?_
  refine QH_then_exit ?_
  refine QH_then_exit ?_
  refine QH_block_hit ?_
  refine QH_seq_k hK50 ?_
  refine wpC_seq_k (fun K hK71 => ?_)
  refine wpC_region ?_
  refine wpS_quick 1 rfl ?_
  refine wpS_nil ?_
  refine QH_seq_k hK71 ?_
  refine wpC_seq_k (fun K hK72 => ?_)
  refine wpC_seq_k (fun K hK73 => ?_)
  refine wpC_region ?_
  refine wpS_quick 1 rfl ?_
  refine wpS_nil ?_
  refine QH_seq_k hK73 ?_
  refine wpC_block ?_
  refine wpC_loop (X := Nat × Bool × Int) (fun x => (1, .pointer (some ⟨b2, 0, none⟩)) :: (2, .bool v52) :: (3, .slice A23 r21.length c24) :: (5, .int .i64 r48.1) :: (6, .bool r48.2) :: (8, .bool x.2.1) :: (9, .int .i64 x.2.2) :: []) (fun x w => St0 All w0 w (.row (.slice A23 r21.length c24) 62 3 r21.length (encs enId r21) :: .box b2 [.int .i64 x0.next, .int .i64 x0.term, .int .i64 x0.vote, .int .i64 x0.snap.seq, .int .i64 x0.snap.fmt, .slice A0_ x0.segs.length c0_] 50 :: []) ∧ m_law11_ManifestNames_l2 x0 r21 r48 x.1 x.2.1 x.2.2 = some r) (fun x => x.1) (fuelN, false, 1) (by repeat (first | exact Sub.nil | refine Sub.cons rfl ?_)) ⟨hS, H⟩ ?_
  rintro ⟨n, v74, v75⟩ w ⟨hS, H⟩
  dsimp only at hS H ⊢
  obtain _ | n := n
  · have H0 : none = some r := H
    cases H0
  rw [m_law11_ManifestNames_l2] at H
  refine wpC_seq_k (fun K hK76 => ?_)
  refine wpC_seq_k (fun K hK77 => ?_)
  refine wpC_region ?_
  refine wpS_quick 2 rfl ?_
  refine wpS_put rfl rfl rfl (yv_len el_58 rfl) ?_
  refine wpS_put rfl rfl rfl (yv_lss rfl rfl) ?_
  refine wpS_nil ?_
  refine QH_seq_k hK77 ?_
  refine wpC_cond rfl (fun hb => ?_) (fun hb => ?_)
  · replace H := cond_t H hb
    refine wpC_skip ?_
    refine QH_seq_k hK76 ?_
    refine wpC_seq_k (fun K hK79 => ?_)
    refine wpC_block ?_
    refine wpC_region ?_
    refine wpS_quick 2 rfl ?_
    refine wpS_case 79 rfl (fun hb => ?_) (fun hb => ?_)
    · replace H := cond_t H hb
      refine wpS_quick 8 rfl ?_
      refine wpS_nil ?_
      refine QH_block_normal ?_
      refine QH_seq_k hK79 ?_
      refine wpC_region ?_
      refine wpS_quick 1 rfl ?_
      refine wpS_put rfl rfl rfl (yx_add rfl rfl) ?_
      refine wpS_quick 1 rfl ?_
      refine wpS_nil ?_
      exact QH_again (n, true, (IntKind.wrap .i64 (v75 + 1))) (by repeat (first | exact Sub.nil | refine Sub.cons rfl ?_)) ⟨hS, H⟩ (Nat.lt_succ_self _)
    replace H := cond_f H hb
    refine wpS_quick 2 rfl ?_
    obtain ⟨e82, hi84, H⟩ := bind_some H
    obtain ⟨j83, hi84a, hi84b, hi84c⟩ := idx_some hi84
    refine wpS_put rfl rfl rfl (yx_idx el_58 rfl rfl hi84a hi84c (Rd.el (hS.row_rd hs0) he_enId hi84b)) ?_
    refine wpS_put rfl rfl rfl (yx_fieldAddr fo_62_2 rfl (Rd.el (hS.row_rd hs0) he_enId hi84b)) ?_
    refine wpS_put rfl rfl rfl (yx_ld sc_3 rfl (RW.here _) (Rd.el (hS.row_rd hs0) he_enId hi84b) rfl) ?_
    refine wpS_put rfl rfl rfl (yv_eql rfl rfl) ?_
    refine wpS_quick 2 rfl ?_
    refine wpS_nil ?_
    refine QH_block_normal ?_
    refine QH_seq_k hK79 ?_
    refine wpC_region ?_
    refine wpS_quick 1 rfl ?_
    refine wpS_put rfl rfl rfl (yx_add rfl rfl) ?_
    refine wpS_quick 1 rfl ?_
    refine wpS_nil ?_
    exact QH_again (n, (decide (e82.fmt = 2)), (IntKind.wrap .i64 (v75 + 1))) (by repeat (first | exact Sub.nil | refine Sub.cons rfl ?_)) ⟨hS, H⟩ (Nat.lt_succ_self _)
  replace H := cond_f H hb
  refine wpC_exit ?_
  refine QH_then_exit ?_
  refine QH_then_exit ?_
  refine QH_block_hit ?_
  refine QH_seq_k hK72 ?_
  refine wpC_seq_k (fun K hK86 => ?_)
  refine wpC_region ?_
  refine wpS_put rfl rfl rfl (yv_load_boxA ag_50 rfl (RW.here _) hS hs1 trivial sg0_6) ?_
  obtain ⟨r87, hm88, H⟩ := bind_some H
  refine wpS_call rfl rfl rfl rfl (by kernel_rfl) rfl (c_manifest_Two x0 A0_ c0_ _ (SlI.of_rd s0_.k (hS.rd0 s0_.rd) (hS.blk0 s0_.blk)) hm88) ?_
  rintro e w ⟨rfl, hN⟩; refine ⟨_, rfl, ?_⟩; have hB := hN.pure; have hS := hS.join hN; clear hN
  refine wpS_quick 1 rfl ?_
  refine wpS_put rfl rfl rfl (yv_eqlB (by kernel_rfl) rfl rfl) ?_
  refine wpS_quick 1 rfl ?_
  refine wpS_case 91 rfl (fun hb => ?_) (fun hb => ?_)
  rotate_left
  · replace H := cond_f H hb
    refine wpS_quick 15 rfl ?_
    refine wpS_nil ?_
    refine QH_seq_k hK86 ?_
    refine wpC_ret ?_
    refine QH_ret rfl (RV.tmp rfl RV.nil) rfl ?_
    obtain rfl := Option.some.inj H
    replace hS := hS.cut 0
    exact ⟨rfl, hS⟩
  replace H := cond_t H hb
  refine wpS_quick 2 rfl ?_
  refine wpS_case 93 rfl (fun hb => ?_) (fun hb => ?_)
  · replace H := cond_t H hb
    refine wpS_quick 5 rfl ?_
    refine wpS_put rfl rfl rfl (yv_load_boxA ag_50 rfl (RW.here _) hS hs1 trivial sg0_6) ?_
    obtain ⟨r91, hm92, H⟩ := bind_some H
    refine wpS_call rfl rfl rfl rfl (by kernel_rfl) rfl (c_manifest_Check x0 A0_ c0_ _ (SlI.of_rd s0_.k (hS.rd0 s0_.rd) (hS.blk0 s0_.blk)) hm92) ?_
    rintro e w ⟨rfl, hN⟩; refine ⟨_, rfl, ?_⟩; have hB := hN.pure; have hS := hS.join hN; clear hN
    refine wpS_put rfl rfl rfl (yv_eql rfl rfl) ?_
    refine wpS_quick 2 rfl ?_
    refine wpS_case 103 rfl (fun hb => ?_) (fun hb => ?_)
    rotate_left
    · replace H := cond_f H hb
      refine wpS_quick 3 rfl ?_
      refine wpS_nil ?_
      refine QH_seq_k hK86 ?_
      refine wpC_ret ?_
      refine QH_ret rfl (RV.tmp rfl RV.nil) rfl ?_
      obtain rfl := Option.some.inj H
      replace hS := hS.cut 0
      exact ⟨rfl, hS⟩
    replace H := cond_t H hb
    obtain ⟨r94, hm95, H⟩ := bind_some H
    refine wpS_call rfl rfl rfl rfl (by kernel_rfl) rfl (c_law11_wakes _ (SlI.of_rd hT_.k (hS.rd0 hT_.rd) (hS.blk0 hT_.blk)) hm95) ?_
    rintro e w ⟨rfl, hN⟩; refine ⟨_, rfl, ?_⟩; have hB := hN.pure; have hS := hS.join hN; clear hN
    refine wpS_quick 2 rfl ?_
    refine wpS_nil ?_
    refine QH_seq_k hK86 ?_
    refine wpC_ret ?_
    refine QH_ret rfl (RV.tmp rfl RV.nil) rfl ?_
    obtain rfl := Option.some.inj H
    replace hS := hS.cut 0
    exact ⟨rfl, hS⟩
  replace H := cond_f H hb
  refine wpS_quick 1 rfl ?_
  refine wpS_put rfl rfl rfl (yv_eql rfl rfl) ?_
  refine wpS_quick 3 rfl ?_
  refine wpS_case 98 rfl (fun hb => ?_) (fun hb => ?_)
  rotate_left
  · replace H := cond_f H hb
    refine wpS_quick 8 rfl ?_
    refine wpS_nil ?_
    refine QH_seq_k hK86 ?_
    refine wpC_ret ?_
    refine QH_ret rfl (RV.tmp rfl RV.nil) rfl ?_
    obtain rfl := Option.some.inj H
    replace hS := hS.cut 0
    exact ⟨rfl, hS⟩
  replace H := cond_t H hb
  refine wpS_put rfl rfl rfl (yv_load_boxA ag_50 rfl (RW.here _) hS hs1 trivial sg0_6) ?_
  obtain ⟨r99, hm100, H⟩ := bind_some H
  refine wpS_call rfl rfl rfl rfl (by kernel_rfl) rfl (c_manifest_Check x0 A0_ c0_ _ (SlI.of_rd s0_.k (hS.rd0 s0_.rd) (hS.blk0 s0_.blk)) hm100) ?_
  rintro e w ⟨rfl, hN⟩; refine ⟨_, rfl, ?_⟩; have hB := hN.pure; have hS := hS.join hN; clear hN
  refine wpS_put rfl rfl rfl (yv_eql rfl rfl) ?_
  refine wpS_quick 2 rfl ?_
  refine wpS_case 103 rfl (fun hb => ?_) (fun hb => ?_)
  rotate_left
  · replace H := cond_f H hb
    refine wpS_quick 3 rfl ?_
    refine wpS_nil ?_
    refine QH_seq_k hK86 ?_
    refine wpC_ret ?_
    refine QH_ret rfl (RV.tmp rfl RV.nil) rfl ?_
    obtain rfl := Option.some.inj H
    replace hS := hS.cut 0
    exact ⟨rfl, hS⟩
  replace H := cond_t H hb
  obtain ⟨r102, hm103, H⟩ := bind_some H
  refine wpS_call rfl rfl rfl rfl (by kernel_rfl) rfl (c_law11_wakes _ (SlI.of_rd hT_.k (hS.rd0 hT_.rd) (hS.blk0 hT_.blk)) hm103) ?_
  rintro e w ⟨rfl, hN⟩; refine ⟨_, rfl, ?_⟩; have hB := hN.pure; have hS := hS.join hN; clear hN
  refine wpS_quick 2 rfl ?_
  refine wpS_nil ?_
  refine QH_seq_k hK86 ?_
  refine wpC_ret ?_
  refine QH_ret rfl (RV.tmp rfl RV.nil) rfl ?_
  obtain rfl := Option.some.inj H
  replace hS := hS.cut 0
  exact ⟨rfl, hS⟩
end Go.Proofs.YtofheinbbefbcaaDoor
