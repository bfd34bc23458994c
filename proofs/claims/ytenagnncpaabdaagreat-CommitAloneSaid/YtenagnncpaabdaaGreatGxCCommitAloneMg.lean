/- What functions compute, in plain terms, and that they do; printed. -/
import Derived.Test.YtenagnncpaabdaaGreatMg1
import Derived.Test.YtenagnncpaabdaaGreatMg2
import Derived.Test.YtenagnncpaabdaaGreatMg5
namespace Go.Proofs.YtenagnncpaabdaaGreat
open Go Go.RowKit
set_option maxRecDepth 100000
set_option maxHeartbeats 4000000
theorem c_law24_CommitAlone (x0 : List Int) (x1 : Int) (A0_ : Option Addr) (c0_ : Nat) (w0 : World) (s0_ : SlI w0 enI A0_ c0_ x0) {r : Bool} (H : m_law24_CommitAlone x0 x1 = some r) : Calls Tryz.prog 6 #[.slice A0_ x0.length c0_, .int .i64 x1] w0 fun e w' => e = .returned (.bool r) ∧ St0 All w0 w' [] := by
  unfold m_law24_CommitAlone at H
  refine gw_enter2 Tryz.func6 rfl Tryz.ntmps6 rfl ?_
  have hS := St0.start All w0
  refine wpC_seq_k (fun K hK1 => ?_)
  refine wpC_region ?_
  refine wpS_quick 1 rfl ?_
  refine wpS_nil ?_
  refine QH_seq_k hK1 ?_
  refine wpC_seq_k (fun K hK2 => ?_)
  refine wpC_seq_k (fun K hK3 => ?_)
  refine wpC_region ?_
  refine wpS_quick 1 rfl ?_
  refine wpS_put rfl rfl rfl (yv_len el_28 rfl) ?_
  refine wpS_put rfl rfl rfl (yv_gtr rfl rfl) ?_
  refine wpS_quick 1 rfl ?_
  refine wpS_case 19 rfl (fun hb => ?_) (fun hb => ?_)
  · replace H := cond_t H hb
    refine wpS_quick 7 rfl ?_
    refine wpS_nil ?_
    refine QH_seq_k hK3 ?_
    refine wpC_cond_t rfl rfl ?_
    refine wpC_seq_k (fun K hK4 => ?_)
    refine wpC_region ?_
    obtain ⟨r5, hm6, H⟩ := bind_some H
    refine wpS_call rfl rfl rfl rfl (by kernel_rfl) rfl (c_law24_wakes _ hm6) ?_
    rintro e w ⟨rfl, hN⟩; refine ⟨_, rfl, ?_⟩; have hB := hN.pure; have hS := hS.join hN; clear hN
    refine wpS_quick 1 rfl ?_
    refine wpS_nil ?_
    refine QH_seq_k hK4 ?_
    refine wpC_ret ?_
    refine QH_then_ret ?_
    refine QH_ret rfl (RV.tmp rfl RV.nil) rfl ?_
    obtain rfl := Option.some.inj H
    replace hS := hS.cut 0
    exact ⟨rfl, hS⟩
  replace H := cond_f H hb
  refine wpS_quick 1 rfl ?_
  refine wpS_put rfl rfl rfl (yv_lss rfl rfl) ?_
  refine wpS_quick 2 rfl ?_
  refine wpS_case 23 rfl (fun hb => ?_) (fun hb => ?_)
  · replace H := cond_t H hb
    refine wpS_quick 3 rfl ?_
    refine wpS_nil ?_
    refine QH_seq_k hK3 ?_
    refine wpC_cond_t rfl rfl ?_
    refine wpC_seq_k (fun K hK7 => ?_)
    refine wpC_region ?_
    obtain ⟨r8, hm9, H⟩ := bind_some H
    refine wpS_call rfl rfl rfl rfl (by kernel_rfl) rfl (c_law24_wakes _ hm9) ?_
    rintro e w ⟨rfl, hN⟩; refine ⟨_, rfl, ?_⟩; have hB := hN.pure; have hS := hS.join hN; clear hN
    refine wpS_quick 1 rfl ?_
    refine wpS_nil ?_
    refine QH_seq_k hK7 ?_
    refine wpC_ret ?_
    refine QH_then_ret ?_
    refine QH_ret rfl (RV.tmp rfl RV.nil) rfl ?_
    obtain rfl := Option.some.inj H
    replace hS := hS.cut 0
    exact ⟨rfl, hS⟩
  replace H := cond_f H hb
  refine wpS_quick 1 rfl ?_
  refine wpS_put rfl rfl rfl (yv_gtr rfl rfl) ?_
  refine wpS_quick 1 rfl ?_
  refine wpS_nil ?_
  refine QH_seq_k hK3 ?_
  refine wpC_cond rfl (fun hb => ?_) (fun hb => ?_)
  · replace H := cond_t H hb
    refine wpC_seq_k (fun K hK10 => ?_)
    refine wpC_region ?_
    obtain ⟨r11, hm12, H⟩ := bind_some H
    refine wpS_call rfl rfl rfl rfl (by kernel_rfl) rfl (c_law24_wakes _ hm12) ?_
    rintro e w ⟨rfl, hN⟩; refine ⟨_, rfl, ?_⟩; have hB := hN.pure; have hS := hS.join hN; clear hN
    refine wpS_quick 1 rfl ?_
    refine wpS_nil ?_
    refine QH_seq_k hK10 ?_
    refine wpC_ret ?_
    refine QH_then_ret ?_
    refine QH_ret rfl (RV.tmp rfl RV.nil) rfl ?_
    obtain rfl := Option.some.inj H
    replace hS := hS.cut 0
    exact ⟨rfl, hS⟩
  replace H := cond_f H hb
  refine wpC_skip ?_
  refine QH_seq_k hK2 ?_
  refine wpC_seq_k (fun K hK13 => ?_)
  refine wpC_region ?_
  refine wpS_quick 1 rfl ?_
  obtain ⟨r14, hm15, H⟩ := bind_some H
  refine wpS_call rfl rfl rfl rfl (by kernel_rfl) rfl (c_ref12_First _ hm15) ?_
  rintro e w ⟨A16, c17, rfl, k18, hN⟩; refine ⟨_, rfl, ?_⟩; have hB := hN.pure; have hS := hS.join hN; clear hN
  obtain ⟨r20, hm21, H⟩ := bind_some H
  refine wpS_call rfl rfl rfl rfl (by kernel_rfl) rfl (c_ref20_New 1 1 x1 r14 A16 c17 _ (SlI.of_rd k18 (hS.rd hs0) (hS.rd_blk hs0)) hm21) ?_
  rintro e w ⟨A22, c23, A26, c27, A30, c31, A34, c35, A38, c39, rfl, k24, k28, k32, k36, k40, hN⟩; refine ⟨_, rfl, ?_⟩; have hB := hN.pure; have hS := hS.join hN; clear hN
  obtain ⟨r42, hm43, H⟩ := bind_some H
  refine wpS_call rfl rfl rfl rfl (by kernel_rfl) rfl (c_ref22_Timeout r20 A22 c23 A26 c27 A30 c31 A34 c35 A38 c39 _ (SlI.of_rd k24 (hS.row_rd hs0) (hS.row_blk hs0)) (SlI.of_rd k28 (hS.row_rd hs1) (hS.row_blk hs1)) (SlI.of_rd k32 (hS.row_rd hs2) (hS.row_blk hs2)) (SlI.of_rd k36 (hS.row_rd hs3) (hS.row_blk hs3)) (SlI.of_rd k40 (hS.row_rd hs4) (hS.row_blk hs4)) hm43) ?_
  rintro e w ⟨A44, c45, A48, c49, A52, c53, A56, c57, A60, c61, A64, c65, q68, rfl, k46, k50, k54, k58, k62, k66, hq69, okq70, hN⟩; refine ⟨_, rfl, ?_⟩; have hB := hN.pure; have hS := hS.join hN; clear hN
  refine wpS_quick 1 rfl ?_
  refine wpS_put rfl rfl rfl (yv_extract rfl rfl) ?_
  refine wpS_put rfl rfl rfl (yv_extract rfl rfl) ?_
  refine wpS_alloc rfl rfl zc_30 hS (fun b72 w hS hB => ?_)
  refine wpS_store rfl rfl rfl CellsOf.agg hS ps0 st0_22 (by kernel_rfl) rfl (fun w hS hB => ?_)
  refine wpS_quick 1 rfl ?_
  refine wpS_nil ?_
  refine QH_seq_k hK13 ?_
  refine wpC_seq_k (fun K hK74 => ?_)
  refine wpC_region ?_
  refine wpS_put rfl rfl rfl (yv_load_boxA ag_30 rfl (RW.here _) hS hs0 trivial sg0_22) ?_
  obtain ⟨r75, hm76, H⟩ := bind_some H
  refine wpS_call rfl rfl rfl rfl (by kernel_rfl) rfl (c_commit_Advance r42.1 A44 c45 A48 c49 A52 c53 A56 c57 A60 c61 _ (SlI.of_rd k46 (hS.row_rd hs1) (hS.row_blk hs1)) (SlI.of_rd k50 (hS.row_rd hs2) (hS.row_blk hs2)) (SlI.of_rd k54 (hS.row_rd hs3) (hS.row_blk hs3)) (SlI.of_rd k58 (hS.row_rd hs4) (hS.row_blk hs4)) (SlI.of_rd k62 (hS.row_rd hs5) (hS.row_blk hs5)) hm76) ?_
  rintro e w ⟨A77, c78, A81, c82, A85, c86, A89, c90, A93, c94, rfl, k79, k83, k87, k91, k95, hN⟩; refine ⟨_, rfl, ?_⟩; have hB := hN.pure; have hS := hS.join hN; clear hN
  refine wpS_store rfl rfl rfl CellsOf.agg hS ps5 st0_22 (by kernel_rfl) rfl (fun w hS hB => ?_)
  refine wpS_nil ?_
  refine QH_seq_k hK74 ?_
  refine wpC_seq_k (fun K hK97 => ?_)
  refine wpC_seq_k (fun K hK98 => ?_)
  refine wpC_region ?_
  refine wpS_quick 1 rfl ?_
  refine wpS_nil ?_
  refine QH_seq_k hK98 ?_
  refine wpC_block ?_
  refine wpC_loop (X := Nat × Bool × Int × Int × Int × Int × Int × Int × Int × Int × Int × Bool × List En × Option Addr × Nat × Int × Int × Int × Int × Int × Int × Int × Bool × List Bool × Option Addr × Nat × List Int × Option Addr × Nat × List Int × Option Addr × Nat × List Int × Option Addr × Nat) (fun x => (0, .slice A0_ x0.length c0_) :: (1, .int .i64 x1) :: (4, .bool x.2.1) :: (5, .pointer (some ⟨b72, 0, none⟩)) :: (7, .int .i64 x.2.2.1) :: []) (fun x w => St0 All w0 w (.row (.slice x.2.2.2.2.2.2.2.2.2.2.2.2.2.1 x.2.2.2.2.2.2.2.2.2.2.2.2.1.length x.2.2.2.2.2.2.2.2.2.2.2.2.2.2.1) 41 3 x.2.2.2.2.2.2.2.2.2.2.2.2.1.length (encs enE x.2.2.2.2.2.2.2.2.2.2.2.2.1) :: .row (.slice x.2.2.2.2.2.2.2.2.2.2.2.2.2.2.2.2.2.2.2.2.2.2.2.2.1 x.2.2.2.2.2.2.2.2.2.2.2.2.2.2.2.2.2.2.2.2.2.2.2.1.length x.2.2.2.2.2.2.2.2.2.2.2.2.2.2.2.2.2.2.2.2.2.2.2.2.2.1) 4 1 x.2.2.2.2.2.2.2.2.2.2.2.2.2.2.2.2.2.2.2.2.2.2.2.1.length (encs enO x.2.2.2.2.2.2.2.2.2.2.2.2.2.2.2.2.2.2.2.2.2.2.2.1) :: .row (.slice x.2.2.2.2.2.2.2.2.2.2.2.2.2.2.2.2.2.2.2.2.2.2.2.2.2.2.2.1 x.2.2.2.2.2.2.2.2.2.2.2.2.2.2.2.2.2.2.2.2.2.2.2.2.2.2.1.length x.2.2.2.2.2.2.2.2.2.2.2.2.2.2.2.2.2.2.2.2.2.2.2.2.2.2.2.2.1) 3 1 x.2.2.2.2.2.2.2.2.2.2.2.2.2.2.2.2.2.2.2.2.2.2.2.2.2.2.1.length (encs enI x.2.2.2.2.2.2.2.2.2.2.2.2.2.2.2.2.2.2.2.2.2.2.2.2.2.2.1) :: .row (.slice x.2.2.2.2.2.2.2.2.2.2.2.2.2.2.2.2.2.2.2.2.2.2.2.2.2.2.2.2.2.2.1 x.2.2.2.2.2.2.2.2.2.2.2.2.2.2.2.2.2.2.2.2.2.2.2.2.2.2.2.2.2.1.length x.2.2.2.2.2.2.2.2.2.2.2.2.2.2.2.2.2.2.2.2.2.2.2.2.2.2.2.2.2.2.2.1) 3 1 x.2.2.2.2.2.2.2.2.2.2.2.2.2.2.2.2.2.2.2.2.2.2.2.2.2.2.2.2.2.1.length (encs enI x.2.2.2.2.2.2.2.2.2.2.2.2.2.2.2.2.2.2.2.2.2.2.2.2.2.2.2.2.2.1) :: .row (.slice x.2.2.2.2.2.2.2.2.2.2.2.2.2.2.2.2.2.2.2.2.2.2.2.2.2.2.2.2.2.2.2.2.2.1 x.2.2.2.2.2.2.2.2.2.2.2.2.2.2.2.2.2.2.2.2.2.2.2.2.2.2.2.2.2.2.2.2.1.length x.2.2.2.2.2.2.2.2.2.2.2.2.2.2.2.2.2.2.2.2.2.2.2.2.2.2.2.2.2.2.2.2.2.2) 3 1 x.2.2.2.2.2.2.2.2.2.2.2.2.2.2.2.2.2.2.2.2.2.2.2.2.2.2.2.2.2.2.2.2.1.length (encs enI x.2.2.2.2.2.2.2.2.2.2.2.2.2.2.2.2.2.2.2.2.2.2.2.2.2.2.2.2.2.2.2.2.1) :: .box b72 [.int .i64 x.2.2.2.1, .int .i64 x.2.2.2.2.1, .int .u8 x.2.2.2.2.2.1, .int .i64 x.2.2.2.2.2.2.1, .int .i64 x.2.2.2.2.2.2.2.1, .int .i64 x.2.2.2.2.2.2.2.2.1, .int .i64 x.2.2.2.2.2.2.2.2.2.1, .int .i64 x.2.2.2.2.2.2.2.2.2.2.1, .bool x.2.2.2.2.2.2.2.2.2.2.2.1, .slice x.2.2.2.2.2.2.2.2.2.2.2.2.2.1 x.2.2.2.2.2.2.2.2.2.2.2.2.1.length x.2.2.2.2.2.2.2.2.2.2.2.2.2.2.1, .int .i64 x.2.2.2.2.2.2.2.2.2.2.2.2.2.2.2.1, .int .i64 x.2.2.2.2.2.2.2.2.2.2.2.2.2.2.2.2.1, .int .i64 x.2.2.2.2.2.2.2.2.2.2.2.2.2.2.2.2.2.1, .int .i64 x.2.2.2.2.2.2.2.2.2.2.2.2.2.2.2.2.2.2.1, .int .i64 x.2.2.2.2.2.2.2.2.2.2.2.2.2.2.2.2.2.2.2.1, .int .i64 x.2.2.2.2.2.2.2.2.2.2.2.2.2.2.2.2.2.2.2.2.1, .int .i64 x.2.2.2.2.2.2.2.2.2.2.2.2.2.2.2.2.2.2.2.2.2.1, .bool x.2.2.2.2.2.2.2.2.2.2.2.2.2.2.2.2.2.2.2.2.2.2.1, .slice x.2.2.2.2.2.2.2.2.2.2.2.2.2.2.2.2.2.2.2.2.2.2.2.2.1 x.2.2.2.2.2.2.2.2.2.2.2.2.2.2.2.2.2.2.2.2.2.2.2.1.length x.2.2.2.2.2.2.2.2.2.2.2.2.2.2.2.2.2.2.2.2.2.2.2.2.2.1, .slice x.2.2.2.2.2.2.2.2.2.2.2.2.2.2.2.2.2.2.2.2.2.2.2.2.2.2.2.1 x.2.2.2.2.2.2.2.2.2.2.2.2.2.2.2.2.2.2.2.2.2.2.2.2.2.2.1.length x.2.2.2.2.2.2.2.2.2.2.2.2.2.2.2.2.2.2.2.2.2.2.2.2.2.2.2.2.1, .slice x.2.2.2.2.2.2.2.2.2.2.2.2.2.2.2.2.2.2.2.2.2.2.2.2.2.2.2.2.2.2.1 x.2.2.2.2.2.2.2.2.2.2.2.2.2.2.2.2.2.2.2.2.2.2.2.2.2.2.2.2.2.1.length x.2.2.2.2.2.2.2.2.2.2.2.2.2.2.2.2.2.2.2.2.2.2.2.2.2.2.2.2.2.2.2.1, .slice x.2.2.2.2.2.2.2.2.2.2.2.2.2.2.2.2.2.2.2.2.2.2.2.2.2.2.2.2.2.2.2.2.2.1 x.2.2.2.2.2.2.2.2.2.2.2.2.2.2.2.2.2.2.2.2.2.2.2.2.2.2.2.2.2.2.2.2.1.length x.2.2.2.2.2.2.2.2.2.2.2.2.2.2.2.2.2.2.2.2.2.2.2.2.2.2.2.2.2.2.2.2.2.2] 30 :: .row (.slice A44 r42.1.tuple.log.length c45) 41 3 r42.1.tuple.log.length (encs enE r42.1.tuple.log) :: .row (.slice A48 r42.1.votes.length c49) 4 1 r42.1.votes.length (encs enO r42.1.votes) :: .row (.slice A52 r42.1.next.length c53) 3 1 r42.1.next.length (encs enI r42.1.next) :: .row (.slice A56 r42.1.mtch.length c57) 3 1 r42.1.mtch.length (encs enI r42.1.mtch) :: .row (.slice A60 r42.1.caps.length c61) 3 1 r42.1.caps.length (encs enI r42.1.caps) :: .rd A64 (encs enQ q68) :: .rds (q68.map subQ) :: .row (.slice A22 r20.tuple.log.length c23) 41 3 r20.tuple.log.length (encs enE r20.tuple.log) :: .row (.slice A26 r20.votes.length c27) 4 1 r20.votes.length (encs enO r20.votes) :: .row (.slice A30 r20.next.length c31) 3 1 r20.next.length (encs enI r20.next) :: .row (.slice A34 r20.mtch.length c35) 3 1 r20.mtch.length (encs enI r20.mtch) :: .row (.slice A38 r20.caps.length c39) 3 1 r20.caps.length (encs enI r20.caps) :: .rd A16 (encs enE r14.log) :: []) ∧ (x.2.2.2.2.2.2.2.2.2.2.2.2.1.length ≤ x.2.2.2.2.2.2.2.2.2.2.2.2.2.2.1 ∧ x.2.2.2.2.2.2.2.2.2.2.2.2.2.2.1 ≤ maxLen) ∧ (x.2.2.2.2.2.2.2.2.2.2.2.2.2.2.2.2.2.2.2.2.2.2.2.1.length ≤ x.2.2.2.2.2.2.2.2.2.2.2.2.2.2.2.2.2.2.2.2.2.2.2.2.2.1 ∧ x.2.2.2.2.2.2.2.2.2.2.2.2.2.2.2.2.2.2.2.2.2.2.2.2.2.1 ≤ maxLen) ∧ (x.2.2.2.2.2.2.2.2.2.2.2.2.2.2.2.2.2.2.2.2.2.2.2.2.2.2.1.length ≤ x.2.2.2.2.2.2.2.2.2.2.2.2.2.2.2.2.2.2.2.2.2.2.2.2.2.2.2.2.1 ∧ x.2.2.2.2.2.2.2.2.2.2.2.2.2.2.2.2.2.2.2.2.2.2.2.2.2.2.2.2.1 ≤ maxLen) ∧ (x.2.2.2.2.2.2.2.2.2.2.2.2.2.2.2.2.2.2.2.2.2.2.2.2.2.2.2.2.2.1.length ≤ x.2.2.2.2.2.2.2.2.2.2.2.2.2.2.2.2.2.2.2.2.2.2.2.2.2.2.2.2.2.2.2.1 ∧ x.2.2.2.2.2.2.2.2.2.2.2.2.2.2.2.2.2.2.2.2.2.2.2.2.2.2.2.2.2.2.2.1 ≤ maxLen) ∧ (x.2.2.2.2.2.2.2.2.2.2.2.2.2.2.2.2.2.2.2.2.2.2.2.2.2.2.2.2.2.2.2.2.1.length ≤ x.2.2.2.2.2.2.2.2.2.2.2.2.2.2.2.2.2.2.2.2.2.2.2.2.2.2.2.2.2.2.2.2.2.2 ∧ x.2.2.2.2.2.2.2.2.2.2.2.2.2.2.2.2.2.2.2.2.2.2.2.2.2.2.2.2.2.2.2.2.2.2 ≤ maxLen) ∧ m_law24_CommitAlone_l1 x0 x1 x.1 x.2.1 x.2.2.1 x.2.2.2.1 x.2.2.2.2.1 x.2.2.2.2.2.1 x.2.2.2.2.2.2.1 x.2.2.2.2.2.2.2.1 x.2.2.2.2.2.2.2.2.1 x.2.2.2.2.2.2.2.2.2.1 x.2.2.2.2.2.2.2.2.2.2.1 x.2.2.2.2.2.2.2.2.2.2.2.1 x.2.2.2.2.2.2.2.2.2.2.2.2.1 x.2.2.2.2.2.2.2.2.2.2.2.2.2.2.2.1 x.2.2.2.2.2.2.2.2.2.2.2.2.2.2.2.2.1 x.2.2.2.2.2.2.2.2.2.2.2.2.2.2.2.2.2.1 x.2.2.2.2.2.2.2.2.2.2.2.2.2.2.2.2.2.2.1 x.2.2.2.2.2.2.2.2.2.2.2.2.2.2.2.2.2.2.2.1 x.2.2.2.2.2.2.2.2.2.2.2.2.2.2.2.2.2.2.2.2.1 x.2.2.2.2.2.2.2.2.2.2.2.2.2.2.2.2.2.2.2.2.2.1 x.2.2.2.2.2.2.2.2.2.2.2.2.2.2.2.2.2.2.2.2.2.2.1 x.2.2.2.2.2.2.2.2.2.2.2.2.2.2.2.2.2.2.2.2.2.2.2.1 x.2.2.2.2.2.2.2.2.2.2.2.2.2.2.2.2.2.2.2.2.2.2.2.2.2.2.1 x.2.2.2.2.2.2.2.2.2.2.2.2.2.2.2.2.2.2.2.2.2.2.2.2.2.2.2.2.2.1 x.2.2.2.2.2.2.2.2.2.2.2.2.2.2.2.2.2.2.2.2.2.2.2.2.2.2.2.2.2.2.2.2.1 = some r) (fun x => x.1) (fuelN, false, 0, r75.id, r75.n, r75.role, r75.binary, r75.tuple.snap.index, r75.tuple.snap.term, r75.tuple.snap.sum, r75.tuple.snap.level, r75.tuple.snap.final, r75.tuple.log, A77, c78, r75.tuple.term, r75.tuple.vote, r75.commit, r75.applied.index, r75.applied.term, r75.applied.sum, r75.applied.level, r75.applied.final, r75.votes, A81, c82, r75.next, A85, c86, r75.mtch, A89, c90, r75.caps, A93, c94) (by repeat (first | exact Sub.nil | refine Sub.cons rfl ?_)) ⟨hS, k79, k83, k87, k91, k95, H⟩ ?_
  rintro ⟨n, v99, v100, v101, v102, v103, v104, v105, v106, v107, v108, v109, v110, A111, c112, v114, v115, v116, v117, v118, v119, v120, v121, v122, A123, c124, v126, A127, c128, v130, A131, c132, v134, A135, c136⟩ w ⟨hS, k113, k125, k129, k133, k137, H⟩
  dsimp only at hS k113 k125 k129 k133 k137 H ⊢
  obtain _ | n := n
  · have H0 : none = some r := H
    cases H0
  rw [m_law24_CommitAlone_l1] at H
  refine wpC_seq_k (fun K hK138 => ?_)
  refine wpC_seq_k (fun K hK139 => ?_)
  refine wpC_region ?_
  refine wpS_quick 2 rfl ?_
  refine wpS_put rfl rfl rfl (yv_len el_28 rfl) ?_
  refine wpS_put rfl rfl rfl (yv_lss rfl rfl) ?_
  refine wpS_nil ?_
  refine QH_seq_k hK139 ?_
  refine wpC_cond rfl (fun hb => ?_) (fun hb => ?_)
  rotate_left
  · replace H := cond_f H hb
    refine wpC_exit ?_
    refine QH_then_exit ?_
    refine QH_then_exit ?_
    refine QH_block_hit ?_
    refine QH_seq_k hK97 ?_
    refine wpC_seq_k (fun K hK195 => ?_)
    refine wpC_region ?_
    refine wpS_put rfl rfl rfl (yv_load_boxA ag_30 rfl (RW.here _) hS hs5 trivial sg0_22) ?_
    obtain ⟨r196, hm197, H⟩ := bind_some H
    refine wpS_call rfl rfl rfl rfl (by kernel_rfl) rfl (c_commit_Client (⟨v101, v102, v103, v104, (⟨(⟨v105, v106, v107, v108, v109⟩ : St), v110, v114, v115⟩ : Tu), v116, (⟨v117, v118, v119, v120, v121⟩ : St), v122, v126, v130, v134⟩ : Co) 2 0 A111 c112 A123 c124 A127 c128 A131 c132 A135 c136 _ (SlI.of_rd k113 (hS.row_rd hs0) (hS.row_blk hs0)) (SlI.of_rd k125 (hS.row_rd hs1) (hS.row_blk hs1)) (SlI.of_rd k129 (hS.row_rd hs2) (hS.row_blk hs2)) (SlI.of_rd k133 (hS.row_rd hs3) (hS.row_blk hs3)) (SlI.of_rd k137 (hS.row_rd hs4) (hS.row_blk hs4)) hm197) ?_
    rintro e w ⟨A198, c199, A202, c203, A206, c207, A210, c211, A214, c215, rfl, k200, k204, k208, k212, k216, hN⟩; refine ⟨_, rfl, ?_⟩; have hB := hN.pure; have hS := hS.join hN; clear hN
    refine wpS_quick 1 rfl ?_
    refine wpS_put rfl rfl rfl (yv_extract rfl rfl) ?_
    refine wpS_put rfl rfl rfl (yv_extract rfl rfl) ?_
    refine wpS_alloc rfl rfl zc_30 hS (fun b218 w hS hB => ?_)
    refine wpS_store rfl rfl rfl CellsOf.agg hS ps0 st0_22 (by kernel_rfl) rfl (fun w hS hB => ?_)
    refine wpS_quick 1 rfl ?_
    refine wpS_nil ?_
    refine QH_seq_k hK195 ?_
    refine wpC_seq_k (fun K hK220 => ?_)
    refine wpC_seq_k (fun K hK221 => ?_)
    refine wpC_region ?_
    refine wpS_quick 1 rfl ?_
    refine wpS_put rfl rfl rfl (yv_eql rfl rfl) ?_
    refine wpS_nil ?_
    refine QH_seq_k hK221 ?_
    refine wpC_cond rfl (fun hb => ?_) (fun hb => ?_)
    · replace H := cond_t H hb
      refine wpC_seq_k (fun K hK222 => ?_)
      refine wpC_region ?_
      refine wpS_quick 1 rfl ?_
      refine wpS_put rfl rfl rfl (yv_eql rfl rfl) ?_
      refine wpS_quick 1 rfl ?_
      refine wpS_case 106 rfl (fun hb => ?_) (fun hb => ?_)
      rotate_left
      · replace H := cond_f H hb
        refine wpS_quick 8 rfl ?_
        refine wpS_nil ?_
        refine QH_seq_k hK222 ?_
        refine wpC_ret ?_
        refine QH_then_ret ?_
        refine QH_ret rfl (RV.tmp rfl RV.nil) rfl ?_
        obtain rfl := Option.some.inj H
        replace hS := hS.cut 0
        exact ⟨rfl, hS⟩
      replace H := cond_t H hb
      refine wpS_put rfl rfl rfl (yv_load_boxA ag_30 rfl (RW.here _) hS hs11 trivial sg0_22) ?_
      obtain ⟨r223, hm224, H⟩ := bind_some H
      refine wpS_call rfl rfl rfl rfl (by kernel_rfl) rfl (c_commit_Format (⟨v101, v102, v103, v104, (⟨(⟨v105, v106, v107, v108, v109⟩ : St), v110, v114, v115⟩ : Tu), v116, (⟨v117, v118, v119, v120, v121⟩ : St), v122, v126, v130, v134⟩ : Co) A111 c112 A123 c124 A127 c128 A131 c132 A135 c136 _ (SlI.of_rd k113 (hS.row_rd hs6) (hS.row_blk hs6)) (SlI.of_rd k125 (hS.row_rd hs7) (hS.row_blk hs7)) (SlI.of_rd k129 (hS.row_rd hs8) (hS.row_blk hs8)) (SlI.of_rd k133 (hS.row_rd hs9) (hS.row_blk hs9)) (SlI.of_rd k137 (hS.row_rd hs10) (hS.row_blk hs10)) hm224) ?_
      rintro e w ⟨rfl, hN⟩; refine ⟨_, rfl, ?_⟩; have hB := hN.pure; have hS := hS.join hN; clear hN
      refine wpS_put rfl rfl rfl (yv_eql rfl rfl) ?_
      refine wpS_quick 2 rfl ?_
      refine wpS_case 111 rfl (fun hb => ?_) (fun hb => ?_)
      rotate_left
      · replace H := cond_f H hb
        refine wpS_quick 3 rfl ?_
        refine wpS_nil ?_
        refine QH_seq_k hK222 ?_
        refine wpC_ret ?_
        refine QH_then_ret ?_
        refine QH_ret rfl (RV.tmp rfl RV.nil) rfl ?_
        obtain rfl := Option.some.inj H
        replace hS := hS.cut 0
        exact ⟨rfl, hS⟩
      replace H := cond_t H hb
      obtain ⟨r225, hm226, H⟩ := bind_some H
      refine wpS_call rfl rfl rfl rfl (by kernel_rfl) rfl (c_law24_wakes _ hm226) ?_
      rintro e w ⟨rfl, hN⟩; refine ⟨_, rfl, ?_⟩; have hB := hN.pure; have hS := hS.join hN; clear hN
      refine wpS_quick 2 rfl ?_
      refine wpS_nil ?_
      refine QH_seq_k hK222 ?_
      refine wpC_ret ?_
      refine QH_then_ret ?_
      refine QH_ret rfl (RV.tmp rfl RV.nil) rfl ?_
      obtain rfl := Option.some.inj H
      replace hS := hS.cut 0
      exact ⟨rfl, hS⟩
    replace H := cond_f H hb
    refine wpC_skip ?_
    refine QH_seq_k hK220 ?_
    refine wpC_seq_k (fun K hK227 => ?_)
    refine wpC_region ?_
    refine wpS_put rfl rfl rfl (yv_load_boxA ag_30 rfl (RW.here _) hS hs0 trivial sg0_22) ?_
    obtain ⟨r228, hm229, H⟩ := bind_some H
    refine wpS_call rfl rfl rfl rfl (by kernel_rfl) rfl (c_commit_Client r196.1 4 0 A198 c199 A202 c203 A206 c207 A210 c211 A214 c215 _ (SlI.of_rd k200 (hS.row_rd hs1) (hS.row_blk hs1)) (SlI.of_rd k204 (hS.row_rd hs2) (hS.row_blk hs2)) (SlI.of_rd k208 (hS.row_rd hs3) (hS.row_blk hs3)) (SlI.of_rd k212 (hS.row_rd hs4) (hS.row_blk hs4)) (SlI.of_rd k216 (hS.row_rd hs5) (hS.row_blk hs5)) hm229) ?_
    rintro e w ⟨A230, c231, A234, c235, A238, c239, A242, c243, A246, c247, rfl, k232, k236, k240, k244, k248, hN⟩; refine ⟨_, rfl, ?_⟩; have hB := hN.pure; have hS := hS.join hN; clear hN
    refine wpS_quick 1 rfl ?_
    refine wpS_put rfl rfl rfl (yv_extract rfl rfl) ?_
    refine wpS_put rfl rfl rfl (yv_extract rfl rfl) ?_
    refine wpS_alloc rfl rfl zc_30 hS (fun b250 w hS hB => ?_)
    refine wpS_store rfl rfl rfl CellsOf.agg hS ps0 st0_22 (by kernel_rfl) rfl (fun w hS hB => ?_)
    refine wpS_quick 1 rfl ?_
    refine wpS_nil ?_
    refine QH_seq_k hK227 ?_
    refine wpC_seq_k (fun K hK252 => ?_)
    refine wpC_region ?_
    refine wpS_put rfl rfl rfl (yv_load_boxA ag_30 rfl (RW.here _) hS hs0 trivial sg0_22) ?_
    obtain ⟨r253, hm254, H⟩ := bind_some H
    refine wpS_call rfl rfl rfl rfl (by kernel_rfl) rfl (c_commit_Client r228.1 3 0 A230 c231 A234 c235 A238 c239 A242 c243 A246 c247 _ (SlI.of_rd k232 (hS.row_rd hs1) (hS.row_blk hs1)) (SlI.of_rd k236 (hS.row_rd hs2) (hS.row_blk hs2)) (SlI.of_rd k240 (hS.row_rd hs3) (hS.row_blk hs3)) (SlI.of_rd k244 (hS.row_rd hs4) (hS.row_blk hs4)) (SlI.of_rd k248 (hS.row_rd hs5) (hS.row_blk hs5)) hm254) ?_
    rintro e w ⟨A255, c256, A259, c260, A263, c264, A267, c268, A271, c272, rfl, k257, k261, k265, k269, k273, hN⟩; refine ⟨_, rfl, ?_⟩; have hB := hN.pure; have hS := hS.join hN; clear hN
    refine wpS_quick 1 rfl ?_
    refine wpS_put rfl rfl rfl (yv_extract rfl rfl) ?_
    refine wpS_put rfl rfl rfl (yv_extract rfl rfl) ?_
    refine wpS_alloc rfl rfl zc_30 hS (fun b275 w hS hB => ?_)
    refine wpS_store rfl rfl rfl CellsOf.agg hS ps0 st0_22 (by kernel_rfl) rfl (fun w hS hB => ?_)
    refine wpS_quick 1 rfl ?_
    refine wpS_nil ?_
    refine QH_seq_k hK252 ?_
    refine wpC_seq_k (fun K hK277 => ?_)
    refine wpC_region ?_
    refine wpS_quick 1 rfl ?_
    refine wpS_put rfl rfl rfl (yv_eql rfl rfl) ?_
    refine wpS_quick 1 rfl ?_
    refine wpS_case 126 rfl (fun hb => ?_) (fun hb => ?_)
    rotate_left
    · replace H := cond_f H hb
      refine wpS_quick 21 rfl ?_
      refine wpS_nil ?_
      refine QH_seq_k hK277 ?_
      refine wpC_ret ?_
      refine QH_ret rfl (RV.tmp rfl RV.nil) rfl ?_
      obtain rfl := Option.some.inj H
      replace hS := hS.cut 0
      exact ⟨rfl, hS⟩
    replace H := cond_t H hb
    refine wpS_put rfl rfl rfl (yv_load_boxA ag_30 rfl (RW.here _) hS hs12 trivial sg0_22) ?_
    obtain ⟨r278, hm279, H⟩ := bind_some H
    refine wpS_call rfl rfl rfl rfl (by kernel_rfl) rfl (c_commit_Format r196.1 A198 c199 A202 c203 A206 c207 A210 c211 A214 c215 _ (SlI.of_rd k200 (hS.row_rd hs13) (hS.row_blk hs13)) (SlI.of_rd k204 (hS.row_rd hs14) (hS.row_blk hs14)) (SlI.of_rd k208 (hS.row_rd hs15) (hS.row_blk hs15)) (SlI.of_rd k212 (hS.row_rd hs16) (hS.row_blk hs16)) (SlI.of_rd k216 (hS.row_rd hs17) (hS.row_blk hs17)) hm279) ?_
    rintro e w ⟨rfl, hN⟩; refine ⟨_, rfl, ?_⟩; have hB := hN.pure; have hS := hS.join hN; clear hN
    refine wpS_put rfl rfl rfl (yv_eql rfl rfl) ?_
    refine wpS_quick 2 rfl ?_
    refine wpS_case 131 rfl (fun hb => ?_) (fun hb => ?_)
    rotate_left
    · replace H := cond_f H hb
      refine wpS_quick 16 rfl ?_
      refine wpS_nil ?_
      refine QH_seq_k hK277 ?_
      refine wpC_ret ?_
      refine QH_ret rfl (RV.tmp rfl RV.nil) rfl ?_
      obtain rfl := Option.some.inj H
      replace hS := hS.cut 0
      exact ⟨rfl, hS⟩
    replace H := cond_t H hb
    refine wpS_quick 1 rfl ?_
    refine wpS_put rfl rfl rfl (yv_eql rfl rfl) ?_
    refine wpS_quick 2 rfl ?_
    refine wpS_case 135 rfl (fun hb => ?_) (fun hb => ?_)
    rotate_left
    · replace H := cond_f H hb
      refine wpS_quick 12 rfl ?_
      refine wpS_nil ?_
      refine QH_seq_k hK277 ?_
      refine wpC_ret ?_
      refine QH_ret rfl (RV.tmp rfl RV.nil) rfl ?_
      obtain rfl := Option.some.inj H
      replace hS := hS.cut 0
      exact ⟨rfl, hS⟩
    replace H := cond_t H hb
    refine wpS_put rfl rfl rfl (yv_fieldAddr fo_30_6 rfl) ?_
    refine wpS_put rfl rfl rfl (yv_fieldAddr fo_23_4 rfl) ?_
    refine wpS_put rfl rfl rfl (yv_load_box sc_4 rfl (RW.here _) hS hs6 trivial sg17_1) ?_
    refine wpS_quick 2 rfl ?_
    refine wpS_case 140 rfl (fun hb => ?_) (fun hb => ?_)
    rotate_left
    · replace H := cond_f H hb
      refine wpS_quick 7 rfl ?_
      refine wpS_nil ?_
      refine QH_seq_k hK277 ?_
      refine wpC_ret ?_
      refine QH_ret rfl (RV.tmp rfl RV.nil) rfl ?_
      obtain rfl := Option.some.inj H
      replace hS := hS.cut 0
      exact ⟨rfl, hS⟩
    replace H := cond_t H hb
    refine wpS_quick 1 rfl ?_
    refine wpS_put rfl rfl rfl (yv_eql rfl rfl) ?_
    refine wpS_quick 2 rfl ?_
    refine wpS_case 144 rfl (fun hb => ?_) (fun hb => ?_)
    rotate_left
    · replace H := cond_f H hb
      refine wpS_quick 3 rfl ?_
      refine wpS_nil ?_
      refine QH_seq_k hK277 ?_
      refine wpC_ret ?_
      refine QH_ret rfl (RV.tmp rfl RV.nil) rfl ?_
      obtain rfl := Option.some.inj H
      replace hS := hS.cut 0
      exact ⟨rfl, hS⟩
    replace H := cond_t H hb
    obtain ⟨r280, hm281, H⟩ := bind_some H
    refine wpS_call rfl rfl rfl rfl (by kernel_rfl) rfl (c_law24_wakes _ hm281) ?_
    rintro e w ⟨rfl, hN⟩; refine ⟨_, rfl, ?_⟩; have hB := hN.pure; have hS := hS.join hN; clear hN
    refine wpS_quick 2 rfl ?_
    refine wpS_nil ?_
    refine QH_seq_k hK277 ?_
    refine wpC_ret ?_
    refine QH_ret rfl (RV.tmp rfl RV.nil) rfl ?_
    obtain rfl := Option.some.inj H
    replace hS := hS.cut 0
    exact ⟨rfl, hS⟩
  replace H := cond_t H hb
  refine wpC_skip ?_
  refine QH_seq_k hK138 ?_
  refine wpC_seq_k (fun K hK140 => ?_)
  refine wpC_block ?_
  refine wpC_seq_k (fun K hK141 => ?_)
  refine wpC_seq_k (fun K hK142 => ?_)
  refine wpC_region ?_
  refine wpS_quick 2 rfl ?_
  obtain ⟨e143, hi145, H⟩ := bind_some H
  obtain ⟨j144, hi145a, hi145b, hi145c⟩ := idx_some hi145
  refine wpS_put rfl rfl rfl (yx_idx el_28 rfl rfl hi145a hi145c (Rd.el (hS.rd0 s0_.rd) he_enI hi145b)) ?_
  refine wpS_put rfl rfl rfl (yx_ld0 sc_3 rfl (RW.here _) (Rd.el (hS.rd0 s0_.rd) he_enI hi145b) rfl) ?_
  refine wpS_put rfl rfl rfl (yv_lss rfl rfl) ?_
  refine wpS_quick 1 rfl ?_
  refine wpS_case 48 rfl (fun hb => ?_) (fun hb => ?_)
  · replace H := cond_t H hb
    refine wpS_quick 6 rfl ?_
    refine wpS_nil ?_
    refine QH_seq_k hK142 ?_
    refine wpC_cond_t rfl rfl ?_
    refine wpC_seq_k (fun K hK146 => ?_)
    refine wpC_region ?_
    obtain ⟨r147, hm148, H⟩ := bind_some H
    refine wpS_call rfl rfl rfl rfl (by kernel_rfl) rfl (c_law24_wakes _ hm148) ?_
    rintro e w ⟨rfl, hN⟩; refine ⟨_, rfl, ?_⟩; have hB := hN.pure; have hS := hS.join hN; clear hN
    refine wpS_quick 1 rfl ?_
    refine wpS_nil ?_
    refine QH_seq_k hK146 ?_
    refine wpC_ret ?_
    refine QH_then_ret ?_
    refine QH_block_ret ?_
    refine QH_then_ret ?_
    refine QH_then_ret ?_
    refine QH_block_ret ?_
    refine QH_then_ret ?_
    refine QH_ret rfl (RV.tmp rfl RV.nil) rfl ?_
    obtain rfl := Option.some.inj H
    replace hS := hS.cut 0
    exact ⟨rfl, hS⟩
  replace H := cond_f H hb
  refine wpS_quick 2 rfl ?_
  obtain ⟨e149, hi151, H⟩ := bind_some H
  obtain ⟨j150, hi151a, hi151b, hi151c⟩ := idx_some hi151
  refine wpS_put rfl rfl rfl (yx_idx el_28 rfl rfl hi151a hi151c (Rd.el (hS.rd0 s0_.rd) he_enI hi151b)) ?_
  refine wpS_put rfl rfl rfl (yx_ld0 sc_3 rfl (RW.here _) (Rd.el (hS.rd0 s0_.rd) he_enI hi151b) rfl) ?_
  refine wpS_put rfl rfl rfl (yv_gtr rfl rfl) ?_
  refine wpS_quick 1 rfl ?_
  refine wpS_nil ?_
  refine QH_seq_k hK142 ?_
  refine wpC_cond rfl (fun hb => ?_) (fun hb => ?_)
  · replace H := cond_t H hb
    refine wpC_seq_k (fun K hK152 => ?_)
    refine wpC_region ?_
    obtain ⟨r153, hm154, H⟩ := bind_some H
    refine wpS_call rfl rfl rfl rfl (by kernel_rfl) rfl (c_law24_wakes _ hm154) ?_
    rintro e w ⟨rfl, hN⟩; refine ⟨_, rfl, ?_⟩; have hB := hN.pure; have hS := hS.join hN; clear hN
    refine wpS_quick 1 rfl ?_
    refine wpS_nil ?_
    refine QH_seq_k hK152 ?_
    refine wpC_ret ?_
    refine QH_then_ret ?_
    refine QH_block_ret ?_
    refine QH_then_ret ?_
    refine QH_then_ret ?_
    refine QH_block_ret ?_
    refine QH_then_ret ?_
    refine QH_ret rfl (RV.tmp rfl RV.nil) rfl ?_
    obtain rfl := Option.some.inj H
    replace hS := hS.cut 0
    exact ⟨rfl, hS⟩
  replace H := cond_f H hb
  refine wpC_skip ?_
  refine QH_seq_k hK141 ?_
  refine wpC_seq_k (fun K hK155 => ?_)
  refine wpC_draw 12 [10] (fun i b => (i = 10 → b = b72)) ⟨by kernel_rfl, by kernel_rfl⟩ hS (fun w hS hB => ?_)
  refine wpRF_start [⟨9, 8, 30, [.int .i64 0, .int .i64 0, .int .u8 0, .int .i64 0, .int .i64 0, .int .i64 0, .int .i64 0, .int .i64 0, .bool false, .slice none 0 0, .int .i64 0, .int .i64 0, .int .i64 0, .int .i64 0, .int .i64 0, .int .i64 0, .int .i64 0, .bool false, .slice none 0 0, .slice none 0 0, .slice none 0 0, .slice none 0 0]⟩] (.cons rfl zc_30 rfl rfl rfl .nil) hS (fun hok => ?_)
  dsimp only [List.cons_append, List.nil_append]
  refine wpRF_batch [true, true, true, true, true] [] (fun _ => True) (by decide +kernel) (fun _ h => by cases h) (by repeat (first | exact PF.body | exact PF.round | apply PF.then | apply PF.inBlock | apply PF.jump)) (fun X Y tk ht w hS => ?_)
  refine LtK.put rfl rfl rfl (yv_load_boxA ag_30 rfl (RW.keepB _ _) hS hs5 trivial sg0_22) ?_
  refine LtK.put rfl rfl rfl (yv_move rfl) ?_
  refine LtK.put rfl rfl rfl (yv_move rfl) ?_
  obtain ⟨e156, hi158, H⟩ := bind_some H
  obtain ⟨j157, hi158a, hi158b, hi158c⟩ := idx_some hi158
  refine LtK.put rfl rfl rfl (yx_idx el_28 rfl rfl hi158a hi158c (Rd.el (hS.rd0 s0_.rd) he_enI hi158b)) ?_
  refine LtK.put rfl rfl rfl (yx_ld0 sc_3 rfl (RW.keepB _ _) (Rd.el (hS.rd0 s0_.rd) he_enI hi158b) rfl) ?_
  refine LtK_F' ht hS (by repeat (first | exact App.nil | apply App.cons)) (by repeat (first | exact App.nil | apply App.cons)) ?_
  dsimp only [List.cons_append, List.nil_append]
  refine wpRF_call [false, false, false, false, false, true] 5 hok ⟨by decide, by decide +kernel, by decide, by decide⟩ rfl rfl (fun _ => rfl) (fun _ => rfl) rfl (hend_of (by decide +kernel)) (fun X Y tk ht w hS => ?_)
  dsimp only [pickL]
  obtain ⟨r159, hm160, H⟩ := bind_some H
  refine wpS_call rfl rfl rfl rfl (by kernel_rfl) rfl (c_commit_Client (⟨v101, v102, v103, v104, (⟨(⟨v105, v106, v107, v108, v109⟩ : St), v110, v114, v115⟩ : Tu), v116, (⟨v117, v118, v119, v120, v121⟩ : St), v122, v126, v130, v134⟩ : Co) 1 e156 A111 c112 A123 c124 A127 c128 A131 c132 A135 c136 _ (SlI.of_rd k113 (hS.row_rd hs0) (hS.row_blk hs0)) (SlI.of_rd k125 (hS.row_rd hs1) (hS.row_blk hs1)) (SlI.of_rd k129 (hS.row_rd hs2) (hS.row_blk hs2)) (SlI.of_rd k133 (hS.row_rd hs3) (hS.row_blk hs3)) (SlI.of_rd k137 (hS.row_rd hs4) (hS.row_blk hs4)) hm160) ?_
  rintro e w ⟨A161, c162, A165, c166, A169, c170, A173, c174, A177, c178, rfl, k163, k167, k171, k175, k179, hN⟩; refine ⟨_, rfl, ?_⟩; have hB := hN.pure; have hS := hS.join hN; clear hN
  refine wpS_nil ?_
  refine QH_stepF' ht hS hB (by repeat (first | exact App.nil | apply App.cons)) (by repeat (first | exact App.nil | apply App.cons)) ?_
  dsimp only [List.cons_append, List.nil_append]
  refine wpRF_batch [false, false, false, false, false, false, true, true] [] (fun _ => True) (by decide +kernel) (fun _ h => by cases h) (by repeat (first | exact PF.body | exact PF.round | apply PF.then | apply PF.inBlock | apply PF.jump)) (fun X Y tk ht w hS => ?_)
  refine LtK.put rfl rfl rfl (yv_move rfl) ?_
  refine LtK.put rfl rfl rfl (yv_extract rfl rfl) ?_
  refine LtK_F' ht hS (by repeat (first | exact App.nil | apply App.cons)) (by repeat (first | exact App.nil | apply App.cons)) ?_
  dsimp only [List.cons_append, List.nil_append]
  refine wpRF_batch [false, false, false, false, false, false, false, false, true] [10] (fun b => (b = b72)) (by decide +kernel) (by intro j hj b hb; simp only [List.mem_cons, List.not_mem_nil, or_false] at hj; (try rcases hj with rfl | rfl | rfl | rfl | rfl) <;> simp_all) (by repeat (first | exact PF.body | exact PF.round | apply PF.then | apply PF.inBlock | apply PF.jump)) (fun X Y tk ht w hS => ?_)
  refine LtK.put rfl rfl rfl (yv_extract rfl rfl) ?_
  refine LtK_F' ht hS (by repeat (first | exact App.nil | apply App.cons)) (by repeat (first | exact App.nil | apply App.cons)) ?_
  dsimp only [List.cons_append, List.nil_append]
  refine wpRF_done hok (by decide) (by decide +kernel) (fun _ => rfl) (fun _ => rfl) rfl (fun tk htk w hS => ?_)
  obtain ⟨b181, tkb181, rfl, htk183⟩ := tk_cons htk
  obtain rfl := tk_nil htk183
  dsimp only [tkH, tkL, List.map] at hS ⊢
  refine wpR_seal [false, false, false, false, false, false, false, false, false, false, true] 10 ⟨by decide, by kernel_rfl, by kernel_rfl⟩ rfl rfl ?_
  dsimp only [pickL]
  refine wpS_store rfl rfl rfl CellsOf.agg hS ps24 st0_22 (by kernel_rfl) rfl (fun w hS hB => ?_)
  refine wpS_nil ?_
  refine QH_stepG (hB.sub (fun b _ h => by have h0 : b = b72 := (by simpa using h); (rw [h0]; exact hS.ne 10 24 rfl rfl rfl))) ?_
  refine wpR_batch [false, false, false, false, false, false, false, false, false, false, false, true] (by decide +kernel) (by repeat (first | exact PF.body | exact PF.round | apply PF.then | apply PF.inBlock | apply PF.jump)) ?_
  refine LtK.put rfl rfl rfl (yv_assign rfl) ?_
  refine LtK.nil ?_
  refine wpR_end (by kernel_rfl) ?_
  refine QH_seq_k hK155 ?_
  refine wpC_seq_k (fun K hK184 => ?_)
  refine wpC_seq_k (fun K hK185 => ?_)
  refine wpC_draw 31 [] (fun _ _ => True) ⟨by kernel_rfl, by kernel_rfl⟩ hS (fun w hS hB => ?_)
  refine wpR_batch [true, true, true] (by decide +kernel) (by repeat (first | exact PF.body | exact PF.round | apply PF.then | apply PF.inBlock | apply PF.jump)) ?_
  refine LtK.put rfl rfl rfl (yv_move rfl) ?_
  refine LtK.put rfl rfl rfl (yv_neq rfl rfl) ?_
  refine LtK.put rfl rfl rfl (yv_move rfl) ?_
  refine LtK.nil ?_
  refine wpR_case 67 rfl (fun hb => ?_) (fun hb => ?_)
  · replace H := cond_t H hb
    refine wpR_batch [false, false, false, true, true, true, true, true, true, true, true, true, true, true, true, true, true, true, true, true, true, true, true, true, true, true, true, true] (by decide +kernel) (by repeat (first | exact PF.body | exact PF.round | apply PF.then | apply PF.inBlock | apply PF.jump)) ?_
    refine LtK.skip rfl rfl rfl ?_
    refine LtK.skip rfl rfl rfl ?_
    refine LtK.skip rfl rfl rfl ?_
    refine LtK.skip rfl rfl rfl ?_
    refine LtK.skip rfl rfl rfl ?_
    refine LtK.skip rfl rfl rfl ?_
    refine LtK.put rfl rfl rfl (yv_pick_t rfl rfl rfl) ?_
    refine LtK.put rfl rfl rfl (yv_move rfl) ?_
    refine LtK.skip rfl rfl rfl ?_
    refine LtK.skip rfl rfl rfl ?_
    refine LtK.skip rfl rfl rfl ?_
    refine LtK.skip rfl rfl rfl ?_
    refine LtK.skip rfl rfl rfl ?_
    refine LtK.skip rfl rfl rfl ?_
    refine LtK.put rfl rfl rfl (yv_pick_t rfl rfl rfl) ?_
    refine LtK.put rfl rfl rfl (yv_move rfl) ?_
    refine LtK.skip rfl rfl rfl ?_
    refine LtK.skip rfl rfl rfl ?_
    refine LtK.skip rfl rfl rfl ?_
    refine LtK.skip rfl rfl rfl ?_
    refine LtK.skip rfl rfl rfl ?_
    refine LtK.skip rfl rfl rfl ?_
    refine LtK.skip rfl rfl rfl ?_
    refine LtK.skip rfl rfl rfl ?_
    refine LtK.skip rfl rfl rfl ?_
    refine LtK.nil ?_
    refine wpR_call [false, false, false, false, false, false, false, false, false, false, false, false, false, false, false, false, false, false, false, false, false, false, false, false, false, false, false, false, true] 28 ⟨by decide, by kernel_rfl, by kernel_rfl⟩ rfl rfl ?_
    dsimp only [pickL]
    refine wpS_skip rfl rfl rfl ?_
    refine wpS_nil ?_
    refine QH_step (Below.refl _ _) ?_
    refine wpR_batch [false, false, false, false, false, false, false, false, false, false, false, false, false, false, false, false, false, false, false, false, false, false, false, false, false, false, false, false, false, true, true] (by decide +kernel) (by repeat (first | exact PF.body | exact PF.round | apply PF.then | apply PF.inBlock | apply PF.jump)) ?_
    refine LtK.skip rfl rfl rfl ?_
    refine LtK.put rfl rfl rfl (yv_pick_t rfl rfl rfl) ?_
    refine LtK.nil ?_
    refine wpR_end (by kernel_rfl) ?_
    refine QH_seq_k hK185 ?_
    refine wpC_cond_t rfl rfl ?_
    refine wpC_seq_k (fun K hK186 => ?_)
    refine wpC_region ?_
    refine wpS_quick 1 rfl ?_
    refine wpS_nil ?_
    refine QH_seq_k hK186 ?_
    refine wpC_ret ?_
    refine QH_then_ret ?_
    refine QH_block_ret ?_
    refine QH_then_ret ?_
    refine QH_then_ret ?_
    refine QH_block_ret ?_
    refine QH_then_ret ?_
    refine QH_ret rfl (RV.tmp rfl RV.nil) rfl ?_
    obtain rfl := Option.some.inj H
    replace hS := hS.cut 0
    exact ⟨rfl, hS⟩
  replace H := cond_f H hb
  refine wpR_batch [false, false, false, true, true, true, true, true, true, true, true] (by decide +kernel) (by repeat (first | exact PF.body | exact PF.round | apply PF.then | apply PF.inBlock | apply PF.jump)) ?_
  refine LtK.put rfl rfl rfl (yv_fieldAddr fo_30_5 rfl) ?_
  refine LtK.put rfl rfl rfl (yv_load_box sc_3 rfl (RW.below _) hS hs24 trivial sg12_1) ?_
  refine LtK.put rfl rfl rfl (yv_fieldAddr fo_30_5 rfl) ?_
  refine LtK.put rfl rfl rfl (yv_load_box sc_3 rfl (RW.below _) hS hs10 trivial sg12_1) ?_
  refine LtK.put rfl rfl rfl (yx_add rfl rfl) ?_
  refine LtK.put rfl rfl rfl (yv_neq rfl rfl) ?_
  refine LtK.put rfl rfl rfl (yv_pick_f rfl rfl rfl) ?_
  refine LtK.put rfl rfl rfl (yv_move rfl) ?_
  refine LtK.nil ?_
  refine wpR_case 75 rfl (fun hb => ?_) (fun hb => ?_)
  · replace H := cond_t H hb
    refine wpR_batch [false, false, false, false, false, false, false, false, false, false, false, true, true, true, true, true, true, true, true, true, true, true, true, true, true, true, true, true] (by decide +kernel) (by repeat (first | exact PF.body | exact PF.round | apply PF.then | apply PF.inBlock | apply PF.jump)) ?_
    refine LtK.skip rfl rfl rfl ?_
    refine LtK.skip rfl rfl rfl ?_
    refine LtK.skip rfl rfl rfl ?_
    refine LtK.skip rfl rfl rfl ?_
    refine LtK.skip rfl rfl rfl ?_
    refine LtK.skip rfl rfl rfl ?_
    refine LtK.put rfl rfl rfl (yv_pick_t rfl rfl rfl) ?_
    refine LtK.put rfl rfl rfl (yv_move rfl) ?_
    refine LtK.skip rfl rfl rfl ?_
    refine LtK.skip rfl rfl rfl ?_
    refine LtK.skip rfl rfl rfl ?_
    refine LtK.skip rfl rfl rfl ?_
    refine LtK.skip rfl rfl rfl ?_
    refine LtK.skip rfl rfl rfl ?_
    refine LtK.skip rfl rfl rfl ?_
    refine LtK.skip rfl rfl rfl ?_
    refine LtK.skip rfl rfl rfl ?_
    refine LtK.nil ?_
    refine wpR_call [false, false, false, false, false, false, false, false, false, false, false, false, false, false, false, false, false, false, false, false, false, false, false, false, false, false, false, false, true] 28 ⟨by decide, by kernel_rfl, by kernel_rfl⟩ rfl rfl ?_
    dsimp only [pickL]
    refine wpS_skip rfl rfl rfl ?_
    refine wpS_nil ?_
    refine QH_step (Below.refl _ _) ?_
    refine wpR_batch [false, false, false, false, false, false, false, false, false, false, false, false, false, false, false, false, false, false, false, false, false, false, false, false, false, false, false, false, false, true, true] (by decide +kernel) (by repeat (first | exact PF.body | exact PF.round | apply PF.then | apply PF.inBlock | apply PF.jump)) ?_
    refine LtK.skip rfl rfl rfl ?_
    refine LtK.put rfl rfl rfl (yv_pick_t rfl rfl rfl) ?_
    refine LtK.nil ?_
    refine wpR_end (by kernel_rfl) ?_
    refine QH_seq_k hK185 ?_
    refine wpC_cond_t rfl rfl ?_
    refine wpC_seq_k (fun K hK187 => ?_)
    refine wpC_region ?_
    refine wpS_quick 1 rfl ?_
    refine wpS_nil ?_
    refine QH_seq_k hK187 ?_
    refine wpC_ret ?_
    refine QH_then_ret ?_
    refine QH_block_ret ?_
    refine QH_then_ret ?_
    refine QH_then_ret ?_
    refine QH_block_ret ?_
    refine QH_then_ret ?_
    refine QH_ret rfl (RV.tmp rfl RV.nil) rfl ?_
    obtain rfl := Option.some.inj H
    replace hS := hS.cut 0
    exact ⟨rfl, hS⟩
  replace H := cond_f H hb
  refine wpR_batch [false, false, false, false, false, false, false, false, false, false, false, true, true, true, true, true, true, true, true] (by decide +kernel) (by repeat (first | exact PF.body | exact PF.round | apply PF.then | apply PF.inBlock | apply PF.jump)) ?_
  refine LtK.put rfl rfl rfl (yv_fieldAddr fo_30_6 rfl) ?_
  refine LtK.put rfl rfl rfl (yv_fieldAddr fo_23_0 rfl) ?_
  refine LtK.put rfl rfl rfl (yv_load_box sc_3 rfl (RW.below _) hS hs24 trivial sg13_1) ?_
  refine LtK.put rfl rfl rfl (yv_fieldAddr fo_30_5 rfl) ?_
  refine LtK.put rfl rfl rfl (yv_load_box sc_3 rfl (RW.below _) hS hs24 trivial sg12_1) ?_
  refine LtK.put rfl rfl rfl (yv_neq rfl rfl) ?_
  refine LtK.put rfl rfl rfl (yv_pick_f rfl rfl rfl) ?_
  refine LtK.put rfl rfl rfl (yv_move rfl) ?_
  refine LtK.nil ?_
  refine wpR_case 83 rfl (fun hb => ?_) (fun hb => ?_)
  · replace H := cond_t H hb
    refine wpR_batch [false, false, false, false, false, false, false, false, false, false, false, false, false, false, false, false, false, false, false, true, true, true, true, true, true, true, true, true] (by decide +kernel) (by repeat (first | exact PF.body | exact PF.round | apply PF.then | apply PF.inBlock | apply PF.jump)) ?_
    refine LtK.skip rfl rfl rfl ?_
    refine LtK.skip rfl rfl rfl ?_
    refine LtK.skip rfl rfl rfl ?_
    refine LtK.skip rfl rfl rfl ?_
    refine LtK.skip rfl rfl rfl ?_
    refine LtK.skip rfl rfl rfl ?_
    refine LtK.skip rfl rfl rfl ?_
    refine LtK.skip rfl rfl rfl ?_
    refine LtK.skip rfl rfl rfl ?_
    refine LtK.nil ?_
    refine wpR_call [false, false, false, false, false, false, false, false, false, false, false, false, false, false, false, false, false, false, false, false, false, false, false, false, false, false, false, false, true] 28 ⟨by decide, by kernel_rfl, by kernel_rfl⟩ rfl rfl ?_
    dsimp only [pickL]
    refine wpS_skip rfl rfl rfl ?_
    refine wpS_nil ?_
    refine QH_step (Below.refl _ _) ?_
    refine wpR_batch [false, false, false, false, false, false, false, false, false, false, false, false, false, false, false, false, false, false, false, false, false, false, false, false, false, false, false, false, false, true, true] (by decide +kernel) (by repeat (first | exact PF.body | exact PF.round | apply PF.then | apply PF.inBlock | apply PF.jump)) ?_
    refine LtK.skip rfl rfl rfl ?_
    refine LtK.put rfl rfl rfl (yv_pick_t rfl rfl rfl) ?_
    refine LtK.nil ?_
    refine wpR_end (by kernel_rfl) ?_
    refine QH_seq_k hK185 ?_
    refine wpC_cond_t rfl rfl ?_
    refine wpC_seq_k (fun K hK188 => ?_)
    refine wpC_region ?_
    refine wpS_quick 1 rfl ?_
    refine wpS_nil ?_
    refine QH_seq_k hK188 ?_
    refine wpC_ret ?_
    refine QH_then_ret ?_
    refine QH_block_ret ?_
    refine QH_then_ret ?_
    refine QH_then_ret ?_
    refine QH_block_ret ?_
    refine QH_then_ret ?_
    refine QH_ret rfl (RV.tmp rfl RV.nil) rfl ?_
    obtain rfl := Option.some.inj H
    replace hS := hS.cut 0
    exact ⟨rfl, hS⟩
  replace H := cond_f H hb
  refine wpR_batch [false, false, false, false, false, false, false, false, false, false, false, false, false, false, false, false, false, false, false, true, true, true, true, true, true, true, true, true] (by decide +kernel) (by repeat (first | exact PF.body | exact PF.round | apply PF.then | apply PF.inBlock | apply PF.jump)) ?_
  refine LtK.put rfl rfl rfl (yv_fieldAddr fo_30_6 rfl) ?_
  refine LtK.put rfl rfl rfl (yv_load_boxA ag_23 rfl (RW.below _) hS hs24 trivial sg13_5) ?_
  refine LtK.put rfl rfl rfl (yv_fieldAddr fo_30_6 rfl) ?_
  refine LtK.put rfl rfl rfl (yv_load_boxA ag_23 rfl (RW.below _) hS hs10 trivial sg13_5) ?_
  refine LtK.put rfl rfl rfl (yv_move rfl) ?_
  refine LtK.put rfl rfl rfl (yv_move rfl) ?_
  obtain ⟨e189, hi191, H⟩ := bind_some H
  obtain ⟨j190, hi191a, hi191b, hi191c⟩ := idx_some hi191
  refine LtK.put rfl rfl rfl (yx_idx el_28 rfl rfl hi191a hi191c (Rd.el (hS.rd0 s0_.rd) he_enI hi191b)) ?_
  refine LtK.put rfl rfl rfl (yx_ld0 sc_3 rfl (RW.below _) (Rd.el (hS.rd0 s0_.rd) he_enI hi191b) rfl) ?_
  refine LtK.put rfl rfl rfl (yv_build (cells := [.int .i64 1, .int .i64 1, .int .i64 e189]) rfl (by kernel_rfl)) ?_
  refine LtK.nil ?_
  refine wpR_call [false, false, false, false, false, false, false, false, false, false, false, false, false, false, false, false, false, false, false, false, false, false, false, false, false, false, false, false, true] 28 ⟨by decide, by kernel_rfl, by kernel_rfl⟩ rfl rfl ?_
  dsimp only [pickL]
  obtain ⟨r192, hm193, H⟩ := bind_some H
  refine wpS_call rfl rfl rfl rfl (by kernel_rfl) rfl (c_ref06_Next (⟨v117, v118, v119, v120, v121⟩ : St) (⟨1, 1, e189⟩ : En) _ hm193) ?_
  rintro e w ⟨rfl, hN⟩; refine ⟨_, rfl, ?_⟩; have hB := hN.pure; have hS := hS.join hN; clear hN
  refine wpS_nil ?_
  refine QH_step hB ?_
  refine wpR_batch [false, false, false, false, false, false, false, false, false, false, false, false, false, false, false, false, false, false, false, false, false, false, false, false, false, false, false, false, false, true, true] (by decide +kernel) (by repeat (first | exact PF.body | exact PF.round | apply PF.then | apply PF.inBlock | apply PF.jump)) ?_
  refine LtK.put rfl rfl rfl (yv_neqS (by kernel_rfl) rfl rfl (eqT_23 _ _ _ _ _ _ _ _ _ _)) ?_
  refine LtK.put rfl rfl rfl (yv_pick_f rfl rfl rfl) ?_
  refine LtK.nil ?_
  refine wpR_end (by kernel_rfl) ?_
  refine QH_seq_k hK185 ?_
  refine wpC_cond rfl (fun hb => ?_) (fun hb => ?_)
  · replace H := cond_t H hb
    refine wpC_seq_k (fun K hK194 => ?_)
    refine wpC_region ?_
    refine wpS_quick 1 rfl ?_
    refine wpS_nil ?_
    refine QH_seq_k hK194 ?_
    refine wpC_ret ?_
    refine QH_then_ret ?_
    refine QH_block_ret ?_
    refine QH_then_ret ?_
    refine QH_then_ret ?_
    refine QH_block_ret ?_
    refine QH_then_ret ?_
    refine QH_ret rfl (RV.tmp rfl RV.nil) rfl ?_
    obtain rfl := Option.some.inj H
    replace hS := hS.cut 0
    exact ⟨rfl, hS⟩
  replace H := cond_f H hb
  refine wpC_skip ?_
  refine QH_seq_k hK184 ?_
  refine wpC_region ?_
  refine wpS_put rfl rfl rfl (yv_load_boxA ag_30 rfl (RW.here _) hS hs24 trivial sg0_22) ?_
  refine wpS_store rfl rfl rfl CellsOf.agg hS ps10 st0_22 (by kernel_rfl) rfl (fun w hS hB => ?_)
  refine wpS_nil ?_
  refine QH_block_normal ?_
  refine QH_seq_k hK140 ?_
  refine wpC_region ?_
  refine wpS_quick 1 rfl ?_
  refine wpS_put rfl rfl rfl (yx_add rfl rfl) ?_
  refine wpS_quick 1 rfl ?_
  refine wpS_nil ?_
  replace hS := hS.front 23 rfl
  replace hS := hS.front 23 rfl
  replace hS := hS.front 23 rfl
  replace hS := hS.front 23 rfl
  replace hS := hS.front 23 rfl
  replace hS := hS.front 23 rfl
  replace hS := hS.front 23 rfl
  replace hS := hS.front 23 rfl
  replace hS := hS.front 23 rfl
  replace hS := hS.front 23 rfl
  replace hS := hS.front 23 rfl
  replace hS := hS.front 23 rfl
  replace hS := hS.front 23 rfl
  replace hS := hS.front 23 rfl
  replace hS := hS.front 18 rfl
  replace hS := hS.front 18 rfl
  replace hS := hS.front 18 rfl
  replace hS := hS.front 18 rfl
  replace hS := hS.front 18 rfl
  replace hS := hS.cut 19
  exact QH_again (n, v99, (IntKind.wrap .i64 (v100 + 1)), r159.1.id, r159.1.n, r159.1.role, r159.1.binary, r159.1.tuple.snap.index, r159.1.tuple.snap.term, r159.1.tuple.snap.sum, r159.1.tuple.snap.level, r159.1.tuple.snap.final, r159.1.tuple.log, A161, c162, r159.1.tuple.term, r159.1.tuple.vote, r159.1.commit, r159.1.applied.index, r159.1.applied.term, r159.1.applied.sum, r159.1.applied.level, r159.1.applied.final, r159.1.votes, A165, c166, r159.1.next, A169, c170, r159.1.mtch, A173, c174, r159.1.caps, A177, c178) (by repeat (first | exact Sub.nil | refine Sub.cons rfl ?_)) ⟨hS, k163, k167, k171, k175, k179, H⟩ (Nat.lt_succ_self _)
end Go.Proofs.YtenagnncpaabdaaGreat
