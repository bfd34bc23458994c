/- Texts of one claim put together: what its walks share. -/
import Derived.Test.YtohkkncfofomdaaMh1
import Derived.Test.YtohkkncfofomdaaMh2
import Derived.Test.YtohkkncfofomdaaMh3
/- What functions compute, in plain terms, and that they do; printed. -/
namespace Go.Proofs.Ytohkkncfofomdaa
open Go Go.RowKit
set_option maxRecDepth 100000
set_option maxHeartbeats 4000000
theorem c_msg_each (x0 : List Int) (x1 : Int) (x2 : Int) (x3 : Int) (A0_ : Option Addr) (c0_ : Nat) (w0 : World) (s0_ : SlI w0 enI A0_ c0_ x0) {r : Bool} (H : m_msg_each x0 x1 x2 x3 = some r) : Calls Try.prog 52 #[.slice A0_ x0.length c0_, .int .i64 x1, .int .i64 x2, .int .i64 x3] w0 fun e w' => e = .returned (.bool r) ∧ St0 All w0 w' [] := by
  unfold m_msg_each at H
  refine gw_enter4 Try.func52 rfl Try.ntmps52 rfl ?_
  have hS := St0.start All w0
  refine wpC_seq_k (fun K hK1 => ?_)
  refine wpC_region ?_
  refine wpS_box rfl rfl rfl CellsOf.int hS (fun b2 w hS hB => ?_)
  refine wpS_box rfl rfl rfl CellsOf.int hS (fun b4 w hS hB => ?_)
  refine wpS_quick 1 rfl ?_
  refine wpS_nil ?_
  refine QH_seq_k hK1 ?_
  refine wpC_seq_k (fun K hK6 => ?_)
  refine wpC_region ?_
  refine wpS_quick 1 rfl ?_
  refine wpS_put rfl rfl rfl (yv_len el_30 rfl) ?_
  refine wpS_quick 1 rfl ?_
  refine wpS_put rfl rfl rfl (yv_eql rfl rfl) ?_
  refine wpS_quick 1 rfl ?_
  refine wpS_case 13 rfl (fun hb => ?_) (fun hb => ?_)
  rotate_left
  · replace H := cond_f H hb
    refine wpS_quick 6 rfl ?_
    refine wpS_nil ?_
    refine QH_seq_k hK6 ?_
    refine wpC_ret ?_
    refine QH_ret rfl (RV.tmp rfl RV.nil) rfl ?_
    obtain rfl := Option.some.inj H
    replace hS := hS.cut 0
    exact ⟨rfl, hS⟩
  replace H := cond_t H hb
  refine wpS_quick 1 rfl ?_
  refine wpS_put rfl rfl rfl (yv_makeFunc rfl rfl) ?_
  refine wpS_in rfl rfl rfl rfl (by kernel_rfl) rfl ?_
  show Calls _ _ #[_, _] _ _
  refine gw_enter2 Try.func86 rfl Try.ntmps86 rfl ?_
  refine wpC_seq_k (fun K hK7 => ?_)
  refine wpC_region ?_
  refine wpS_quick 1 rfl ?_
  refine wpS_nil ?_
  refine QH_seq_k hK7 ?_
  refine wpC_seq_k (fun K hK8 => ?_)
  refine wpC_region ?_
  refine wpS_quick 2 rfl ?_
  refine wpS_in rfl rfl rfl rfl (by kernel_rfl) rfl ?_
  show Calls _ _ #[_, _] _ _
  refine gw_enter2 Try.func102 rfl Try.ntmps102 rfl ?_
  refine wpC_seq_k (fun K hK9 => ?_)
  refine wpC_region ?_
  refine wpS_quick 1 rfl ?_
  refine wpS_nil ?_
  refine QH_seq_k hK9 ?_
  refine wpC_seq_k (fun K hK10 => ?_)
  refine wpC_seq_k (fun K hK11 => ?_)
  refine wpC_region ?_
  refine wpS_quick 1 rfl ?_
  refine wpS_put rfl rfl rfl (yv_len el_30 rfl) ?_
  refine wpS_quick 1 rfl ?_
  refine wpS_nil ?_
  refine QH_seq_k hK11 ?_
  refine wpC_block ?_
  refine wpC_loop (X := Nat × Int × Int) (fun x => (0, .slice A0_ x0.length c0_) :: (1, .func (.func 87) #[] #[.pointer (some ⟨b2, 0, none⟩), .pointer (some ⟨b4, 0, none⟩)]) :: (4, .int .i64 x.2.1) :: (7, .int .i64 (x0.length : Int)) :: (8, .int .i64 x.2.2) :: []) (fun x w => St0 All w0 w (.box b4 [.int .i64 x3] 3 :: .box b2 [.int .i64 x2] 3 :: []) ∧ m_msg_each_l1 x0 x2 x3 x.1 x.2.1 x.2.2 = some r) (fun x => x.1) (fuelN, 0, 0) (by repeat (first | exact Sub.nil | refine Sub.cons rfl ?_)) ⟨hS, H⟩ ?_
  rintro ⟨n, v12, v13⟩ w ⟨hS, H⟩
  dsimp only at hS H ⊢
  obtain _ | n := n
  · have H0 : none = some r := H
    cases H0
  rw [m_msg_each_l1] at H
  refine wpC_seq_k (fun K hK14 => ?_)
  refine wpC_region ?_
  refine wpS_put rfl rfl rfl (yv_lss rfl rfl) ?_
  refine wpS_nil ?_
  refine QH_seq_k hK14 ?_
  refine wpC_seq_k (fun K hK15 => ?_)
  refine wpC_cond rfl (fun hb => ?_) (fun hb => ?_)
  rotate_left
  · replace H := cond_f H hb
    refine wpC_exit ?_
    refine QH_then_exit ?_
    refine QH_then_exit ?_
    refine QH_block_hit ?_
    refine QH_seq_k hK10 ?_
    refine wpC_seq_k (fun K hK27 => ?_)
    refine wpC_region ?_
    refine wpS_quick 1 rfl ?_
    refine wpS_nil ?_
    refine QH_seq_k hK27 ?_
    refine wpC_ret ?_
    refine QH_ret rfl (RV.tmp rfl RV.nil) rfl ?_
    refine ⟨_, rfl, ?_⟩
    refine wpS_put rfl rfl rfl (yv_geq rfl rfl) ?_
    refine wpS_quick 1 rfl ?_
    refine wpS_nil ?_
    refine QH_seq_k hK8 ?_
    refine wpC_ret ?_
    refine QH_ret rfl (RV.tmp rfl RV.nil) rfl ?_
    refine ⟨_, rfl, ?_⟩
    refine wpS_put rfl rfl rfl (yv_not rfl) ?_
    refine wpS_quick 2 rfl ?_
    refine wpS_nil ?_
    refine QH_seq_k hK6 ?_
    refine wpC_ret ?_
    refine QH_ret rfl (RV.tmp rfl RV.nil) rfl ?_
    obtain rfl := Option.some.inj H
    replace hS := hS.cut 0
    exact ⟨rfl, hS⟩
  replace H := cond_t H hb
  refine wpC_skip ?_
  refine QH_seq_k hK15 ?_
  refine wpC_seq_k (fun K hK16 => ?_)
  refine wpC_block ?_
  refine wpC_seq_k (fun K hK17 => ?_)
  refine wpC_region ?_
  refine wpS_quick 2 rfl ?_
  refine wpS_nil ?_
  refine QH_seq_k hK17 ?_
  refine wpC_seq_k (fun K hK18 => ?_)
  refine wpC_region ?_
  refine wpS_quick 3 rfl ?_
  obtain ⟨e19, hi21, H⟩ := bind_some H
  obtain ⟨j20, hi21a, hi21b, hi21c⟩ := idx_some hi21
  refine wpS_put rfl rfl rfl (yx_idx el_30 rfl rfl hi21a hi21c (Rd.el (hS.rd0 s0_.rd) he_enI hi21b)) ?_
  refine wpS_put rfl rfl rfl (yx_ld0 sc_3 rfl (RW.here _) (Rd.el (hS.rd0 s0_.rd) he_enI hi21b) rfl) ?_
  refine wpS_in rfl rfl rfl rfl (by kernel_rfl) rfl ?_
  show Calls _ _ #[_, _, _] _ _
  refine gw_enter3 Try.func87 rfl Try.ntmps87 rfl ?_
  refine wpC_seq_k (fun K hK22 => ?_)
  refine wpC_region ?_
  refine wpS_quick 1 rfl ?_
  refine wpS_nil ?_
  refine QH_seq_k hK22 ?_
  refine wpC_seq_k (fun K hK23 => ?_)
  refine wpC_region ?_
  refine wpS_quick 1 rfl ?_
  refine wpS_put rfl rfl rfl (yv_load_box sc_3 rfl (RW.here _) hS hs1 trivial sg0_1) ?_
  refine wpS_put rfl rfl rfl (yv_load_box sc_3 rfl (RW.here _) hS hs0 trivial sg0_1) ?_
  obtain ⟨r24, hm25, H⟩ := bind_some H
  refine wpS_call rfl rfl rfl rfl (by kernel_rfl) rfl (c_msg_within e19 x2 x3 _ hm25) ?_
  rintro e w ⟨rfl, hN⟩; refine ⟨_, rfl, ?_⟩; have hB := hN.pure; have hS := hS.join hN; clear hN
  refine wpS_put rfl rfl rfl (yv_not rfl) ?_
  refine wpS_quick 1 rfl ?_
  refine wpS_nil ?_
  refine QH_seq_k hK23 ?_
  refine wpC_ret ?_
  refine QH_ret rfl (RV.tmp rfl RV.nil) rfl ?_
  refine ⟨_, rfl, ?_⟩
  refine wpS_nil ?_
  refine QH_seq_k hK18 ?_
  refine wpC_cond rfl (fun hb => ?_) (fun hb => ?_)
  rotate_left
  · replace H := cond_f H hb
    refine wpC_skip ?_
    refine QH_block_normal ?_
    refine QH_seq_k hK16 ?_
    refine wpC_region ?_
    refine wpS_put rfl rfl rfl (yx_add rfl rfl) ?_
    refine wpS_quick 1 rfl ?_
    refine wpS_nil ?_
    exact QH_again (n, v12, (IntKind.wrap .i64 (v13 + 1))) (by repeat (first | exact Sub.nil | refine Sub.cons rfl ?_)) ⟨hS, H⟩ (Nat.lt_succ_self _)
  replace H := cond_t H hb
  refine wpC_seq_k (fun K hK26 => ?_)
  refine wpC_region ?_
  refine wpS_quick 2 rfl ?_
  refine wpS_nil ?_
  refine QH_seq_k hK26 ?_
  refine wpC_ret ?_
  refine QH_block_ret ?_
  refine QH_then_ret ?_
  refine QH_then_ret ?_
  refine QH_block_ret ?_
  refine QH_then_ret ?_
  refine QH_ret rfl (RV.tmp rfl RV.nil) rfl ?_
  refine ⟨_, rfl, ?_⟩
  refine wpS_put rfl rfl rfl (yv_geq rfl rfl) ?_
  refine wpS_quick 1 rfl ?_
  refine wpS_nil ?_
  refine QH_seq_k hK8 ?_
  refine wpC_ret ?_
  refine QH_ret rfl (RV.tmp rfl RV.nil) rfl ?_
  refine ⟨_, rfl, ?_⟩
  refine wpS_put rfl rfl rfl (yv_not rfl) ?_
  refine wpS_quick 2 rfl ?_
  refine wpS_nil ?_
  refine QH_seq_k hK6 ?_
  refine wpC_ret ?_
  refine QH_ret rfl (RV.tmp rfl RV.nil) rfl ?_
  obtain rfl := Option.some.inj H
  replace hS := hS.cut 0
  exact ⟨rfl, hS⟩
theorem c_msg_Right (x0 : Co) (A0_ : Option Addr) (c0_ : Nat) (A1_ : Option Addr) (c1_ : Nat) (A2_ : Option Addr) (c2_ : Nat) (A3_ : Option Addr) (c3_ : Nat) (A4_ : Option Addr) (c4_ : Nat) (w0 : World) (s0_ : SlI w0 enE A0_ c0_ x0.tuple.log) (s1_ : SlI w0 enO A1_ c1_ x0.votes) (s2_ : SlI w0 enI A2_ c2_ x0.next) (s3_ : SlI w0 enI A3_ c3_ x0.mtch) (s4_ : SlI w0 enI A4_ c4_ x0.caps) {r : Bool} (H : m_msg_Right x0 = some r) : Calls Try.prog 14 #[.agg #[.int .i64 x0.id, .int .i64 x0.n, .int .u8 x0.role, .int .i64 x0.binary, .int .i64 x0.tuple.snap.index, .int .i64 x0.tuple.snap.term, .int .i64 x0.tuple.snap.sum, .int .i64 x0.tuple.snap.level, .bool x0.tuple.snap.final, .slice A0_ x0.tuple.log.length c0_, .int .i64 x0.tuple.term, .int .i64 x0.tuple.vote, .int .i64 x0.commit, .int .i64 x0.applied.index, .int .i64 x0.applied.term, .int .i64 x0.applied.sum, .int .i64 x0.applied.level, .bool x0.applied.final, .slice A1_ x0.votes.length c1_, .slice A2_ x0.next.length c2_, .slice A3_ x0.mtch.length c3_, .slice A4_ x0.caps.length c4_]] w0 fun e w' => e = .returned (.bool r) ∧ St0 All w0 w' [] := by
  unfold m_msg_Right at H
  refine gw_enter1 Try.func14 rfl Try.ntmps14 rfl ?_
  have hS := St0.start All w0
  refine wpC_seq_k (fun K hK1 => ?_)
  refine wpC_region ?_
  refine wpS_box rfl rfl rfl CellsOf.agg hS (fun b2 w hS hB => ?_)
  refine wpS_quick 1 rfl ?_
  refine wpS_nil ?_
  refine QH_seq_k hK1 ?_
  refine wpC_seq_k (fun K hK4 => ?_)
  refine wpC_region ?_
  refine wpS_put rfl rfl rfl (yv_fieldAddr fo_32_4 rfl) ?_
  refine wpS_put rfl rfl rfl (yv_load_boxA ag_26 rfl (RW.here _) hS hs0 trivial sg4_8) ?_
  obtain ⟨r5, hm6, H⟩ := bind_some H
  refine wpS_call rfl rfl rfl rfl (by kernel_rfl) rfl (c_tuple_Last x0.tuple A0_ c0_ _ (SlI.of_rd s0_.k (hS.rd0 s0_.rd) (hS.blk0 s0_.blk)) hm6) ?_
  rintro e w ⟨rfl, hN⟩; refine ⟨_, rfl, ?_⟩; have hB := hN.pure; have hS := hS.join hN; clear hN
  refine wpS_alloc rfl rfl zc_3 hS (fun b7 w hS hB => ?_)
  refine wpS_store rfl rfl rfl CellsOf.int hS ps0 st0_1 (by kernel_rfl) rfl (fun w hS hB => ?_)
  refine wpS_nil ?_
  refine QH_seq_k hK4 ?_
  refine wpC_seq_k (fun K hK9 => ?_)
  refine wpC_seq_k (fun K hK10 => ?_)
  refine wpC_region ?_
  refine wpS_put rfl rfl rfl (yv_makeFunc rfl rfl) ?_
  refine wpS_put rfl rfl rfl (yv_makeFunc rfl rfl) ?_
  refine wpS_put rfl rfl rfl (yv_makeFunc rfl rfl) ?_
  refine wpS_put rfl rfl rfl (yv_makeFunc rfl rfl) ?_
  refine wpS_put rfl rfl rfl (yv_makeFunc rfl rfl) ?_
  refine wpS_put rfl rfl rfl (yv_makeFunc rfl rfl) ?_
  refine wpS_put rfl rfl rfl (yv_build (cells := [.func (.func 46) #[] #[.pointer (some ⟨b2, 0, none⟩)], .func (.func 47) #[] #[.pointer (some ⟨b2, 0, none⟩)], .func (.func 49) #[] #[.pointer (some ⟨b2, 0, none⟩)], .func (.func 51) #[] #[.pointer (some ⟨b2, 0, none⟩), .pointer (some ⟨b7, 0, none⟩)], .func (.func 53) #[] #[.pointer (some ⟨b2, 0, none⟩)], .func (.func 54) #[] #[.pointer (some ⟨b2, 0, none⟩)]]) rfl (by kernel_rfl)) ?_
  refine wpS_quick 1 rfl ?_
  refine wpS_nil ?_
  refine QH_seq_k hK10 ?_
  refine wpC_block ?_
  refine wpC_rounds 60 ?_
  refine wpC_seq_k (fun K hK11 => ?_)
  refine wpC_region ?_
  refine wpS_put rfl rfl rfl (yv_lss rfl rfl) ?_
  refine wpS_nil ?_
  refine QH_seq_k hK11 ?_
  refine wpC_seq_k (fun K hK12 => ?_)
  refine wpC_cond_t rfl rfl ?_
  refine wpC_skip ?_
  refine QH_seq_k hK12 ?_
  refine wpC_seq_k (fun K hK13 => ?_)
  refine wpC_block ?_
  refine wpC_seq_k (fun K hK14 => ?_)
  refine wpC_region ?_
  refine wpS_put rfl rfl rfl (yx_index (n := 6) (e := 28) (j := 0) (by kernel_rfl) (by kernel_rfl) (by kernel_rfl) rfl rfl rfl (by decide) rfl) ?_
  refine wpS_quick 1 rfl ?_
  refine wpS_nil ?_
  refine QH_seq_k hK14 ?_
  refine wpC_seq_k (fun K hK15 => ?_)
  refine wpC_region ?_
  refine wpS_quick 1 rfl ?_
  refine wpS_in rfl rfl rfl rfl (by kernel_rfl) rfl ?_
  show Calls _ _ #[_] _ _
  refine gw_enter1 Try.func46 rfl Try.ntmps46 rfl ?_
  refine wpC_seq_k (fun K hK16 => ?_)
  refine wpC_region ?_
  refine wpS_quick 1 rfl ?_
  refine wpS_nil ?_
  refine QH_seq_k hK16 ?_
  refine wpC_seq_k (fun K hK17 => ?_)
  refine wpC_region ?_
  refine wpS_put rfl rfl rfl (yv_fieldAddr fo_32_1 rfl) ?_
  refine wpS_put rfl rfl rfl (yv_load_box sc_3 rfl (RW.here _) hS hs1 trivial sg1_1) ?_
  obtain ⟨r18, hm19, H⟩ := bind_some H
  refine wpS_call rfl rfl rfl rfl (by kernel_rfl) rfl (c_msg_within x0.n 1 5 _ hm19) ?_
  rintro e w ⟨rfl, hN⟩; refine ⟨_, rfl, ?_⟩; have hB := hN.pure; have hS := hS.join hN; clear hN
  refine wpS_quick 1 rfl ?_
  refine wpS_case 5 rfl (fun hb => ?_) (fun hb => ?_)
  rotate_left
  · replace H := cond_f H hb
    refine wpS_quick 7 rfl ?_
    refine wpS_nil ?_
    refine QH_seq_k hK17 ?_
    refine wpC_ret ?_
    refine QH_ret rfl (RV.tmp rfl RV.nil) rfl ?_
    refine ⟨_, rfl, ?_⟩
    refine wpS_put rfl rfl rfl (yv_not rfl) ?_
    refine wpS_nil ?_
    refine QH_seq_k hK15 ?_
    refine wpC_cond_t rfl rfl ?_
    refine wpC_seq_k (fun K hK94 => ?_)
    refine wpC_region ?_
    refine wpS_quick 1 rfl ?_
    refine wpS_nil ?_
    refine QH_seq_k hK94 ?_
    refine wpC_ret ?_
    refine QH_block_ret ?_
    refine QH_then_ret ?_
    refine QH_then_ret ?_
    refine QH_block_ret ?_
    refine QH_then_ret ?_
    refine QH_ret rfl (RV.tmp rfl RV.nil) rfl ?_
    obtain rfl := Option.some.inj H
    replace hS := hS.cut 0
    exact ⟨rfl, hS⟩
  replace H := cond_t H hb
  refine wpS_put rfl rfl rfl (yv_fieldAddr fo_32_0 rfl) ?_
  refine wpS_put rfl rfl rfl (yv_load_box sc_3 rfl (RW.here _) hS hs1 trivial sg0_1) ?_
  refine wpS_put rfl rfl rfl (yv_fieldAddr fo_32_1 rfl) ?_
  refine wpS_put rfl rfl rfl (yv_load_box sc_3 rfl (RW.here _) hS hs1 trivial sg1_1) ?_
  obtain ⟨r20, hm21, H⟩ := bind_some H
  refine wpS_call rfl rfl rfl rfl (by kernel_rfl) rfl (c_msg_within x0.id 1 x0.n _ hm21) ?_
  rintro e w ⟨rfl, hN⟩; refine ⟨_, rfl, ?_⟩; have hB := hN.pure; have hS := hS.join hN; clear hN
  refine wpS_quick 2 rfl ?_
  refine wpS_nil ?_
  refine QH_seq_k hK17 ?_
  refine wpC_ret ?_
  refine QH_ret rfl (RV.tmp rfl RV.nil) rfl ?_
  refine ⟨_, rfl, ?_⟩
  refine wpS_put rfl rfl rfl (yv_not rfl) ?_
  refine wpS_nil ?_
  refine QH_seq_k hK15 ?_
  refine wpC_cond rfl (fun hb => ?_) (fun hb => ?_)
  · replace H := cond_t H hb
    refine wpC_seq_k (fun K hK22 => ?_)
    refine wpC_region ?_
    refine wpS_quick 1 rfl ?_
    refine wpS_nil ?_
    refine QH_seq_k hK22 ?_
    refine wpC_ret ?_
    refine QH_block_ret ?_
    refine QH_then_ret ?_
    refine QH_then_ret ?_
    refine QH_block_ret ?_
    refine QH_then_ret ?_
    refine QH_ret rfl (RV.tmp rfl RV.nil) rfl ?_
    obtain rfl := Option.some.inj H
    replace hS := hS.cut 0
    exact ⟨rfl, hS⟩
  replace H := cond_f H hb
  refine wpC_skip ?_
  refine QH_block_normal ?_
  refine QH_seq_k hK13 ?_
  refine wpC_region ?_
  refine wpS_put rfl rfl rfl (yx_add rfl rfl) ?_
  refine wpS_quick 1 rfl ?_
  refine wpS_nil ?_
  refine QH_more ?_
  refine wpC_seq_k (fun K hK23 => ?_)
  refine wpC_region ?_
  refine wpS_put rfl rfl rfl (yv_lss rfl rfl) ?_
  refine wpS_nil ?_
  refine QH_seq_k hK23 ?_
  refine wpC_seq_k (fun K hK24 => ?_)
  refine wpC_cond_t rfl rfl ?_
  refine wpC_skip ?_
  refine QH_seq_k hK24 ?_
  refine wpC_seq_k (fun K hK25 => ?_)
  refine wpC_block ?_
  refine wpC_seq_k (fun K hK26 => ?_)
  refine wpC_region ?_
  refine wpS_put rfl rfl rfl (yx_index (n := 6) (e := 28) (j := 1) (by kernel_rfl) (by kernel_rfl) (by kernel_rfl) rfl rfl rfl (by decide) rfl) ?_
  refine wpS_quick 1 rfl ?_
  refine wpS_nil ?_
  refine QH_seq_k hK26 ?_
  refine wpC_seq_k (fun K hK27 => ?_)
  refine wpC_region ?_
  refine wpS_quick 1 rfl ?_
  refine wpS_in rfl rfl rfl rfl (by kernel_rfl) rfl ?_
  show Calls _ _ #[_] _ _
  refine gw_enter1 Try.func47 rfl Try.ntmps47 rfl ?_
  refine wpC_seq_k (fun K hK28 => ?_)
  refine wpC_region ?_
  refine wpS_quick 1 rfl ?_
  refine wpS_nil ?_
  refine QH_seq_k hK28 ?_
  refine wpC_seq_k (fun K hK29 => ?_)
  refine wpC_region ?_
  refine wpS_put rfl rfl rfl (yv_fieldAddr fo_32_2 rfl) ?_
  refine wpS_put rfl rfl rfl (yv_load_box sc_5 rfl (RW.here _) hS hs1 trivial sg2_1) ?_
  refine wpS_put rfl rfl rfl (yv_leq rfl rfl) ?_
  refine wpS_quick 1 rfl ?_
  refine wpS_case 5 rfl (fun hb => ?_) (fun hb => ?_)
  rotate_left
  · replace H := cond_f H hb
    refine wpS_quick 10 rfl ?_
    refine wpS_nil ?_
    refine QH_seq_k hK29 ?_
    refine wpC_ret ?_
    refine QH_ret rfl (RV.tmp rfl RV.nil) rfl ?_
    refine ⟨_, rfl, ?_⟩
    refine wpS_put rfl rfl rfl (yv_not rfl) ?_
    refine wpS_nil ?_
    refine QH_seq_k hK27 ?_
    refine wpC_cond_t rfl rfl ?_
    refine wpC_seq_k (fun K hK93 => ?_)
    refine wpC_region ?_
    refine wpS_quick 1 rfl ?_
    refine wpS_nil ?_
    refine QH_seq_k hK93 ?_
    refine wpC_ret ?_
    refine QH_block_ret ?_
    refine QH_then_ret ?_
    refine QH_then_ret ?_
    refine QH_block_ret ?_
    refine QH_then_ret ?_
    refine QH_ret rfl (RV.tmp rfl RV.nil) rfl ?_
    obtain rfl := Option.some.inj H
    replace hS := hS.cut 0
    exact ⟨rfl, hS⟩
  replace H := cond_t H hb
  refine wpS_put rfl rfl rfl (yv_fieldAddr fo_32_3 rfl) ?_
  refine wpS_put rfl rfl rfl (yv_load_box sc_3 rfl (RW.here _) hS hs1 trivial sg3_1) ?_
  obtain ⟨r30, hm31, H⟩ := bind_some H
  refine wpS_call rfl rfl rfl rfl (by kernel_rfl) rfl (c_msg_within x0.binary 1 2 _ hm31) ?_
  rintro e w ⟨rfl, hN⟩; refine ⟨_, rfl, ?_⟩; have hB := hN.pure; have hS := hS.join hN; clear hN
  refine wpS_quick 2 rfl ?_
  refine wpS_case 10 rfl (fun hb => ?_) (fun hb => ?_)
  rotate_left
  · replace H := cond_f H hb
    refine wpS_quick 5 rfl ?_
    refine wpS_nil ?_
    refine QH_seq_k hK29 ?_
    refine wpC_ret ?_
    refine QH_ret rfl (RV.tmp rfl RV.nil) rfl ?_
    refine ⟨_, rfl, ?_⟩
    refine wpS_put rfl rfl rfl (yv_not rfl) ?_
    refine wpS_nil ?_
    refine QH_seq_k hK27 ?_
    refine wpC_cond_t rfl rfl ?_
    refine wpC_seq_k (fun K hK92 => ?_)
    refine wpC_region ?_
    refine wpS_quick 1 rfl ?_
    refine wpS_nil ?_
    refine QH_seq_k hK92 ?_
    refine wpC_ret ?_
    refine QH_block_ret ?_
    refine QH_then_ret ?_
    refine QH_then_ret ?_
    refine QH_block_ret ?_
    refine QH_then_ret ?_
    refine QH_ret rfl (RV.tmp rfl RV.nil) rfl ?_
    obtain rfl := Option.some.inj H
    replace hS := hS.cut 0
    exact ⟨rfl, hS⟩
  replace H := cond_t H hb
  refine wpS_put rfl rfl rfl (yv_fieldAddr fo_32_4 rfl) ?_
  refine wpS_put rfl rfl rfl (yv_load_boxA ag_26 rfl (RW.here _) hS hs1 trivial sg4_8) ?_
  obtain ⟨r32, hm33, H⟩ := bind_some H
  refine wpS_call rfl rfl rfl rfl (by kernel_rfl) rfl (c_tuple_Right x0.tuple A0_ c0_ _ (SlI.of_rd s0_.k (hS.rd0 s0_.rd) (hS.blk0 s0_.blk)) hm33) ?_
  rintro e w ⟨rfl, hN⟩; refine ⟨_, rfl, ?_⟩; have hB := hN.pure; have hS := hS.join hN; clear hN
  refine wpS_quick 2 rfl ?_
  refine wpS_nil ?_
  refine QH_seq_k hK29 ?_
  refine wpC_ret ?_
  refine QH_ret rfl (RV.tmp rfl RV.nil) rfl ?_
  refine ⟨_, rfl, ?_⟩
  refine wpS_put rfl rfl rfl (yv_not rfl) ?_
  refine wpS_nil ?_
  refine QH_seq_k hK27 ?_
  refine wpC_cond rfl (fun hb => ?_) (fun hb => ?_)
  · replace H := cond_t H hb
    refine wpC_seq_k (fun K hK34 => ?_)
    refine wpC_region ?_
    refine wpS_quick 1 rfl ?_
    refine wpS_nil ?_
    refine QH_seq_k hK34 ?_
    refine wpC_ret ?_
    refine QH_block_ret ?_
    refine QH_then_ret ?_
    refine QH_then_ret ?_
    refine QH_block_ret ?_
    refine QH_then_ret ?_
    refine QH_ret rfl (RV.tmp rfl RV.nil) rfl ?_
    obtain rfl := Option.some.inj H
    replace hS := hS.cut 0
    exact ⟨rfl, hS⟩
  replace H := cond_f H hb
  refine wpC_skip ?_
  refine QH_block_normal ?_
  refine QH_seq_k hK25 ?_
  refine wpC_region ?_
  refine wpS_put rfl rfl rfl (yx_add rfl rfl) ?_
  refine wpS_quick 1 rfl ?_
  refine wpS_nil ?_
  refine QH_more ?_
  refine wpC_seq_k (fun K hK35 => ?_)
  refine wpC_region ?_
  refine wpS_put rfl rfl rfl (yv_lss rfl rfl) ?_
  refine wpS_nil ?_
  refine QH_seq_k hK35 ?_
  refine wpC_seq_k (fun K hK36 => ?_)
  refine wpC_cond_t rfl rfl ?_
  refine wpC_skip ?_
  refine QH_seq_k hK36 ?_
  refine wpC_seq_k (fun K hK37 => ?_)
  refine wpC_block ?_
  refine wpC_seq_k (fun K hK38 => ?_)
  refine wpC_region ?_
  refine wpS_put rfl rfl rfl (yx_index (n := 6) (e := 28) (j := 2) (by kernel_rfl) (by kernel_rfl) (by kernel_rfl) rfl rfl rfl (by decide) rfl) ?_
  refine wpS_quick 1 rfl ?_
  refine wpS_nil ?_
  refine QH_seq_k hK38 ?_
  refine wpC_seq_k (fun K hK39 => ?_)
  refine wpC_region ?_
  refine wpS_quick 1 rfl ?_
  refine wpS_in rfl rfl rfl rfl (by kernel_rfl) rfl ?_
  show Calls _ _ #[_] _ _
  refine gw_enter1 Try.func49 rfl Try.ntmps49 rfl ?_
  refine wpC_seq_k (fun K hK40 => ?_)
  refine wpC_region ?_
  refine wpS_quick 1 rfl ?_
  refine wpS_nil ?_
  refine QH_seq_k hK40 ?_
  refine wpC_seq_k (fun K hK41 => ?_)
  refine wpC_region ?_
  refine wpS_put rfl rfl rfl (yv_fieldAddr fo_32_4 rfl) ?_
  refine wpS_put rfl rfl rfl (yv_load_boxA ag_26 rfl (RW.here _) hS hs1 trivial sg4_8) ?_
  refine wpS_put rfl rfl rfl (yv_fieldAddr fo_32_5 rfl) ?_
  refine wpS_put rfl rfl rfl (yv_load_box sc_3 rfl (RW.here _) hS hs1 trivial sg12_1) ?_
  obtain ⟨r42, hm43, H⟩ := bind_some H
  refine wpS_call rfl rfl rfl rfl (by kernel_rfl) rfl (c_tuple_State x0.tuple x0.commit A0_ c0_ _ (SlI.of_rd s0_.k (hS.rd0 s0_.rd) (hS.blk0 s0_.blk)) hm43) ?_
  rintro e w ⟨rfl, hN⟩; refine ⟨_, rfl, ?_⟩; have hB := hN.pure; have hS := hS.join hN; clear hN
  refine wpS_quick 1 rfl ?_
  refine wpS_put rfl rfl rfl (yv_extract rfl rfl) ?_
  refine wpS_put rfl rfl rfl (yv_extract rfl rfl) ?_
  refine wpS_alloc rfl rfl zc_23 hS (fun b44 w hS hB => ?_)
  refine wpS_store rfl rfl rfl CellsOf.agg hS ps0 st0_5 (by kernel_rfl) rfl (fun w hS hB => ?_)
  refine wpS_quick 1 rfl ?_
  refine wpS_nil ?_
  refine QH_seq_k hK41 ?_
  refine wpC_seq_k (fun K hK46 => ?_)
  refine wpC_region ?_
  refine wpS_quick 2 rfl ?_
  refine wpS_case 13 rfl (fun hb => ?_) (fun hb => ?_)
  rotate_left
  · replace H := cond_f H hb
    refine wpS_quick 6 rfl ?_
    refine wpS_nil ?_
    refine QH_seq_k hK46 ?_
    refine wpC_ret ?_
    refine QH_ret rfl (RV.tmp rfl RV.nil) rfl ?_
    refine ⟨_, rfl, ?_⟩
    refine wpS_put rfl rfl rfl (yv_not rfl) ?_
    refine wpS_nil ?_
    refine QH_seq_k hK39 ?_
    refine wpC_cond_t rfl rfl ?_
    refine wpC_seq_k (fun K hK91 => ?_)
    refine wpC_region ?_
    refine wpS_quick 1 rfl ?_
    refine wpS_nil ?_
    refine QH_seq_k hK91 ?_
    refine wpC_ret ?_
    refine QH_block_ret ?_
    refine QH_then_ret ?_
    refine QH_then_ret ?_
    refine QH_block_ret ?_
    refine QH_then_ret ?_
    refine QH_ret rfl (RV.tmp rfl RV.nil) rfl ?_
    obtain rfl := Option.some.inj H
    replace hS := hS.cut 0
    exact ⟨rfl, hS⟩
  replace H := cond_t H hb
  refine wpS_put rfl rfl rfl (yv_load_boxA ag_23 rfl (RW.here _) hS hs0 trivial sg0_5) ?_
  refine wpS_put rfl rfl rfl (yv_fieldAddr fo_32_6 rfl) ?_
  refine wpS_put rfl rfl rfl (yv_load_boxA ag_23 rfl (RW.here _) hS hs2 trivial sg13_5) ?_
  refine wpS_put rfl rfl rfl (yv_eqlS (by kernel_rfl) rfl rfl (eqT_23 _ _ _ _ _ _ _ _ _ _)) ?_
  refine wpS_quick 2 rfl ?_
  refine wpS_nil ?_
  refine QH_seq_k hK46 ?_
  refine wpC_ret ?_
  refine QH_ret rfl (RV.tmp rfl RV.nil) rfl ?_
  refine ⟨_, rfl, ?_⟩
  refine wpS_put rfl rfl rfl (yv_not rfl) ?_
  refine wpS_nil ?_
  refine QH_seq_k hK39 ?_
  refine wpC_cond rfl (fun hb => ?_) (fun hb => ?_)
  · replace H := cond_t H hb
    refine wpC_seq_k (fun K hK47 => ?_)
    refine wpC_region ?_
    refine wpS_quick 1 rfl ?_
    refine wpS_nil ?_
    refine QH_seq_k hK47 ?_
    refine wpC_ret ?_
    refine QH_block_ret ?_
    refine QH_then_ret ?_
    refine QH_then_ret ?_
    refine QH_block_ret ?_
    refine QH_then_ret ?_
    refine QH_ret rfl (RV.tmp rfl RV.nil) rfl ?_
    obtain rfl := Option.some.inj H
    replace hS := hS.cut 0
    exact ⟨rfl, hS⟩
  replace H := cond_f H hb
  refine wpC_skip ?_
  refine QH_block_normal ?_
  refine QH_seq_k hK37 ?_
  refine wpC_region ?_
  refine wpS_put rfl rfl rfl (yx_add rfl rfl) ?_
  refine wpS_quick 1 rfl ?_
  refine wpS_nil ?_
  refine QH_more ?_
  refine wpC_seq_k (fun K hK48 => ?_)
  refine wpC_region ?_
  refine wpS_put rfl rfl rfl (yv_lss rfl rfl) ?_
  refine wpS_nil ?_
  refine QH_seq_k hK48 ?_
  refine wpC_seq_k (fun K hK49 => ?_)
  refine wpC_cond_t rfl rfl ?_
  refine wpC_skip ?_
  refine QH_seq_k hK49 ?_
  refine wpC_seq_k (fun K hK50 => ?_)
  refine wpC_block ?_
  refine wpC_seq_k (fun K hK51 => ?_)
  refine wpC_region ?_
  refine wpS_put rfl rfl rfl (yx_index (n := 6) (e := 28) (j := 3) (by kernel_rfl) (by kernel_rfl) (by kernel_rfl) rfl rfl rfl (by decide) rfl) ?_
  refine wpS_quick 1 rfl ?_
  refine wpS_nil ?_
  refine QH_seq_k hK51 ?_
  refine wpC_seq_k (fun K hK52 => ?_)
  refine wpC_region ?_
  refine wpS_quick 1 rfl ?_
  refine wpS_in rfl rfl rfl rfl (by kernel_rfl) rfl ?_
  show Calls _ _ #[_, _] _ _
  refine gw_enter2 Try.func51 rfl Try.ntmps51 rfl ?_
  refine wpC_seq_k (fun K hK53 => ?_)
  refine wpC_region ?_
  refine wpS_quick 1 rfl ?_
  refine wpS_nil ?_
  refine QH_seq_k hK53 ?_
  refine wpC_seq_k (fun K hK54 => ?_)
  refine wpC_region ?_
  refine wpS_put rfl rfl rfl (yv_fieldAddr fo_32_7 rfl) ?_
  refine wpS_put rfl rfl rfl (yv_load_box sc_29 rfl (RW.here _) hS hs2 trivial sg18_1) ?_
  refine wpS_put rfl rfl rfl (yv_len el_29 rfl) ?_
  refine wpS_put rfl rfl rfl (yv_fieldAddr fo_32_1 rfl) ?_
  refine wpS_put rfl rfl rfl (yv_load_box sc_3 rfl (RW.here _) hS hs2 trivial sg1_1) ?_
  refine wpS_put rfl rfl rfl (yv_eql rfl rfl) ?_
  refine wpS_quick 1 rfl ?_
  refine wpS_case 9 rfl (fun hb => ?_) (fun hb => ?_)
  rotate_left
  · replace H := cond_f H hb
    refine wpS_quick 17 rfl ?_
    refine wpS_nil ?_
    refine QH_seq_k hK54 ?_
    refine wpC_ret ?_
    refine QH_ret rfl (RV.tmp rfl RV.nil) rfl ?_
    refine ⟨_, rfl, ?_⟩
    refine wpS_put rfl rfl rfl (yv_not rfl) ?_
    refine wpS_nil ?_
    refine QH_seq_k hK52 ?_
    refine wpC_cond_t rfl rfl ?_
    refine wpC_seq_k (fun K hK90 => ?_)
    refine wpC_region ?_
    refine wpS_quick 1 rfl ?_
    refine wpS_nil ?_
    refine QH_seq_k hK90 ?_
    refine wpC_ret ?_
    refine QH_block_ret ?_
    refine QH_then_ret ?_
    refine QH_then_ret ?_
    refine QH_block_ret ?_
    refine QH_then_ret ?_
    refine QH_ret rfl (RV.tmp rfl RV.nil) rfl ?_
    obtain rfl := Option.some.inj H
    replace hS := hS.cut 0
    exact ⟨rfl, hS⟩
  replace H := cond_t H hb
  refine wpS_put rfl rfl rfl (yv_fieldAddr fo_32_8 rfl) ?_
  refine wpS_put rfl rfl rfl (yv_load_box sc_30 rfl (RW.here _) hS hs2 trivial sg19_1) ?_
  refine wpS_put rfl rfl rfl (yv_fieldAddr fo_32_1 rfl) ?_
  refine wpS_put rfl rfl rfl (yv_load_box sc_3 rfl (RW.here _) hS hs2 trivial sg1_1) ?_
  refine wpS_put rfl rfl rfl (yv_load_box sc_3 rfl (RW.here _) hS hs1 trivial sg0_1) ?_
  refine wpS_put rfl rfl rfl (yx_add rfl rfl) ?_
  obtain ⟨r55, hm56, H⟩ := bind_some H
  refine wpS_call rfl rfl rfl rfl (by kernel_rfl) rfl (c_msg_each x0.next x0.n 1 (IntKind.wrap .i64 (r5 + 1)) A2_ c2_ _ (SlI.of_rd s2_.k (hS.rd0 s2_.rd) (hS.blk0 s2_.blk)) hm56) ?_
  rintro e w ⟨rfl, hN⟩; refine ⟨_, rfl, ?_⟩; have hB := hN.pure; have hS := hS.join hN; clear hN
  refine wpS_quick 2 rfl ?_
  refine wpS_case 18 rfl (fun hb => ?_) (fun hb => ?_)
  rotate_left
  · replace H := cond_f H hb
    refine wpS_quick 8 rfl ?_
    refine wpS_nil ?_
    refine QH_seq_k hK54 ?_
    refine wpC_ret ?_
    refine QH_ret rfl (RV.tmp rfl RV.nil) rfl ?_
    refine ⟨_, rfl, ?_⟩
    refine wpS_put rfl rfl rfl (yv_not rfl) ?_
    refine wpS_nil ?_
    refine QH_seq_k hK52 ?_
    refine wpC_cond_t rfl rfl ?_
    refine wpC_seq_k (fun K hK89 => ?_)
    refine wpC_region ?_
    refine wpS_quick 1 rfl ?_
    refine wpS_nil ?_
    refine QH_seq_k hK89 ?_
    refine wpC_ret ?_
    refine QH_block_ret ?_
    refine QH_then_ret ?_
    refine QH_then_ret ?_
    refine QH_block_ret ?_
    refine QH_then_ret ?_
    refine QH_ret rfl (RV.tmp rfl RV.nil) rfl ?_
    obtain rfl := Option.some.inj H
    replace hS := hS.cut 0
    exact ⟨rfl, hS⟩
  replace H := cond_t H hb
  refine wpS_put rfl rfl rfl (yv_fieldAddr fo_32_9 rfl) ?_
  refine wpS_put rfl rfl rfl (yv_load_box sc_30 rfl (RW.here _) hS hs2 trivial sg20_1) ?_
  refine wpS_put rfl rfl rfl (yv_fieldAddr fo_32_1 rfl) ?_
  refine wpS_put rfl rfl rfl (yv_load_box sc_3 rfl (RW.here _) hS hs2 trivial sg1_1) ?_
  refine wpS_put rfl rfl rfl (yv_load_box sc_3 rfl (RW.here _) hS hs1 trivial sg0_1) ?_
  obtain ⟨r57, hm58, H⟩ := bind_some H
  refine wpS_call rfl rfl rfl rfl (by kernel_rfl) rfl (c_msg_each x0.mtch x0.n 0 r5 A3_ c3_ _ (SlI.of_rd s3_.k (hS.rd0 s3_.rd) (hS.blk0 s3_.blk)) hm58) ?_
  rintro e w ⟨rfl, hN⟩; refine ⟨_, rfl, ?_⟩; have hB := hN.pure; have hS := hS.join hN; clear hN
  refine wpS_quick 2 rfl ?_
  refine wpS_nil ?_
  refine QH_seq_k hK54 ?_
  refine wpC_ret ?_
  refine QH_ret rfl (RV.tmp rfl RV.nil) rfl ?_
  refine ⟨_, rfl, ?_⟩
  refine wpS_put rfl rfl rfl (yv_not rfl) ?_
  refine wpS_nil ?_
  refine QH_seq_k hK52 ?_
  refine wpC_cond rfl (fun hb => ?_) (fun hb => ?_)
  · replace H := cond_t H hb
    refine wpC_seq_k (fun K hK59 => ?_)
    refine wpC_region ?_
    refine wpS_quick 1 rfl ?_
    refine wpS_nil ?_
    refine QH_seq_k hK59 ?_
    refine wpC_ret ?_
    refine QH_block_ret ?_
    refine QH_then_ret ?_
    refine QH_then_ret ?_
    refine QH_block_ret ?_
    refine QH_then_ret ?_
    refine QH_ret rfl (RV.tmp rfl RV.nil) rfl ?_
    obtain rfl := Option.some.inj H
    replace hS := hS.cut 0
    exact ⟨rfl, hS⟩
  replace H := cond_f H hb
  refine wpC_skip ?_
  refine QH_block_normal ?_
  refine QH_seq_k hK50 ?_
  refine wpC_region ?_
  refine wpS_put rfl rfl rfl (yx_add rfl rfl) ?_
  refine wpS_quick 1 rfl ?_
  refine wpS_nil ?_
  refine QH_more ?_
  refine wpC_seq_k (fun K hK60 => ?_)
  refine wpC_region ?_
  refine wpS_put rfl rfl rfl (yv_lss rfl rfl) ?_
  refine wpS_nil ?_
  refine QH_seq_k hK60 ?_
  refine wpC_seq_k (fun K hK61 => ?_)
  refine wpC_cond_t rfl rfl ?_
  refine wpC_skip ?_
  refine QH_seq_k hK61 ?_
  refine wpC_seq_k (fun K hK62 => ?_)
  refine wpC_block ?_
  refine wpC_seq_k (fun K hK63 => ?_)
  refine wpC_region ?_
  refine wpS_put rfl rfl rfl (yx_index (n := 6) (e := 28) (j := 4) (by kernel_rfl) (by kernel_rfl) (by kernel_rfl) rfl rfl rfl (by decide) rfl) ?_
  refine wpS_quick 1 rfl ?_
  refine wpS_nil ?_
  refine QH_seq_k hK63 ?_
  refine wpC_seq_k (fun K hK64 => ?_)
  refine wpC_region ?_
  refine wpS_quick 1 rfl ?_
  refine wpS_in rfl rfl rfl rfl (by kernel_rfl) rfl ?_
  show Calls _ _ #[_] _ _
  refine gw_enter1 Try.func53 rfl Try.ntmps53 rfl ?_
  refine wpC_seq_k (fun K hK65 => ?_)
  refine wpC_region ?_
  refine wpS_quick 1 rfl ?_
  refine wpS_nil ?_
  refine QH_seq_k hK65 ?_
  refine wpC_seq_k (fun K hK66 => ?_)
  refine wpC_draw 18 [] (fun _ _ => True) ⟨by kernel_rfl, by kernel_rfl⟩ hS (fun w hS hB => ?_)
  refine wpR_batch [true, true, true, true] (by decide +kernel) (by repeat (first | exact PF.body | exact PF.round | apply PF.then | apply PF.inBlock | apply PF.jump)) ?_
  refine LtK.put rfl rfl rfl (yv_fieldAddr fo_32_10 rfl) ?_
  refine LtK.put rfl rfl rfl (yv_load_box sc_30 rfl (RW.below _) hS hs2 trivial sg21_1) ?_
  refine LtK.put rfl rfl rfl (yv_fieldAddr fo_32_1 rfl) ?_
  refine LtK.put rfl rfl rfl (yv_load_box sc_3 rfl (RW.below _) hS hs2 trivial sg1_1) ?_
  refine LtK.nil ?_
  refine wpR_call [false, false, false, false, true] 4 ⟨by decide, by kernel_rfl, by kernel_rfl⟩ rfl rfl ?_
  try dsimp only [pickL]
  obtain ⟨r67, hm68, H⟩ := bind_some H
  refine wpS_call rfl rfl rfl rfl (by kernel_rfl) rfl (c_msg_each x0.caps x0.n 0 2 A4_ c4_ _ (SlI.of_rd s4_.k (hS.rd0 s4_.rd) (hS.blk0 s4_.blk)) hm68) ?_
  rintro e w ⟨rfl, hN⟩; refine ⟨_, rfl, ?_⟩; have hB := hN.pure; have hS := hS.join hN; clear hN
  refine wpS_nil ?_
  refine QH_step hB ?_
  refine wpR_batch [false, false, false, false, false, true] (by decide +kernel) (by repeat (first | exact PF.body | exact PF.round | apply PF.then | apply PF.inBlock | apply PF.jump)) ?_
  refine LtK.put rfl rfl rfl (yv_move rfl) ?_
  refine LtK.nil ?_
  refine wpR_case 7 rfl (fun hb => ?_) (fun hb => ?_)
  rotate_left
  · replace H := cond_f H hb
    refine wpR_batch [false, false, false, false, false, false, true, true, true, true, true, true, true, true, true, true, true, true] (by decide +kernel) (by repeat (first | exact PF.body | exact PF.round | apply PF.then | apply PF.inBlock | apply PF.jump)) ?_
    refine LtK.skip rfl rfl rfl ?_
    refine LtK.skip rfl rfl rfl ?_
    refine LtK.skip rfl rfl rfl ?_
    refine LtK.skip rfl rfl rfl ?_
    refine LtK.skip rfl rfl rfl ?_
    refine LtK.skip rfl rfl rfl ?_
    refine LtK.skip rfl rfl rfl ?_
    refine LtK.skip rfl rfl rfl ?_
    refine LtK.skip rfl rfl rfl ?_
    refine LtK.skip rfl rfl rfl ?_
    refine LtK.put rfl rfl rfl (yv_pick_f rfl rfl rfl) ?_
    refine LtK.put rfl rfl rfl (yv_assign rfl) ?_
    refine LtK.nil ?_
    refine wpR_end (by kernel_rfl) ?_
    refine QH_seq_k hK66 ?_
    refine wpC_ret ?_
    refine QH_ret rfl (RV.tmp rfl RV.nil) rfl ?_
    refine ⟨_, rfl, ?_⟩
    refine wpS_put rfl rfl rfl (yv_not rfl) ?_
    refine wpS_nil ?_
    refine QH_seq_k hK64 ?_
    refine wpC_cond_t rfl rfl ?_
    refine wpC_seq_k (fun K hK88 => ?_)
    refine wpC_region ?_
    refine wpS_quick 1 rfl ?_
    refine wpS_nil ?_
    refine QH_seq_k hK88 ?_
    refine wpC_ret ?_
    refine QH_block_ret ?_
    refine QH_then_ret ?_
    refine QH_then_ret ?_
    refine QH_block_ret ?_
    refine QH_then_ret ?_
    refine QH_ret rfl (RV.tmp rfl RV.nil) rfl ?_
    obtain rfl := Option.some.inj H
    replace hS := hS.cut 0
    exact ⟨rfl, hS⟩
  replace H := cond_t H hb
  refine wpR_batch [false, false, false, false, false, false, true, true, true, true, true, true, true, true, true, true, true, true] (by decide +kernel) (by repeat (first | exact PF.body | exact PF.round | apply PF.then | apply PF.inBlock | apply PF.jump)) ?_
  refine LtK.put rfl rfl rfl (yv_fieldAddr fo_32_10 rfl) ?_
  refine LtK.put rfl rfl rfl (yv_load_box sc_30 rfl (RW.below _) hS hs2 trivial sg21_1) ?_
  refine LtK.put rfl rfl rfl (yv_fieldAddr fo_32_0 rfl) ?_
  refine LtK.put rfl rfl rfl (yv_load_box sc_3 rfl (RW.below _) hS hs2 trivial sg0_1) ?_
  refine LtK.put rfl rfl rfl (yx_sub rfl rfl) ?_
  obtain ⟨e69, hi71, H⟩ := bind_some H
  obtain ⟨j70, hi71a, hi71b, hi71c⟩ := idx_some hi71
  refine LtK.put rfl rfl rfl (yx_idx el_30 rfl rfl hi71a hi71c (Rd.el (hS.rd0 s4_.rd) he_enI hi71b)) ?_
  refine LtK.put rfl rfl rfl (yx_ld0 sc_3 rfl (RW.below _) (Rd.el (hS.rd0 s4_.rd) he_enI hi71b) rfl) ?_
  refine LtK.put rfl rfl rfl (yv_fieldAddr fo_32_3 rfl) ?_
  refine LtK.put rfl rfl rfl (yv_load_box sc_3 rfl (RW.below _) hS hs2 trivial sg3_1) ?_
  refine LtK.put rfl rfl rfl (yv_eql rfl rfl) ?_
  refine LtK.put rfl rfl rfl (yv_pick_t rfl rfl rfl) ?_
  refine LtK.put rfl rfl rfl (yv_assign rfl) ?_
  refine LtK.nil ?_
  refine wpR_end (by kernel_rfl) ?_
  refine QH_seq_k hK66 ?_
  refine wpC_ret ?_
  refine QH_ret rfl (RV.tmp rfl RV.nil) rfl ?_
  refine ⟨_, rfl, ?_⟩
  refine wpS_put rfl rfl rfl (yv_not rfl) ?_
  refine wpS_nil ?_
  refine QH_seq_k hK64 ?_
  refine wpC_cond rfl (fun hb => ?_) (fun hb => ?_)
  · replace H := cond_t H hb
    refine wpC_seq_k (fun K hK72 => ?_)
    refine wpC_region ?_
    refine wpS_quick 1 rfl ?_
    refine wpS_nil ?_
    refine QH_seq_k hK72 ?_
    refine wpC_ret ?_
    refine QH_block_ret ?_
    refine QH_then_ret ?_
    refine QH_then_ret ?_
    refine QH_block_ret ?_
    refine QH_then_ret ?_
    refine QH_ret rfl (RV.tmp rfl RV.nil) rfl ?_
    obtain rfl := Option.some.inj H
    replace hS := hS.cut 0
    exact ⟨rfl, hS⟩
  replace H := cond_f H hb
  refine wpC_skip ?_
  refine QH_block_normal ?_
  refine QH_seq_k hK62 ?_
  refine wpC_region ?_
  refine wpS_put rfl rfl rfl (yx_add rfl rfl) ?_
  refine wpS_quick 1 rfl ?_
  refine wpS_nil ?_
  refine QH_more ?_
  refine wpC_seq_k (fun K hK73 => ?_)
  refine wpC_region ?_
  refine wpS_put rfl rfl rfl (yv_lss rfl rfl) ?_
  refine wpS_nil ?_
  refine QH_seq_k hK73 ?_
  refine wpC_seq_k (fun K hK74 => ?_)
  refine wpC_cond_t rfl rfl ?_
  refine wpC_skip ?_
  refine QH_seq_k hK74 ?_
  refine wpC_seq_k (fun K hK75 => ?_)
  refine wpC_block ?_
  refine wpC_seq_k (fun K hK76 => ?_)
  refine wpC_region ?_
  refine wpS_put rfl rfl rfl (yx_index (n := 6) (e := 28) (j := 5) (by kernel_rfl) (by kernel_rfl) (by kernel_rfl) rfl rfl rfl (by decide) rfl) ?_
  refine wpS_quick 1 rfl ?_
  refine wpS_nil ?_
  refine QH_seq_k hK76 ?_
  refine wpC_seq_k (fun K hK77 => ?_)
  refine wpC_region ?_
  refine wpS_quick 1 rfl ?_
  refine wpS_in rfl rfl rfl rfl (by kernel_rfl) rfl ?_
  show Calls _ _ #[_] _ _
  refine gw_enter1 Try.func54 rfl Try.ntmps54 rfl ?_
  refine wpC_seq_k (fun K hK78 => ?_)
  refine wpC_region ?_
  refine wpS_quick 1 rfl ?_
  refine wpS_nil ?_
  refine QH_seq_k hK78 ?_
  refine wpC_seq_k (fun K hK79 => ?_)
  refine wpC_region ?_
  refine wpS_put rfl rfl rfl (yv_fieldAddr fo_32_2 rfl) ?_
  refine wpS_put rfl rfl rfl (yv_load_box sc_5 rfl (RW.here _) hS hs2 trivial sg2_1) ?_
  refine wpS_put rfl rfl rfl (yv_eql rfl rfl) ?_
  refine wpS_quick 1 rfl ?_
  refine wpS_case 5 rfl (fun hb => ?_) (fun hb => ?_)
  · replace H := cond_t H hb
    refine wpS_quick 14 rfl ?_
    refine wpS_nil ?_
    refine QH_seq_k hK79 ?_
    refine wpC_ret ?_
    refine QH_ret rfl (RV.tmp rfl RV.nil) rfl ?_
    refine ⟨_, rfl, ?_⟩
    refine wpS_put rfl rfl rfl (yv_not rfl) ?_
    refine wpS_nil ?_
    refine QH_seq_k hK77 ?_
    refine wpC_cond_f rfl rfl ?_
    refine wpC_skip ?_
    refine QH_block_normal ?_
    refine QH_seq_k hK75 ?_
    refine wpC_region ?_
    refine wpS_put rfl rfl rfl (yx_add rfl rfl) ?_
    refine wpS_quick 1 rfl ?_
    refine wpS_nil ?_
    refine QH_more ?_
    refine wpC_seq_k (fun K hK80 => ?_)
    refine wpC_region ?_
    refine wpS_put rfl rfl rfl (yv_lss rfl rfl) ?_
    refine wpS_nil ?_
    refine QH_seq_k hK80 ?_
    refine wpC_seq_k (fun K hK81 => ?_)
    refine wpC_cond_f rfl rfl ?_
    refine wpC_exit ?_
    refine QH_then_exit ?_
    refine QH_then_exit ?_
    refine QH_block_hit ?_
    refine QH_seq_k hK9 ?_
    refine wpC_seq_k (fun K hK82 => ?_)
    refine wpC_region ?_
    refine wpS_quick 1 rfl ?_
    refine wpS_nil ?_
    refine QH_seq_k hK82 ?_
    refine wpC_ret ?_
    refine QH_ret rfl (RV.tmp rfl RV.nil) rfl ?_
    obtain rfl := Option.some.inj H
    replace hS := hS.cut 0
    exact ⟨rfl, hS⟩
  replace H := cond_f H hb
  refine wpS_put rfl rfl rfl (yv_fieldAddr fo_32_4 rfl) ?_
  refine wpS_put rfl rfl rfl (yv_fieldAddr fo_26_2 rfl) ?_
  refine wpS_put rfl rfl rfl (yv_load_box sc_3 rfl (RW.here _) hS hs2 trivial sg10_1) ?_
  refine wpS_put rfl rfl rfl (yv_gtr rfl rfl) ?_
  refine wpS_quick 1 rfl ?_
  refine wpS_case 10 rfl (fun hb => ?_) (fun hb => ?_)
  rotate_left
  · replace H := cond_f H hb
    refine wpS_quick 9 rfl ?_
    refine wpS_nil ?_
    refine QH_seq_k hK79 ?_
    refine wpC_ret ?_
    refine QH_ret rfl (RV.tmp rfl RV.nil) rfl ?_
    refine ⟨_, rfl, ?_⟩
    refine wpS_put rfl rfl rfl (yv_not rfl) ?_
    refine wpS_nil ?_
    refine QH_seq_k hK77 ?_
    refine wpC_cond_t rfl rfl ?_
    refine wpC_seq_k (fun K hK87 => ?_)
    refine wpC_region ?_
    refine wpS_quick 1 rfl ?_
    refine wpS_nil ?_
    refine QH_seq_k hK87 ?_
    refine wpC_ret ?_
    refine QH_block_ret ?_
    refine QH_then_ret ?_
    refine QH_then_ret ?_
    refine QH_block_ret ?_
    refine QH_then_ret ?_
    refine QH_ret rfl (RV.tmp rfl RV.nil) rfl ?_
    obtain rfl := Option.some.inj H
    replace hS := hS.cut 0
    exact ⟨rfl, hS⟩
  replace H := cond_t H hb
  refine wpS_put rfl rfl rfl (yv_fieldAddr fo_32_4 rfl) ?_
  refine wpS_put rfl rfl rfl (yv_fieldAddr fo_26_3 rfl) ?_
  refine wpS_put rfl rfl rfl (yv_load_box sc_3 rfl (RW.here _) hS hs2 trivial sg11_1) ?_
  refine wpS_put rfl rfl rfl (yv_fieldAddr fo_32_0 rfl) ?_
  refine wpS_put rfl rfl rfl (yv_load_box sc_3 rfl (RW.here _) hS hs2 trivial sg0_1) ?_
  refine wpS_put rfl rfl rfl (yv_eql rfl rfl) ?_
  refine wpS_quick 3 rfl ?_
  refine wpS_nil ?_
  refine QH_seq_k hK79 ?_
  refine wpC_ret ?_
  refine QH_ret rfl (RV.tmp rfl RV.nil) rfl ?_
  refine ⟨_, rfl, ?_⟩
  refine wpS_put rfl rfl rfl (yv_not rfl) ?_
  refine wpS_nil ?_
  refine QH_seq_k hK77 ?_
  refine wpC_cond rfl (fun hb => ?_) (fun hb => ?_)
  · replace H := cond_t H hb
    refine wpC_seq_k (fun K hK83 => ?_)
    refine wpC_region ?_
    refine wpS_quick 1 rfl ?_
    refine wpS_nil ?_
    refine QH_seq_k hK83 ?_
    refine wpC_ret ?_
    refine QH_block_ret ?_
    refine QH_then_ret ?_
    refine QH_then_ret ?_
    refine QH_block_ret ?_
    refine QH_then_ret ?_
    refine QH_ret rfl (RV.tmp rfl RV.nil) rfl ?_
    obtain rfl := Option.some.inj H
    replace hS := hS.cut 0
    exact ⟨rfl, hS⟩
  replace H := cond_f H hb
  refine wpC_skip ?_
  refine QH_block_normal ?_
  refine QH_seq_k hK75 ?_
  refine wpC_region ?_
  refine wpS_put rfl rfl rfl (yx_add rfl rfl) ?_
  refine wpS_quick 1 rfl ?_
  refine wpS_nil ?_
  refine QH_more ?_
  refine wpC_seq_k (fun K hK84 => ?_)
  refine wpC_region ?_
  refine wpS_put rfl rfl rfl (yv_lss rfl rfl) ?_
  refine wpS_nil ?_
  refine QH_seq_k hK84 ?_
  refine wpC_seq_k (fun K hK85 => ?_)
  refine wpC_cond_f rfl rfl ?_
  refine wpC_exit ?_
  refine QH_then_exit ?_
  refine QH_then_exit ?_
  refine QH_block_hit ?_
  refine QH_seq_k hK9 ?_
  refine wpC_seq_k (fun K hK86 => ?_)
  refine wpC_region ?_
  refine wpS_quick 1 rfl ?_
  refine wpS_nil ?_
  refine QH_seq_k hK86 ?_
  refine wpC_ret ?_
  refine QH_ret rfl (RV.tmp rfl RV.nil) rfl ?_
  obtain rfl := Option.some.inj H
  replace hS := hS.cut 0
  exact ⟨rfl, hS⟩
theorem c_slices_Clone___bool_bool_ (x0 : List Bool) (A0_ : Option Addr) (c0_ : Nat) (w0 : World) (s0_ : SlI w0 enO A0_ c0_ x0) {r : List Bool} (H : m_slices_Clone___bool_bool_ x0 = some r) : Calls Try.prog 77 #[.slice A0_ x0.length c0_] w0 fun e w' => ∃ (A0 : Option Addr) (c0 : Nat), e = .returned (.slice A0 r.length c0) ∧ (r.length ≤ c0 ∧ c0 ≤ maxLen) ∧ St0 All w0 w' [.row (.slice A0 r.length c0) 4 1 r.length (encs enO r)] := by
  unfold m_slices_Clone___bool_bool_ at H
  obtain ⟨rfl, hfew⟩ := fewI_some H
  cases A0_ with
  | none =>
    obtain rfl : r = [] := by
      cases r with
      | nil => rfl
      | cons e l => obtain ⟨b, o, h, _⟩ := s0_.rd 0 _ rfl; cases h
    refine gw_enter1 Try.func77 rfl Try.ntmps77 rfl ?_
    have hS := St0.start All w0
    refine wpC_seq_k (fun K hK1 => ?_)
    refine wpC_region ?_
    refine wpS_quick 1 rfl ?_
    refine wpS_nil ?_
    refine QH_seq_k hK1 ?_
    refine wpC_seq_k (fun K hK2 => ?_)
    refine wpC_seq_k (fun K hK3 => ?_)
    refine wpC_region ?_
    refine wpS_quick 1 rfl ?_
    refine wpS_put rfl rfl rfl (yv_eqlNil (e := 4) (by kernel_rfl) rfl rfl) ?_
    refine wpS_nil ?_
    refine QH_seq_k hK3 ?_
    refine wpC_cond_t rfl rfl ?_
    refine wpC_seq_k (fun K hK4 => ?_)
    refine wpC_region ?_
    refine wpS_quick 1 rfl ?_
    refine wpS_nil ?_
    refine QH_seq_k hK4 ?_
    refine wpC_ret ?_
    refine QH_then_ret ?_
    refine QH_ret rfl (RV.tmp rfl RV.nil) rfl ?_
    have hS := hS.nilRow 4 1
    replace hS := hS.cut 1
    exact ⟨none, 0, rfl, ⟨Nat.le_refl _, Nat.zero_le _⟩, hS⟩
  | some a0 =>
    refine gw_enter1 Try.func77 rfl Try.ntmps77 rfl ?_
    have hS := St0.start All w0
    have H : (fewI ([] ++ r)).bind (fun z => some z) = some r := by rw [List.nil_append, H]; rfl
    refine wpC_seq_k (fun K hK5 => ?_)
    refine wpC_region ?_
    refine wpS_quick 1 rfl ?_
    refine wpS_nil ?_
    refine QH_seq_k hK5 ?_
    refine wpC_seq_k (fun K hK6 => ?_)
    refine wpC_seq_k (fun K hK7 => ?_)
    refine wpC_region ?_
    refine wpS_quick 1 rfl ?_
    refine wpS_put rfl rfl rfl (yv_eqlNil (e := 4) (by kernel_rfl) rfl rfl) ?_
    refine wpS_nil ?_
    refine QH_seq_k hK7 ?_
    refine wpC_cond_f rfl rfl ?_
    refine wpC_skip ?_
    refine QH_seq_k hK6 ?_
    refine wpC_seq_k (fun K hK8 => ?_)
    refine wpC_region ?_
    refine wpS_slice0 el_29 rfl rfl hS (fun b9 w hS hB => ?_)
    refine wpS_quick 1 rfl ?_
    obtain ⟨l11, hf12, H⟩ := bind_some H
    refine wpX_append (ys := r) he_enO oc_enO em_29 (by decide) rfl rfl rfl rfl hS (fun _ => ps0) (hS.rd0 s0_.rd) hf12 (fun A13 c14 w k15 hS => ?_)
    refine wpS_quick 1 rfl ?_
    refine wpS_nil ?_
    refine QH_seq_k hK8 ?_
    refine wpC_ret ?_
    refine QH_ret rfl (RV.tmp rfl RV.nil) rfl ?_
    obtain rfl := Option.some.inj H
    have hS := hS.front 0 rfl
    replace hS := hS.cut 1
    exact ⟨A13, c14, rfl, k15, hS⟩
theorem c_slices_Clone___int_int_ (x0 : List Int) (A0_ : Option Addr) (c0_ : Nat) (w0 : World) (s0_ : SlI w0 enI A0_ c0_ x0) {r : List Int} (H : m_slices_Clone___int_int_ x0 = some r) : Calls Try.prog 78 #[.slice A0_ x0.length c0_] w0 fun e w' => ∃ (A0 : Option Addr) (c0 : Nat), e = .returned (.slice A0 r.length c0) ∧ (r.length ≤ c0 ∧ c0 ≤ maxLen) ∧ St0 All w0 w' [.row (.slice A0 r.length c0) 3 1 r.length (encs enI r)] := by
  unfold m_slices_Clone___int_int_ at H
  obtain ⟨rfl, hfew⟩ := fewI_some H
  cases A0_ with
  | none =>
    obtain rfl : r = [] := by
      cases r with
      | nil => rfl
      | cons e l => obtain ⟨b, o, h, _⟩ := s0_.rd 0 _ rfl; cases h
    refine gw_enter1 Try.func78 rfl Try.ntmps78 rfl ?_
    have hS := St0.start All w0
    refine wpC_seq_k (fun K hK1 => ?_)
    refine wpC_region ?_
    refine wpS_quick 1 rfl ?_
    refine wpS_nil ?_
    refine QH_seq_k hK1 ?_
    refine wpC_seq_k (fun K hK2 => ?_)
    refine wpC_seq_k (fun K hK3 => ?_)
    refine wpC_region ?_
    refine wpS_quick 1 rfl ?_
    refine wpS_put rfl rfl rfl (yv_eqlNil (e := 3) (by kernel_rfl) rfl rfl) ?_
    refine wpS_nil ?_
    refine QH_seq_k hK3 ?_
    refine wpC_cond_t rfl rfl ?_
    refine wpC_seq_k (fun K hK4 => ?_)
    refine wpC_region ?_
    refine wpS_quick 1 rfl ?_
    refine wpS_nil ?_
    refine QH_seq_k hK4 ?_
    refine wpC_ret ?_
    refine QH_then_ret ?_
    refine QH_ret rfl (RV.tmp rfl RV.nil) rfl ?_
    have hS := hS.nilRow 3 1
    replace hS := hS.cut 1
    exact ⟨none, 0, rfl, ⟨Nat.le_refl _, Nat.zero_le _⟩, hS⟩
  | some a0 =>
    refine gw_enter1 Try.func78 rfl Try.ntmps78 rfl ?_
    have hS := St0.start All w0
    have H : (fewI ([] ++ r)).bind (fun z => some z) = some r := by rw [List.nil_append, H]; rfl
    refine wpC_seq_k (fun K hK5 => ?_)
    refine wpC_region ?_
    refine wpS_quick 1 rfl ?_
    refine wpS_nil ?_
    refine QH_seq_k hK5 ?_
    refine wpC_seq_k (fun K hK6 => ?_)
    refine wpC_seq_k (fun K hK7 => ?_)
    refine wpC_region ?_
    refine wpS_quick 1 rfl ?_
    refine wpS_put rfl rfl rfl (yv_eqlNil (e := 3) (by kernel_rfl) rfl rfl) ?_
    refine wpS_nil ?_
    refine QH_seq_k hK7 ?_
    refine wpC_cond_f rfl rfl ?_
    refine wpC_skip ?_
    refine QH_seq_k hK6 ?_
    refine wpC_seq_k (fun K hK8 => ?_)
    refine wpC_region ?_
    refine wpS_slice0 el_30 rfl rfl hS (fun b9 w hS hB => ?_)
    refine wpS_quick 1 rfl ?_
    obtain ⟨l11, hf12, H⟩ := bind_some H
    refine wpX_append (ys := r) he_enI oc_enI em_30 (by decide) rfl rfl rfl rfl hS (fun _ => ps0) (hS.rd0 s0_.rd) hf12 (fun A13 c14 w k15 hS => ?_)
    refine wpS_quick 1 rfl ?_
    refine wpS_nil ?_
    refine QH_seq_k hK8 ?_
    refine wpC_ret ?_
    refine QH_ret rfl (RV.tmp rfl RV.nil) rfl ?_
    obtain rfl := Option.some.inj H
    have hS := hS.front 0 rfl
    replace hS := hS.cut 1
    exact ⟨A13, c14, rfl, k15, hS⟩
theorem c_msg_Own (x0 : Co) (A0_ : Option Addr) (c0_ : Nat) (A1_ : Option Addr) (c1_ : Nat) (A2_ : Option Addr) (c2_ : Nat) (A3_ : Option Addr) (c3_ : Nat) (A4_ : Option Addr) (c4_ : Nat) (w0 : World) (s0_ : SlI w0 enE A0_ c0_ x0.tuple.log) (s1_ : SlI w0 enO A1_ c1_ x0.votes) (s2_ : SlI w0 enI A2_ c2_ x0.next) (s3_ : SlI w0 enI A3_ c3_ x0.mtch) (s4_ : SlI w0 enI A4_ c4_ x0.caps) {r : Co} (H : m_msg_Own x0 = some r) : Calls Try.prog 39 #[.agg #[.int .i64 x0.id, .int .i64 x0.n, .int .u8 x0.role, .int .i64 x0.binary, .int .i64 x0.tuple.snap.index, .int .i64 x0.tuple.snap.term, .int .i64 x0.tuple.snap.sum, .int .i64 x0.tuple.snap.level, .bool x0.tuple.snap.final, .slice A0_ x0.tuple.log.length c0_, .int .i64 x0.tuple.term, .int .i64 x0.tuple.vote, .int .i64 x0.commit, .int .i64 x0.applied.index, .int .i64 x0.applied.term, .int .i64 x0.applied.sum, .int .i64 x0.applied.level, .bool x0.applied.final, .slice A1_ x0.votes.length c1_, .slice A2_ x0.next.length c2_, .slice A3_ x0.mtch.length c3_, .slice A4_ x0.caps.length c4_]] w0 fun e w' => ∃ (A0 : Option Addr) (c0 : Nat) (A1 : Option Addr) (c1 : Nat) (A2 : Option Addr) (c2 : Nat) (A3 : Option Addr) (c3 : Nat) (A4 : Option Addr) (c4 : Nat), e = .returned (.agg #[.int .i64 r.id, .int .i64 r.n, .int .u8 r.role, .int .i64 r.binary, .int .i64 r.tuple.snap.index, .int .i64 r.tuple.snap.term, .int .i64 r.tuple.snap.sum, .int .i64 r.tuple.snap.level, .bool r.tuple.snap.final, .slice A0 r.tuple.log.length c0, .int .i64 r.tuple.term, .int .i64 r.tuple.vote, .int .i64 r.commit, .int .i64 r.applied.index, .int .i64 r.applied.term, .int .i64 r.applied.sum, .int .i64 r.applied.level, .bool r.applied.final, .slice A1 r.votes.length c1, .slice A2 r.next.length c2, .slice A3 r.mtch.length c3, .slice A4 r.caps.length c4]) ∧ (r.tuple.log.length ≤ c0 ∧ c0 ≤ maxLen) ∧ (r.votes.length ≤ c1 ∧ c1 ≤ maxLen) ∧ (r.next.length ≤ c2 ∧ c2 ≤ maxLen) ∧ (r.mtch.length ≤ c3 ∧ c3 ≤ maxLen) ∧ (r.caps.length ≤ c4 ∧ c4 ≤ maxLen) ∧ St0 All w0 w' [.row (.slice A0 r.tuple.log.length c0) 47 3 r.tuple.log.length (encs enE r.tuple.log), .row (.slice A1 r.votes.length c1) 4 1 r.votes.length (encs enO r.votes), .row (.slice A2 r.next.length c2) 3 1 r.next.length (encs enI r.next), .row (.slice A3 r.mtch.length c3) 3 1 r.mtch.length (encs enI r.mtch), .row (.slice A4 r.caps.length c4) 3 1 r.caps.length (encs enI r.caps)] := by
  unfold m_msg_Own at H
  refine gw_enter1 Try.func39 rfl Try.ntmps39 rfl ?_
  have hS := St0.start All w0
  refine wpC_seq_k (fun K hK1 => ?_)
  refine wpC_region ?_
  refine wpS_box rfl rfl rfl CellsOf.agg hS (fun b2 w hS hB => ?_)
  refine wpS_alloc rfl rfl zc_32 hS (fun b4 w hS hB => ?_)
  refine wpS_nil ?_
  refine QH_seq_k hK1 ?_
  refine wpC_seq_k (fun K hK6 => ?_)
  refine wpC_region ?_
  refine wpS_put rfl rfl rfl (yv_fieldAddr fo_32_4 rfl) ?_
  refine wpS_put rfl rfl rfl (yv_load_boxA ag_26 rfl (RW.here _) hS hs1 trivial sg4_8) ?_
  obtain ⟨r7, hm8, H⟩ := bind_some H
  refine wpS_call rfl rfl rfl rfl (by kernel_rfl) rfl (c_tuple_Own x0.tuple A0_ c0_ _ (SlI.of_rd s0_.k (hS.rd0 s0_.rd) (hS.blk0 s0_.blk)) hm8) ?_
  rintro e w ⟨A9, c10, rfl, k11, hN⟩; refine ⟨_, rfl, ?_⟩; have hB := hN.pure; have hS := hS.join hN; clear hN
  refine wpS_put rfl rfl rfl (yv_fieldAddr fo_32_4 rfl) ?_
  refine wpS_store rfl rfl rfl CellsOf.agg hS ps2 st4_8 (by kernel_rfl) rfl (fun w hS hB => ?_)
  refine wpS_nil ?_
  refine QH_seq_k hK6 ?_
  refine wpC_seq_k (fun K hK13 => ?_)
  refine wpC_draw 20 [13, 15, 17, 19] (fun i b => (i = 13 → b ≠ b2) ∧ (i = 15 → b ≠ b2) ∧ (i = 17 → b ≠ b2) ∧ (i = 19 → b ≠ b2)) ⟨by kernel_rfl, by kernel_rfl⟩ hS (fun w hS hB => ?_)
  refine wpR_batch [true, true, false, true, true, false, true, true, false, true, true] (by decide +kernel) (by repeat (first | exact PF.body | exact PF.round | apply PF.then | apply PF.inBlock | apply PF.jump)) ?_
  refine LtK.put rfl rfl rfl (yv_fieldAddr fo_32_7 rfl) ?_
  refine LtK.put rfl rfl rfl (yv_load_box sc_29 rfl (RW.below _) hS hs2 trivial sg18_1) ?_
  refine LtK.put rfl rfl rfl (yv_fieldAddr fo_32_8 rfl) ?_
  refine LtK.put rfl rfl rfl (yv_load_box sc_30 rfl (RW.below _) hS hs2 trivial sg19_1) ?_
  refine LtK.put rfl rfl rfl (yv_fieldAddr fo_32_9 rfl) ?_
  refine LtK.put rfl rfl rfl (yv_load_box sc_30 rfl (RW.below _) hS hs2 trivial sg20_1) ?_
  refine LtK.put rfl rfl rfl (yv_fieldAddr fo_32_10 rfl) ?_
  refine LtK.put rfl rfl rfl (yv_load_box sc_30 rfl (RW.below _) hS hs2 trivial sg21_1) ?_
  refine LtK.nil ?_
  refine wpR_call [false, false, true] 2 ⟨by decide, by kernel_rfl, by kernel_rfl⟩ rfl rfl ?_
  try dsimp only [pickL]
  obtain ⟨r14, hm15, H⟩ := bind_some H
  refine wpS_call rfl rfl rfl rfl (by kernel_rfl) rfl (c_slices_Clone___bool_bool_ x0.votes A1_ c1_ _ (SlI.of_rd s1_.k (hS.rd0 s1_.rd) (hS.blk0 s1_.blk)) hm15) ?_
  rintro e w ⟨A16, c17, rfl, k18, hN⟩; refine ⟨_, rfl, ?_⟩; have hB := hN.pure; have hS := hS.join hN; clear hN
  refine wpS_nil ?_
  refine QH_step hB ?_
  refine wpR_batch [false, false, false, false, false, false, false, false, false, false, false, false, true] (by decide +kernel) (by repeat (first | exact PF.body | exact PF.round | apply PF.then | apply PF.inBlock | apply PF.jump)) ?_
  refine LtK.put rfl rfl rfl (yv_fieldAddr fo_32_7 rfl) ?_
  refine LtK.nil ?_
  refine wpR_call [false, false, false, false, false, true] 5 ⟨by decide, by kernel_rfl, by kernel_rfl⟩ rfl rfl ?_
  try dsimp only [pickL]
  obtain ⟨r20, hm21, H⟩ := bind_some H
  refine wpS_call rfl rfl rfl rfl (by kernel_rfl) rfl (c_slices_Clone___int_int_ x0.next A2_ c2_ _ (SlI.of_rd s2_.k (hS.rd0 s2_.rd) (hS.blk0 s2_.blk)) hm21) ?_
  rintro e w ⟨A22, c23, rfl, k24, hN⟩; refine ⟨_, rfl, ?_⟩; have hB := hN.pure; have hS := hS.join hN; clear hN
  refine wpS_nil ?_
  refine QH_step hB ?_
  refine wpR_call [false, false, false, false, false, false, false, false, true] 8 ⟨by decide, by kernel_rfl, by kernel_rfl⟩ rfl rfl ?_
  try dsimp only [pickL]
  obtain ⟨r26, hm27, H⟩ := bind_some H
  refine wpS_call rfl rfl rfl rfl (by kernel_rfl) rfl (c_slices_Clone___int_int_ x0.mtch A3_ c3_ _ (SlI.of_rd s3_.k (hS.rd0 s3_.rd) (hS.blk0 s3_.blk)) hm27) ?_
  rintro e w ⟨A28, c29, rfl, k30, hN⟩; refine ⟨_, rfl, ?_⟩; have hB := hN.pure; have hS := hS.join hN; clear hN
  refine wpS_nil ?_
  refine QH_step hB ?_
  refine wpR_call [false, false, false, false, false, false, false, false, false, false, false, true] 11 ⟨by decide, by kernel_rfl, by kernel_rfl⟩ rfl rfl ?_
  try dsimp only [pickL]
  obtain ⟨r32, hm33, H⟩ := bind_some H
  refine wpS_call rfl rfl rfl rfl (by kernel_rfl) rfl (c_slices_Clone___int_int_ x0.caps A4_ c4_ _ (SlI.of_rd s4_.k (hS.rd0 s4_.rd) (hS.blk0 s4_.blk)) hm33) ?_
  rintro e w ⟨A34, c35, rfl, k36, hN⟩; refine ⟨_, rfl, ?_⟩; have hB := hN.pure; have hS := hS.join hN; clear hN
  refine wpS_nil ?_
  refine QH_step hB ?_
  refine wpR_seal [false, false, false, false, false, false, false, false, false, false, false, false, false, true] 13 ⟨by decide, by kernel_rfl, by kernel_rfl⟩ rfl rfl ?_
  try dsimp only [pickL]
  refine wpS_store rfl rfl rfl CellsOf.slice hS ps6 st18_1 (by kernel_rfl) rfl (fun w hS hB => ?_)
  refine wpS_nil ?_
  refine QH_stepG (hB.sub (fun _ _ h => by simpa using h)) ?_
  refine wpR_batch [false, false, false, false, false, false, false, false, false, false, false, false, false, false, true] (by decide +kernel) (by repeat (first | exact PF.body | exact PF.round | apply PF.then | apply PF.inBlock | apply PF.jump)) ?_
  refine LtK.put rfl rfl rfl (yv_fieldAddr fo_32_8 rfl) ?_
  refine LtK.nil ?_
  refine wpR_seal [false, false, false, false, false, false, false, false, false, false, false, false, false, false, false, true] 15 ⟨by decide, by kernel_rfl, by kernel_rfl⟩ rfl rfl ?_
  try dsimp only [pickL]
  refine wpS_store rfl rfl rfl CellsOf.slice hS ps6 st19_1 (by kernel_rfl) rfl (fun w hS hB => ?_)
  refine wpS_nil ?_
  refine QH_stepG (hB.sub (fun _ _ h => by simpa using h)) ?_
  refine wpR_batch [false, false, false, false, false, false, false, false, false, false, false, false, false, false, false, false, true] (by decide +kernel) (by repeat (first | exact PF.body | exact PF.round | apply PF.then | apply PF.inBlock | apply PF.jump)) ?_
  refine LtK.put rfl rfl rfl (yv_fieldAddr fo_32_9 rfl) ?_
  refine LtK.nil ?_
  refine wpR_seal [false, false, false, false, false, false, false, false, false, false, false, false, false, false, false, false, false, true] 17 ⟨by decide, by kernel_rfl, by kernel_rfl⟩ rfl rfl ?_
  try dsimp only [pickL]
  refine wpS_store rfl rfl rfl CellsOf.slice hS ps6 st20_1 (by kernel_rfl) rfl (fun w hS hB => ?_)
  refine wpS_nil ?_
  refine QH_stepG (hB.sub (fun _ _ h => by simpa using h)) ?_
  refine wpR_batch [false, false, false, false, false, false, false, false, false, false, false, false, false, false, false, false, false, false, true] (by decide +kernel) (by repeat (first | exact PF.body | exact PF.round | apply PF.then | apply PF.inBlock | apply PF.jump)) ?_
  refine LtK.put rfl rfl rfl (yv_fieldAddr fo_32_10 rfl) ?_
  refine LtK.nil ?_
  refine wpR_seal [false, false, false, false, false, false, false, false, false, false, false, false, false, false, false, false, false, false, false, true] 19 ⟨by decide, by kernel_rfl, by kernel_rfl⟩ rfl rfl ?_
  try dsimp only [pickL]
  refine wpS_store rfl rfl rfl CellsOf.slice hS ps6 st21_1 (by kernel_rfl) rfl (fun w hS hB => ?_)
  refine wpS_nil ?_
  refine QH_stepG (hB.sub (fun _ _ h => by simpa using h)) ?_
  refine wpR_end (by kernel_rfl) ?_
  refine QH_seq_k hK13 ?_
  refine wpC_seq_k (fun K hK38 => ?_)
  refine wpC_region ?_
  refine wpS_put rfl rfl rfl (yv_load_boxA ag_32 rfl (RW.here _) hS hs6 trivial sg0_22) ?_
  refine wpS_store rfl rfl rfl CellsOf.agg hS ps5 st0_22 (by kernel_rfl) rfl (fun w hS hB => ?_)
  refine wpS_nil ?_
  refine QH_seq_k hK38 ?_
  refine wpC_ret ?_
  refine QH_ret rfl (RV.cell rfl (load_boxA ag_32 hS hs5 sg0_22) RV.nil) rfl ?_
  obtain rfl := Option.some.inj H
  have hS := hS.front 0 rfl
  have hS := hS.front 1 rfl
  have hS := hS.front 2 rfl
  have hS := hS.front 3 rfl
  have hS := hS.front 4 rfl
  replace hS := hS.cut 5
  exact ⟨A9, c10, A16, c17, A22, c23, A28, c29, A34, c35, rfl, k11, k18, k24, k30, k36, hS⟩
theorem c_slices_Equal___api_Entry_api_Entry_ (x0 : List En) (x1 : List En) (A0_ : Option Addr) (c0_ : Nat) (A1_ : Option Addr) (c1_ : Nat) (w0 : World) (s0_ : SlI w0 enE A0_ c0_ x0) (s1_ : SlI w0 enE A1_ c1_ x1) {r : Bool} (H : m_slices_Equal___api_Entry_api_Entry_ x0 x1 = some r) : Calls Try.prog 79 #[.slice A0_ x0.length c0_, .slice A1_ x1.length c1_] w0 fun e w' => e = .returned (.bool r) ∧ St0 All w0 w' [] := by
  unfold m_slices_Equal___api_Entry_api_Entry_ at H
  refine gw_enter2 Try.func79 rfl Try.ntmps79 rfl ?_
  have hS := St0.start All w0
  refine wpC_seq_k (fun K hK1 => ?_)
  refine wpC_region ?_
  refine wpS_quick 1 rfl ?_
  refine wpS_nil ?_
  refine QH_seq_k hK1 ?_
  refine wpC_seq_k (fun K hK2 => ?_)
  refine wpC_seq_k (fun K hK3 => ?_)
  refine wpC_region ?_
  refine wpS_quick 1 rfl ?_
  refine wpS_put rfl rfl rfl (yv_len el_24 rfl) ?_
  refine wpS_quick 1 rfl ?_
  refine wpS_put rfl rfl rfl (yv_len el_24 rfl) ?_
  refine wpS_put rfl rfl rfl (yv_neq rfl rfl) ?_
  refine wpS_nil ?_
  refine QH_seq_k hK3 ?_
  refine wpC_cond rfl (fun hb => ?_) (fun hb => ?_)
  · replace H := cond_t H hb
    refine wpC_seq_k (fun K hK4 => ?_)
    refine wpC_region ?_
    refine wpS_quick 1 rfl ?_
    refine wpS_nil ?_
    refine QH_seq_k hK4 ?_
    refine wpC_ret ?_
    refine QH_then_ret ?_
    refine QH_ret rfl (RV.tmp rfl RV.nil) rfl ?_
    obtain rfl := Option.some.inj H
    replace hS := hS.cut 0
    exact ⟨rfl, hS⟩
  replace H := cond_f H hb
  refine wpC_skip ?_
  refine QH_seq_k hK2 ?_
  refine wpC_seq_k (fun K hK5 => ?_)
  refine wpC_seq_k (fun K hK6 => ?_)
  refine wpC_region ?_
  refine wpS_quick 1 rfl ?_
  refine wpS_put rfl rfl rfl (yv_len el_24 rfl) ?_
  refine wpS_quick 1 rfl ?_
  refine wpS_nil ?_
  refine QH_seq_k hK6 ?_
  refine wpC_block ?_
  refine wpC_loop (X := Nat × Bool × Int) (fun x => (0, .slice A0_ x0.length c0_) :: (1, .slice A1_ x1.length c1_) :: (4, .bool x.2.1) :: (12, .int .i64 (x0.length : Int)) :: (13, .int .i64 x.2.2) :: []) (fun x w => St0 All w0 w ([]) ∧ m_slices_Equal___api_Entry_api_Entry__l1 x0 x1 x.1 x.2.1 x.2.2 = some r) (fun x => x.1) (fuelN, false, 0) (by repeat (first | exact Sub.nil | refine Sub.cons rfl ?_)) ⟨hS, H⟩ ?_
  rintro ⟨n, v7, v8⟩ w ⟨hS, H⟩
  dsimp only at hS H ⊢
  obtain _ | n := n
  · have H0 : none = some r := H
    cases H0
  rw [m_slices_Equal___api_Entry_api_Entry__l1] at H
  refine wpC_seq_k (fun K hK9 => ?_)
  refine wpC_region ?_
  refine wpS_put rfl rfl rfl (yv_lss rfl rfl) ?_
  refine wpS_nil ?_
  refine QH_seq_k hK9 ?_
  refine wpC_seq_k (fun K hK10 => ?_)
  refine wpC_cond rfl (fun hb => ?_) (fun hb => ?_)
  rotate_left
  · replace H := cond_f H hb
    refine wpC_exit ?_
    refine QH_then_exit ?_
    refine QH_then_exit ?_
    refine QH_block_hit ?_
    refine QH_seq_k hK5 ?_
    refine wpC_seq_k (fun K hK21 => ?_)
    refine wpC_region ?_
    refine wpS_quick 1 rfl ?_
    refine wpS_nil ?_
    refine QH_seq_k hK21 ?_
    refine wpC_ret ?_
    refine QH_ret rfl (RV.tmp rfl RV.nil) rfl ?_
    obtain rfl := Option.some.inj H
    replace hS := hS.cut 0
    exact ⟨rfl, hS⟩
  replace H := cond_t H hb
  refine wpC_skip ?_
  refine QH_seq_k hK10 ?_
  refine wpC_seq_k (fun K hK11 => ?_)
  refine wpC_block ?_
  refine wpC_seq_k (fun K hK12 => ?_)
  refine wpC_region ?_
  refine wpS_quick 2 rfl ?_
  refine wpS_nil ?_
  refine QH_seq_k hK12 ?_
  refine wpC_seq_k (fun K hK13 => ?_)
  refine wpC_draw 9 [] (fun _ _ => True) ⟨by kernel_rfl, by kernel_rfl⟩ hS (fun w hS hB => ?_)
  refine wpR_batch [true, true, true, true, true, true, true, true, true] (by decide +kernel) (by repeat (first | exact PF.body | exact PF.round | apply PF.then | apply PF.inBlock | apply PF.jump)) ?_
  refine LtK.put rfl rfl rfl (yv_move rfl) ?_
  refine LtK.put rfl rfl rfl (yv_move rfl) ?_
  obtain ⟨e14, hi16, H⟩ := bind_some H
  obtain ⟨j15, hi16a, hi16b, hi16c⟩ := idx_some hi16
  refine LtK.put rfl rfl rfl (yx_idx el_24 rfl rfl hi16a hi16c (Rd.el (hS.rd0 s0_.rd) he_enE hi16b)) ?_
  refine LtK.put rfl rfl rfl (yx_ldA0 ag_47 rfl (RW.below _) (Rd.el (hS.rd0 s0_.rd) he_enE hi16b) sg0_3) ?_
  refine LtK.put rfl rfl rfl (yv_move rfl) ?_
  refine LtK.put rfl rfl rfl (yv_move rfl) ?_
  obtain ⟨e17, hi19, H⟩ := bind_some H
  obtain ⟨j18, hi19a, hi19b, hi19c⟩ := idx_some hi19
  refine LtK.put rfl rfl rfl (yx_idx el_24 rfl rfl hi19a hi19c (Rd.el (hS.rd0 s1_.rd) he_enE hi19b)) ?_
  refine LtK.put rfl rfl rfl (yx_ldA0 ag_47 rfl (RW.below _) (Rd.el (hS.rd0 s1_.rd) he_enE hi19b) sg0_3) ?_
  refine LtK.put rfl rfl rfl (yv_neqS (by kernel_rfl) rfl rfl (eqT_47 _ _ _ _ _ _)) ?_
  refine LtK.nil ?_
  refine wpR_end (by kernel_rfl) ?_
  refine QH_seq_k hK13 ?_
  refine wpC_cond rfl (fun hb => ?_) (fun hb => ?_)
  rotate_left
  · replace H := cond_f H hb
    refine wpC_skip ?_
    refine QH_block_normal ?_
    refine QH_seq_k hK11 ?_
    refine wpC_region ?_
    refine wpS_put rfl rfl rfl (yx_add rfl rfl) ?_
    refine wpS_quick 1 rfl ?_
    refine wpS_nil ?_
    exact QH_again (n, v7, (IntKind.wrap .i64 (v8 + 1))) (by repeat (first | exact Sub.nil | refine Sub.cons rfl ?_)) ⟨hS, H⟩ (Nat.lt_succ_self _)
  replace H := cond_t H hb
  refine wpC_seq_k (fun K hK20 => ?_)
  refine wpC_region ?_
  refine wpS_quick 1 rfl ?_
  refine wpS_nil ?_
  refine QH_seq_k hK20 ?_
  refine wpC_ret ?_
  refine QH_block_ret ?_
  refine QH_then_ret ?_
  refine QH_then_ret ?_
  refine QH_block_ret ?_
  refine QH_then_ret ?_
  refine QH_ret rfl (RV.tmp rfl RV.nil) rfl ?_
  obtain rfl := Option.some.inj H
  replace hS := hS.cut 0
  exact ⟨rfl, hS⟩
theorem c_tuple_Same (x0 : Tu) (x1 : Tu) (A0_ : Option Addr) (c0_ : Nat) (A1_ : Option Addr) (c1_ : Nat) (w0 : World) (s0_ : SlI w0 enE A0_ c0_ x0.log) (s1_ : SlI w0 enE A1_ c1_ x1.log) {r : Bool} (H : m_tuple_Same x0 x1 = some r) : Calls Try.prog 74 #[.agg #[.int .i64 x0.snap.index, .int .i64 x0.snap.term, .int .i64 x0.snap.sum, .int .i64 x0.snap.level, .bool x0.snap.final, .slice A0_ x0.log.length c0_, .int .i64 x0.term, .int .i64 x0.vote], .agg #[.int .i64 x1.snap.index, .int .i64 x1.snap.term, .int .i64 x1.snap.sum, .int .i64 x1.snap.level, .bool x1.snap.final, .slice A1_ x1.log.length c1_, .int .i64 x1.term, .int .i64 x1.vote]] w0 fun e w' => e = .returned (.bool r) ∧ St0 All w0 w' [] := by
  unfold m_tuple_Same at H
  refine gw_enter2 Try.func74 rfl Try.ntmps74 rfl ?_
  have hS := St0.start All w0
  refine wpC_seq_k (fun K hK1 => ?_)
  refine wpC_region ?_
  refine wpS_box rfl rfl rfl CellsOf.agg hS (fun b2 w hS hB => ?_)
  refine wpS_box rfl rfl rfl CellsOf.agg hS (fun b4 w hS hB => ?_)
  refine wpS_quick 1 rfl ?_
  refine wpS_nil ?_
  refine QH_seq_k hK1 ?_
  refine wpC_seq_k (fun K hK6 => ?_)
  refine wpC_region ?_
  refine wpS_put rfl rfl rfl (yv_fieldAddr fo_26_0 rfl) ?_
  refine wpS_put rfl rfl rfl (yv_load_boxA ag_23 rfl (RW.here _) hS hs1 trivial sg0_5) ?_
  refine wpS_put rfl rfl rfl (yv_fieldAddr fo_26_0 rfl) ?_
  refine wpS_put rfl rfl rfl (yv_load_boxA ag_23 rfl (RW.here _) hS hs0 trivial sg0_5) ?_
  refine wpS_put rfl rfl rfl (yv_eqlS (by kernel_rfl) rfl rfl (eqT_23 _ _ _ _ _ _ _ _ _ _)) ?_
  refine wpS_quick 1 rfl ?_
  refine wpS_case 10 rfl (fun hb => ?_) (fun hb => ?_)
  rotate_left
  · replace H := cond_f H hb
    refine wpS_quick 21 rfl ?_
    refine wpS_nil ?_
    refine QH_seq_k hK6 ?_
    refine wpC_ret ?_
    refine QH_ret rfl (RV.tmp rfl RV.nil) rfl ?_
    obtain rfl := Option.some.inj H
    replace hS := hS.cut 0
    exact ⟨rfl, hS⟩
  replace H := cond_t H hb
  refine wpS_put rfl rfl rfl (yv_fieldAddr fo_26_2 rfl) ?_
  refine wpS_put rfl rfl rfl (yv_load_box sc_3 rfl (RW.here _) hS hs1 trivial sg6_1) ?_
  refine wpS_put rfl rfl rfl (yv_fieldAddr fo_26_2 rfl) ?_
  refine wpS_put rfl rfl rfl (yv_load_box sc_3 rfl (RW.here _) hS hs0 trivial sg6_1) ?_
  refine wpS_put rfl rfl rfl (yv_eql rfl rfl) ?_
  refine wpS_quick 2 rfl ?_
  refine wpS_case 17 rfl (fun hb => ?_) (fun hb => ?_)
  rotate_left
  · replace H := cond_f H hb
    refine wpS_quick 14 rfl ?_
    refine wpS_nil ?_
    refine QH_seq_k hK6 ?_
    refine wpC_ret ?_
    refine QH_ret rfl (RV.tmp rfl RV.nil) rfl ?_
    obtain rfl := Option.some.inj H
    replace hS := hS.cut 0
    exact ⟨rfl, hS⟩
  replace H := cond_t H hb
  refine wpS_put rfl rfl rfl (yv_fieldAddr fo_26_3 rfl) ?_
  refine wpS_put rfl rfl rfl (yv_load_box sc_3 rfl (RW.here _) hS hs1 trivial sg7_1) ?_
  refine wpS_put rfl rfl rfl (yv_fieldAddr fo_26_3 rfl) ?_
  refine wpS_put rfl rfl rfl (yv_load_box sc_3 rfl (RW.here _) hS hs0 trivial sg7_1) ?_
  refine wpS_put rfl rfl rfl (yv_eql rfl rfl) ?_
  refine wpS_quick 2 rfl ?_
  refine wpS_case 24 rfl (fun hb => ?_) (fun hb => ?_)
  rotate_left
  · replace H := cond_f H hb
    refine wpS_quick 7 rfl ?_
    refine wpS_nil ?_
    refine QH_seq_k hK6 ?_
    refine wpC_ret ?_
    refine QH_ret rfl (RV.tmp rfl RV.nil) rfl ?_
    obtain rfl := Option.some.inj H
    replace hS := hS.cut 0
    exact ⟨rfl, hS⟩
  replace H := cond_t H hb
  refine wpS_put rfl rfl rfl (yv_fieldAddr fo_26_1 rfl) ?_
  refine wpS_put rfl rfl rfl (yv_load_box sc_24 rfl (RW.here _) hS hs1 trivial sg5_1) ?_
  refine wpS_put rfl rfl rfl (yv_fieldAddr fo_26_1 rfl) ?_
  refine wpS_put rfl rfl rfl (yv_load_box sc_24 rfl (RW.here _) hS hs0 trivial sg5_1) ?_
  obtain ⟨r7, hm8, H⟩ := bind_some H
  refine wpS_call rfl rfl rfl rfl (by kernel_rfl) rfl (c_slices_Equal___api_Entry_api_Entry_ x0.log x1.log A0_ c0_ A1_ c1_ _ (SlI.of_rd s0_.k (hS.rd0 s0_.rd) (hS.blk0 s0_.blk)) (SlI.of_rd s1_.k (hS.rd0 s1_.rd) (hS.blk0 s1_.blk)) hm8) ?_
  rintro e w ⟨rfl, hN⟩; refine ⟨_, rfl, ?_⟩; have hB := hN.pure; have hS := hS.join hN; clear hN
  refine wpS_quick 2 rfl ?_
  refine wpS_nil ?_
  refine QH_seq_k hK6 ?_
  refine wpC_ret ?_
  refine QH_ret rfl (RV.tmp rfl RV.nil) rfl ?_
  obtain rfl := Option.some.inj H
  replace hS := hS.cut 0
  exact ⟨rfl, hS⟩
theorem c_slices_Equal___bool_bool_ (x0 : List Bool) (x1 : List Bool) (A0_ : Option Addr) (c0_ : Nat) (A1_ : Option Addr) (c1_ : Nat) (w0 : World) (s0_ : SlI w0 enO A0_ c0_ x0) (s1_ : SlI w0 enO A1_ c1_ x1) {r : Bool} (H : m_slices_Equal___bool_bool_ x0 x1 = some r) : Calls Try.prog 75 #[.slice A0_ x0.length c0_, .slice A1_ x1.length c1_] w0 fun e w' => e = .returned (.bool r) ∧ St0 All w0 w' [] := by
  unfold m_slices_Equal___bool_bool_ at H
  refine gw_enter2 Try.func75 rfl Try.ntmps75 rfl ?_
  have hS := St0.start All w0
  refine wpC_seq_k (fun K hK1 => ?_)
  refine wpC_region ?_
  refine wpS_quick 1 rfl ?_
  refine wpS_nil ?_
  refine QH_seq_k hK1 ?_
  refine wpC_seq_k (fun K hK2 => ?_)
  refine wpC_seq_k (fun K hK3 => ?_)
  refine wpC_region ?_
  refine wpS_quick 1 rfl ?_
  refine wpS_put rfl rfl rfl (yv_len el_29 rfl) ?_
  refine wpS_quick 1 rfl ?_
  refine wpS_put rfl rfl rfl (yv_len el_29 rfl) ?_
  refine wpS_put rfl rfl rfl (yv_neq rfl rfl) ?_
  refine wpS_nil ?_
  refine QH_seq_k hK3 ?_
  refine wpC_cond rfl (fun hb => ?_) (fun hb => ?_)
  · replace H := cond_t H hb
    refine wpC_seq_k (fun K hK4 => ?_)
    refine wpC_region ?_
    refine wpS_quick 1 rfl ?_
    refine wpS_nil ?_
    refine QH_seq_k hK4 ?_
    refine wpC_ret ?_
    refine QH_then_ret ?_
    refine QH_ret rfl (RV.tmp rfl RV.nil) rfl ?_
    obtain rfl := Option.some.inj H
    replace hS := hS.cut 0
    exact ⟨rfl, hS⟩
  replace H := cond_f H hb
  refine wpC_skip ?_
  refine QH_seq_k hK2 ?_
  refine wpC_seq_k (fun K hK5 => ?_)
  refine wpC_seq_k (fun K hK6 => ?_)
  refine wpC_region ?_
  refine wpS_quick 1 rfl ?_
  refine wpS_put rfl rfl rfl (yv_len el_29 rfl) ?_
  refine wpS_quick 1 rfl ?_
  refine wpS_nil ?_
  refine QH_seq_k hK6 ?_
  refine wpC_block ?_
  refine wpC_loop (X := Nat × Bool × Int) (fun x => (0, .slice A0_ x0.length c0_) :: (1, .slice A1_ x1.length c1_) :: (4, .bool x.2.1) :: (12, .int .i64 (x0.length : Int)) :: (13, .int .i64 x.2.2) :: []) (fun x w => St0 All w0 w ([]) ∧ m_slices_Equal___bool_bool__l1 x0 x1 x.1 x.2.1 x.2.2 = some r) (fun x => x.1) (fuelN, false, 0) (by repeat (first | exact Sub.nil | refine Sub.cons rfl ?_)) ⟨hS, H⟩ ?_
  rintro ⟨n, v7, v8⟩ w ⟨hS, H⟩
  dsimp only at hS H ⊢
  obtain _ | n := n
  · have H0 : none = some r := H
    cases H0
  rw [m_slices_Equal___bool_bool__l1] at H
  refine wpC_seq_k (fun K hK9 => ?_)
  refine wpC_region ?_
  refine wpS_put rfl rfl rfl (yv_lss rfl rfl) ?_
  refine wpS_nil ?_
  refine QH_seq_k hK9 ?_
  refine wpC_seq_k (fun K hK10 => ?_)
  refine wpC_cond rfl (fun hb => ?_) (fun hb => ?_)
  rotate_left
  · replace H := cond_f H hb
    refine wpC_exit ?_
    refine QH_then_exit ?_
    refine QH_then_exit ?_
    refine QH_block_hit ?_
    refine QH_seq_k hK5 ?_
    refine wpC_seq_k (fun K hK21 => ?_)
    refine wpC_region ?_
    refine wpS_quick 1 rfl ?_
    refine wpS_nil ?_
    refine QH_seq_k hK21 ?_
    refine wpC_ret ?_
    refine QH_ret rfl (RV.tmp rfl RV.nil) rfl ?_
    obtain rfl := Option.some.inj H
    replace hS := hS.cut 0
    exact ⟨rfl, hS⟩
  replace H := cond_t H hb
  refine wpC_skip ?_
  refine QH_seq_k hK10 ?_
  refine wpC_seq_k (fun K hK11 => ?_)
  refine wpC_block ?_
  refine wpC_seq_k (fun K hK12 => ?_)
  refine wpC_region ?_
  refine wpS_quick 2 rfl ?_
  refine wpS_nil ?_
  refine QH_seq_k hK12 ?_
  refine wpC_seq_k (fun K hK13 => ?_)
  refine wpC_draw 9 [] (fun _ _ => True) ⟨by kernel_rfl, by kernel_rfl⟩ hS (fun w hS hB => ?_)
  refine wpR_batch [true, true, true, true, true, true, true, true, true] (by decide +kernel) (by repeat (first | exact PF.body | exact PF.round | apply PF.then | apply PF.inBlock | apply PF.jump)) ?_
  refine LtK.put rfl rfl rfl (yv_move rfl) ?_
  refine LtK.put rfl rfl rfl (yv_move rfl) ?_
  obtain ⟨e14, hi16, H⟩ := bind_some H
  obtain ⟨j15, hi16a, hi16b, hi16c⟩ := idx_some hi16
  refine LtK.put rfl rfl rfl (yx_idx el_29 rfl rfl hi16a hi16c (Rd.el (hS.rd0 s0_.rd) he_enO hi16b)) ?_
  refine LtK.put rfl rfl rfl (yx_ld0 sc_4 rfl (RW.below _) (Rd.el (hS.rd0 s0_.rd) he_enO hi16b) rfl) ?_
  refine LtK.put rfl rfl rfl (yv_move rfl) ?_
  refine LtK.put rfl rfl rfl (yv_move rfl) ?_
  obtain ⟨e17, hi19, H⟩ := bind_some H
  obtain ⟨j18, hi19a, hi19b, hi19c⟩ := idx_some hi19
  refine LtK.put rfl rfl rfl (yx_idx el_29 rfl rfl hi19a hi19c (Rd.el (hS.rd0 s1_.rd) he_enO hi19b)) ?_
  refine LtK.put rfl rfl rfl (yx_ld0 sc_4 rfl (RW.below _) (Rd.el (hS.rd0 s1_.rd) he_enO hi19b) rfl) ?_
  refine LtK.put rfl rfl rfl (yv_neqB (by kernel_rfl) rfl rfl) ?_
  refine LtK.nil ?_
  refine wpR_end (by kernel_rfl) ?_
  refine QH_seq_k hK13 ?_
  refine wpC_cond rfl (fun hb => ?_) (fun hb => ?_)
  rotate_left
  · replace H := cond_f H hb
    refine wpC_skip ?_
    refine QH_block_normal ?_
    refine QH_seq_k hK11 ?_
    refine wpC_region ?_
    refine wpS_put rfl rfl rfl (yx_add rfl rfl) ?_
    refine wpS_quick 1 rfl ?_
    refine wpS_nil ?_
    exact QH_again (n, v7, (IntKind.wrap .i64 (v8 + 1))) (by repeat (first | exact Sub.nil | refine Sub.cons rfl ?_)) ⟨hS, H⟩ (Nat.lt_succ_self _)
  replace H := cond_t H hb
  refine wpC_seq_k (fun K hK20 => ?_)
  refine wpC_region ?_
  refine wpS_quick 1 rfl ?_
  refine wpS_nil ?_
  refine QH_seq_k hK20 ?_
  refine wpC_ret ?_
  refine QH_block_ret ?_
  refine QH_then_ret ?_
  refine QH_then_ret ?_
  refine QH_block_ret ?_
  refine QH_then_ret ?_
  refine QH_ret rfl (RV.tmp rfl RV.nil) rfl ?_
  obtain rfl := Option.some.inj H
  replace hS := hS.cut 0
  exact ⟨rfl, hS⟩
theorem c_slices_Equal___int_int_ (x0 : List Int) (x1 : List Int) (A0_ : Option Addr) (c0_ : Nat) (A1_ : Option Addr) (c1_ : Nat) (w0 : World) (s0_ : SlI w0 enI A0_ c0_ x0) (s1_ : SlI w0 enI A1_ c1_ x1) {r : Bool} (H : m_slices_Equal___int_int_ x0 x1 = some r) : Calls Try.prog 76 #[.slice A0_ x0.length c0_, .slice A1_ x1.length c1_] w0 fun e w' => e = .returned (.bool r) ∧ St0 All w0 w' [] := by
  unfold m_slices_Equal___int_int_ at H
  refine gw_enter2 Try.func76 rfl Try.ntmps76 rfl ?_
  have hS := St0.start All w0
  refine wpC_seq_k (fun K hK1 => ?_)
  refine wpC_region ?_
  refine wpS_quick 1 rfl ?_
  refine wpS_nil ?_
  refine QH_seq_k hK1 ?_
  refine wpC_seq_k (fun K hK2 => ?_)
  refine wpC_seq_k (fun K hK3 => ?_)
  refine wpC_region ?_
  refine wpS_quick 1 rfl ?_
  refine wpS_put rfl rfl rfl (yv_len el_30 rfl) ?_
  refine wpS_quick 1 rfl ?_
  refine wpS_put rfl rfl rfl (yv_len el_30 rfl) ?_
  refine wpS_put rfl rfl rfl (yv_neq rfl rfl) ?_
  refine wpS_nil ?_
  refine QH_seq_k hK3 ?_
  refine wpC_cond rfl (fun hb => ?_) (fun hb => ?_)
  · replace H := cond_t H hb
    refine wpC_seq_k (fun K hK4 => ?_)
    refine wpC_region ?_
    refine wpS_quick 1 rfl ?_
    refine wpS_nil ?_
    refine QH_seq_k hK4 ?_
    refine wpC_ret ?_
    refine QH_then_ret ?_
    refine QH_ret rfl (RV.tmp rfl RV.nil) rfl ?_
    obtain rfl := Option.some.inj H
    replace hS := hS.cut 0
    exact ⟨rfl, hS⟩
  replace H := cond_f H hb
  refine wpC_skip ?_
  refine QH_seq_k hK2 ?_
  refine wpC_seq_k (fun K hK5 => ?_)
  refine wpC_seq_k (fun K hK6 => ?_)
  refine wpC_region ?_
  refine wpS_quick 1 rfl ?_
  refine wpS_put rfl rfl rfl (yv_len el_30 rfl) ?_
  refine wpS_quick 1 rfl ?_
  refine wpS_nil ?_
  refine QH_seq_k hK6 ?_
  refine wpC_block ?_
  refine wpC_loop (X := Nat × Bool × Int) (fun x => (0, .slice A0_ x0.length c0_) :: (1, .slice A1_ x1.length c1_) :: (4, .bool x.2.1) :: (12, .int .i64 (x0.length : Int)) :: (13, .int .i64 x.2.2) :: []) (fun x w => St0 All w0 w ([]) ∧ m_slices_Equal___int_int__l1 x0 x1 x.1 x.2.1 x.2.2 = some r) (fun x => x.1) (fuelN, false, 0) (by repeat (first | exact Sub.nil | refine Sub.cons rfl ?_)) ⟨hS, H⟩ ?_
  rintro ⟨n, v7, v8⟩ w ⟨hS, H⟩
  dsimp only at hS H ⊢
  obtain _ | n := n
  · have H0 : none = some r := H
    cases H0
  rw [m_slices_Equal___int_int__l1] at H
  refine wpC_seq_k (fun K hK9 => ?_)
  refine wpC_region ?_
  refine wpS_put rfl rfl rfl (yv_lss rfl rfl) ?_
  refine wpS_nil ?_
  refine QH_seq_k hK9 ?_
  refine wpC_seq_k (fun K hK10 => ?_)
  refine wpC_cond rfl (fun hb => ?_) (fun hb => ?_)
  rotate_left
  · replace H := cond_f H hb
    refine wpC_exit ?_
    refine QH_then_exit ?_
    refine QH_then_exit ?_
    refine QH_block_hit ?_
    refine QH_seq_k hK5 ?_
    refine wpC_seq_k (fun K hK21 => ?_)
    refine wpC_region ?_
    refine wpS_quick 1 rfl ?_
    refine wpS_nil ?_
    refine QH_seq_k hK21 ?_
    refine wpC_ret ?_
    refine QH_ret rfl (RV.tmp rfl RV.nil) rfl ?_
    obtain rfl := Option.some.inj H
    replace hS := hS.cut 0
    exact ⟨rfl, hS⟩
  replace H := cond_t H hb
  refine wpC_skip ?_
  refine QH_seq_k hK10 ?_
  refine wpC_seq_k (fun K hK11 => ?_)
  refine wpC_block ?_
  refine wpC_seq_k (fun K hK12 => ?_)
  refine wpC_region ?_
  refine wpS_quick 2 rfl ?_
  refine wpS_nil ?_
  refine QH_seq_k hK12 ?_
  refine wpC_seq_k (fun K hK13 => ?_)
  refine wpC_draw 9 [] (fun _ _ => True) ⟨by kernel_rfl, by kernel_rfl⟩ hS (fun w hS hB => ?_)
  refine wpR_batch [true, true, true, true, true, true, true, true, true] (by decide +kernel) (by repeat (first | exact PF.body | exact PF.round | apply PF.then | apply PF.inBlock | apply PF.jump)) ?_
  refine LtK.put rfl rfl rfl (yv_move rfl) ?_
  refine LtK.put rfl rfl rfl (yv_move rfl) ?_
  obtain ⟨e14, hi16, H⟩ := bind_some H
  obtain ⟨j15, hi16a, hi16b, hi16c⟩ := idx_some hi16
  refine LtK.put rfl rfl rfl (yx_idx el_30 rfl rfl hi16a hi16c (Rd.el (hS.rd0 s0_.rd) he_enI hi16b)) ?_
  refine LtK.put rfl rfl rfl (yx_ld0 sc_3 rfl (RW.below _) (Rd.el (hS.rd0 s0_.rd) he_enI hi16b) rfl) ?_
  refine LtK.put rfl rfl rfl (yv_move rfl) ?_
  refine LtK.put rfl rfl rfl (yv_move rfl) ?_
  obtain ⟨e17, hi19, H⟩ := bind_some H
  obtain ⟨j18, hi19a, hi19b, hi19c⟩ := idx_some hi19
  refine LtK.put rfl rfl rfl (yx_idx el_30 rfl rfl hi19a hi19c (Rd.el (hS.rd0 s1_.rd) he_enI hi19b)) ?_
  refine LtK.put rfl rfl rfl (yx_ld0 sc_3 rfl (RW.below _) (Rd.el (hS.rd0 s1_.rd) he_enI hi19b) rfl) ?_
  refine LtK.put rfl rfl rfl (yv_neq rfl rfl) ?_
  refine LtK.nil ?_
  refine wpR_end (by kernel_rfl) ?_
  refine QH_seq_k hK13 ?_
  refine wpC_cond rfl (fun hb => ?_) (fun hb => ?_)
  rotate_left
  · replace H := cond_f H hb
    refine wpC_skip ?_
    refine QH_block_normal ?_
    refine QH_seq_k hK11 ?_
    refine wpC_region ?_
    refine wpS_put rfl rfl rfl (yx_add rfl rfl) ?_
    refine wpS_quick 1 rfl ?_
    refine wpS_nil ?_
    exact QH_again (n, v7, (IntKind.wrap .i64 (v8 + 1))) (by repeat (first | exact Sub.nil | refine Sub.cons rfl ?_)) ⟨hS, H⟩ (Nat.lt_succ_self _)
  replace H := cond_t H hb
  refine wpC_seq_k (fun K hK20 => ?_)
  refine wpC_region ?_
  refine wpS_quick 1 rfl ?_
  refine wpS_nil ?_
  refine QH_seq_k hK20 ?_
  refine wpC_ret ?_
  refine QH_block_ret ?_
  refine QH_then_ret ?_
  refine QH_then_ret ?_
  refine QH_block_ret ?_
  refine QH_then_ret ?_
  refine QH_ret rfl (RV.tmp rfl RV.nil) rfl ?_
  obtain rfl := Option.some.inj H
  replace hS := hS.cut 0
  exact ⟨rfl, hS⟩
theorem c_msg_Same (x0 : Co) (x1 : Co) (A0_ : Option Addr) (c0_ : Nat) (A1_ : Option Addr) (c1_ : Nat) (A2_ : Option Addr) (c2_ : Nat) (A3_ : Option Addr) (c3_ : Nat) (A4_ : Option Addr) (c4_ : Nat) (A5_ : Option Addr) (c5_ : Nat) (A6_ : Option Addr) (c6_ : Nat) (A7_ : Option Addr) (c7_ : Nat) (A8_ : Option Addr) (c8_ : Nat) (A9_ : Option Addr) (c9_ : Nat) (w0 : World) (s0_ : SlI w0 enE A0_ c0_ x0.tuple.log) (s1_ : SlI w0 enO A1_ c1_ x0.votes) (s2_ : SlI w0 enI A2_ c2_ x0.next) (s3_ : SlI w0 enI A3_ c3_ x0.mtch) (s4_ : SlI w0 enI A4_ c4_ x0.caps) (s5_ : SlI w0 enE A5_ c5_ x1.tuple.log) (s6_ : SlI w0 enO A6_ c6_ x1.votes) (s7_ : SlI w0 enI A7_ c7_ x1.next) (s8_ : SlI w0 enI A8_ c8_ x1.mtch) (s9_ : SlI w0 enI A9_ c9_ x1.caps) {r : Bool} (H : m_msg_Same x0 x1 = some r) : Calls Try.prog 38 #[.agg #[.int .i64 x0.id, .int .i64 x0.n, .int .u8 x0.role, .int .i64 x0.binary, .int .i64 x0.tuple.snap.index, .int .i64 x0.tuple.snap.term, .int .i64 x0.tuple.snap.sum, .int .i64 x0.tuple.snap.level, .bool x0.tuple.snap.final, .slice A0_ x0.tuple.log.length c0_, .int .i64 x0.tuple.term, .int .i64 x0.tuple.vote, .int .i64 x0.commit, .int .i64 x0.applied.index, .int .i64 x0.applied.term, .int .i64 x0.applied.sum, .int .i64 x0.applied.level, .bool x0.applied.final, .slice A1_ x0.votes.length c1_, .slice A2_ x0.next.length c2_, .slice A3_ x0.mtch.length c3_, .slice A4_ x0.caps.length c4_], .agg #[.int .i64 x1.id, .int .i64 x1.n, .int .u8 x1.role, .int .i64 x1.binary, .int .i64 x1.tuple.snap.index, .int .i64 x1.tuple.snap.term, .int .i64 x1.tuple.snap.sum, .int .i64 x1.tuple.snap.level, .bool x1.tuple.snap.final, .slice A5_ x1.tuple.log.length c5_, .int .i64 x1.tuple.term, .int .i64 x1.tuple.vote, .int .i64 x1.commit, .int .i64 x1.applied.index, .int .i64 x1.applied.term, .int .i64 x1.applied.sum, .int .i64 x1.applied.level, .bool x1.applied.final, .slice A6_ x1.votes.length c6_, .slice A7_ x1.next.length c7_, .slice A8_ x1.mtch.length c8_, .slice A9_ x1.caps.length c9_]] w0 fun e w' => e = .returned (.bool r) ∧ St0 All w0 w' [] := by
  unfold m_msg_Same at H
  refine gw_enter2 Try.func38 rfl Try.ntmps38 rfl ?_
  have hS := St0.start All w0
  refine wpC_seq_k (fun K hK1 => ?_)
  refine wpC_region ?_
  refine wpS_box rfl rfl rfl CellsOf.agg hS (fun b2 w hS hB => ?_)
  refine wpS_box rfl rfl rfl CellsOf.agg hS (fun b4 w hS hB => ?_)
  refine wpS_quick 1 rfl ?_
  refine wpS_nil ?_
  refine QH_seq_k hK1 ?_
  refine wpC_seq_k (fun K hK6 => ?_)
  refine wpC_region ?_
  refine wpS_put rfl rfl rfl (yv_fieldAddr fo_32_0 rfl) ?_
  refine wpS_put rfl rfl rfl (yv_load_box sc_3 rfl (RW.here _) hS hs1 trivial sg0_1) ?_
  refine wpS_put rfl rfl rfl (yv_fieldAddr fo_32_0 rfl) ?_
  refine wpS_put rfl rfl rfl (yv_load_box sc_3 rfl (RW.here _) hS hs0 trivial sg0_1) ?_
  refine wpS_put rfl rfl rfl (yv_eql rfl rfl) ?_
  refine wpS_quick 1 rfl ?_
  refine wpS_case 11 rfl (fun hb => ?_) (fun hb => ?_)
  rotate_left
  · replace H := cond_f H hb
    refine wpS_quick 35 rfl ?_
    refine wpS_nil ?_
    refine QH_seq_k hK6 ?_
    refine wpC_seq_k (fun K hK22 => ?_)
    refine wpC_region ?_
    refine wpS_quick 37 rfl ?_
    refine wpS_nil ?_
    refine QH_seq_k hK22 ?_
    refine wpC_ret ?_
    refine QH_ret rfl (RV.tmp rfl RV.nil) rfl ?_
    obtain rfl := Option.some.inj H
    replace hS := hS.cut 0
    exact ⟨rfl, hS⟩
  replace H := cond_t H hb
  refine wpS_put rfl rfl rfl (yv_fieldAddr fo_32_1 rfl) ?_
  refine wpS_put rfl rfl rfl (yv_load_box sc_3 rfl (RW.here _) hS hs1 trivial sg1_1) ?_
  refine wpS_put rfl rfl rfl (yv_fieldAddr fo_32_1 rfl) ?_
  refine wpS_put rfl rfl rfl (yv_load_box sc_3 rfl (RW.here _) hS hs0 trivial sg1_1) ?_
  refine wpS_put rfl rfl rfl (yv_eql rfl rfl) ?_
  refine wpS_quick 2 rfl ?_
  refine wpS_case 18 rfl (fun hb => ?_) (fun hb => ?_)
  rotate_left
  · replace H := cond_f H hb
    refine wpS_quick 28 rfl ?_
    refine wpS_nil ?_
    refine QH_seq_k hK6 ?_
    refine wpC_seq_k (fun K hK21 => ?_)
    refine wpC_region ?_
    refine wpS_quick 37 rfl ?_
    refine wpS_nil ?_
    refine QH_seq_k hK21 ?_
    refine wpC_ret ?_
    refine QH_ret rfl (RV.tmp rfl RV.nil) rfl ?_
    obtain rfl := Option.some.inj H
    replace hS := hS.cut 0
    exact ⟨rfl, hS⟩
  replace H := cond_t H hb
  refine wpS_put rfl rfl rfl (yv_fieldAddr fo_32_2 rfl) ?_
  refine wpS_put rfl rfl rfl (yv_load_box sc_5 rfl (RW.here _) hS hs1 trivial sg2_1) ?_
  refine wpS_put rfl rfl rfl (yv_fieldAddr fo_32_2 rfl) ?_
  refine wpS_put rfl rfl rfl (yv_load_box sc_5 rfl (RW.here _) hS hs0 trivial sg2_1) ?_
  refine wpS_put rfl rfl rfl (yv_eql rfl rfl) ?_
  refine wpS_quick 2 rfl ?_
  refine wpS_case 25 rfl (fun hb => ?_) (fun hb => ?_)
  rotate_left
  · replace H := cond_f H hb
    refine wpS_quick 21 rfl ?_
    refine wpS_nil ?_
    refine QH_seq_k hK6 ?_
    refine wpC_seq_k (fun K hK20 => ?_)
    refine wpC_region ?_
    refine wpS_quick 37 rfl ?_
    refine wpS_nil ?_
    refine QH_seq_k hK20 ?_
    refine wpC_ret ?_
    refine QH_ret rfl (RV.tmp rfl RV.nil) rfl ?_
    obtain rfl := Option.some.inj H
    replace hS := hS.cut 0
    exact ⟨rfl, hS⟩
  replace H := cond_t H hb
  refine wpS_put rfl rfl rfl (yv_fieldAddr fo_32_3 rfl) ?_
  refine wpS_put rfl rfl rfl (yv_load_box sc_3 rfl (RW.here _) hS hs1 trivial sg3_1) ?_
  refine wpS_put rfl rfl rfl (yv_fieldAddr fo_32_3 rfl) ?_
  refine wpS_put rfl rfl rfl (yv_load_box sc_3 rfl (RW.here _) hS hs0 trivial sg3_1) ?_
  refine wpS_put rfl rfl rfl (yv_eql rfl rfl) ?_
  refine wpS_quick 2 rfl ?_
  refine wpS_case 32 rfl (fun hb => ?_) (fun hb => ?_)
  rotate_left
  · replace H := cond_f H hb
    refine wpS_quick 14 rfl ?_
    refine wpS_nil ?_
    refine QH_seq_k hK6 ?_
    refine wpC_seq_k (fun K hK19 => ?_)
    refine wpC_region ?_
    refine wpS_quick 37 rfl ?_
    refine wpS_nil ?_
    refine QH_seq_k hK19 ?_
    refine wpC_ret ?_
    refine QH_ret rfl (RV.tmp rfl RV.nil) rfl ?_
    obtain rfl := Option.some.inj H
    replace hS := hS.cut 0
    exact ⟨rfl, hS⟩
  replace H := cond_t H hb
  refine wpS_put rfl rfl rfl (yv_fieldAddr fo_32_5 rfl) ?_
  refine wpS_put rfl rfl rfl (yv_load_box sc_3 rfl (RW.here _) hS hs1 trivial sg12_1) ?_
  refine wpS_put rfl rfl rfl (yv_fieldAddr fo_32_5 rfl) ?_
  refine wpS_put rfl rfl rfl (yv_load_box sc_3 rfl (RW.here _) hS hs0 trivial sg12_1) ?_
  refine wpS_put rfl rfl rfl (yv_eql rfl rfl) ?_
  refine wpS_quick 2 rfl ?_
  refine wpS_case 39 rfl (fun hb => ?_) (fun hb => ?_)
  rotate_left
  · replace H := cond_f H hb
    refine wpS_quick 7 rfl ?_
    refine wpS_nil ?_
    refine QH_seq_k hK6 ?_
    refine wpC_seq_k (fun K hK18 => ?_)
    refine wpC_region ?_
    refine wpS_quick 37 rfl ?_
    refine wpS_nil ?_
    refine QH_seq_k hK18 ?_
    refine wpC_ret ?_
    refine QH_ret rfl (RV.tmp rfl RV.nil) rfl ?_
    obtain rfl := Option.some.inj H
    replace hS := hS.cut 0
    exact ⟨rfl, hS⟩
  replace H := cond_t H hb
  refine wpS_put rfl rfl rfl (yv_fieldAddr fo_32_6 rfl) ?_
  refine wpS_put rfl rfl rfl (yv_load_boxA ag_23 rfl (RW.here _) hS hs1 trivial sg13_5) ?_
  refine wpS_put rfl rfl rfl (yv_fieldAddr fo_32_6 rfl) ?_
  refine wpS_put rfl rfl rfl (yv_load_boxA ag_23 rfl (RW.here _) hS hs0 trivial sg13_5) ?_
  refine wpS_put rfl rfl rfl (yv_eqlS (by kernel_rfl) rfl rfl (eqT_23 _ _ _ _ _ _ _ _ _ _)) ?_
  refine wpS_quick 2 rfl ?_
  refine wpS_nil ?_
  refine QH_seq_k hK6 ?_
  refine wpC_seq_k (fun K hK7 => ?_)
  refine wpC_region ?_
  refine wpS_quick 2 rfl ?_
  refine wpS_case 47 rfl (fun hb => ?_) (fun hb => ?_)
  rotate_left
  · replace H := cond_f H hb
    refine wpS_quick 35 rfl ?_
    refine wpS_nil ?_
    refine QH_seq_k hK7 ?_
    refine wpC_ret ?_
    refine QH_ret rfl (RV.tmp rfl RV.nil) rfl ?_
    obtain rfl := Option.some.inj H
    replace hS := hS.cut 0
    exact ⟨rfl, hS⟩
  replace H := cond_t H hb
  refine wpS_put rfl rfl rfl (yv_fieldAddr fo_32_4 rfl) ?_
  refine wpS_put rfl rfl rfl (yv_load_boxA ag_26 rfl (RW.here _) hS hs1 trivial sg4_8) ?_
  refine wpS_put rfl rfl rfl (yv_fieldAddr fo_32_4 rfl) ?_
  refine wpS_put rfl rfl rfl (yv_load_boxA ag_26 rfl (RW.here _) hS hs0 trivial sg4_8) ?_
  obtain ⟨r8, hm9, H⟩ := bind_some H
  refine wpS_call rfl rfl rfl rfl (by kernel_rfl) rfl (c_tuple_Same x0.tuple x1.tuple A0_ c0_ A5_ c5_ _ (SlI.of_rd s0_.k (hS.rd0 s0_.rd) (hS.blk0 s0_.blk)) (SlI.of_rd s5_.k (hS.rd0 s5_.rd) (hS.blk0 s5_.blk)) hm9) ?_
  rintro e w ⟨rfl, hN⟩; refine ⟨_, rfl, ?_⟩; have hB := hN.pure; have hS := hS.join hN; clear hN
  refine wpS_quick 2 rfl ?_
  refine wpS_case 54 rfl (fun hb => ?_) (fun hb => ?_)
  rotate_left
  · replace H := cond_f H hb
    refine wpS_quick 28 rfl ?_
    refine wpS_nil ?_
    refine QH_seq_k hK7 ?_
    refine wpC_ret ?_
    refine QH_ret rfl (RV.tmp rfl RV.nil) rfl ?_
    obtain rfl := Option.some.inj H
    replace hS := hS.cut 0
    exact ⟨rfl, hS⟩
  replace H := cond_t H hb
  refine wpS_put rfl rfl rfl (yv_fieldAddr fo_32_7 rfl) ?_
  refine wpS_put rfl rfl rfl (yv_load_box sc_29 rfl (RW.here _) hS hs1 trivial sg18_1) ?_
  refine wpS_put rfl rfl rfl (yv_fieldAddr fo_32_7 rfl) ?_
  refine wpS_put rfl rfl rfl (yv_load_box sc_29 rfl (RW.here _) hS hs0 trivial sg18_1) ?_
  obtain ⟨r10, hm11, H⟩ := bind_some H
  refine wpS_call rfl rfl rfl rfl (by kernel_rfl) rfl (c_slices_Equal___bool_bool_ x0.votes x1.votes A1_ c1_ A6_ c6_ _ (SlI.of_rd s1_.k (hS.rd0 s1_.rd) (hS.blk0 s1_.blk)) (SlI.of_rd s6_.k (hS.rd0 s6_.rd) (hS.blk0 s6_.blk)) hm11) ?_
  rintro e w ⟨rfl, hN⟩; refine ⟨_, rfl, ?_⟩; have hB := hN.pure; have hS := hS.join hN; clear hN
  refine wpS_quick 2 rfl ?_
  refine wpS_case 61 rfl (fun hb => ?_) (fun hb => ?_)
  rotate_left
  · replace H := cond_f H hb
    refine wpS_quick 21 rfl ?_
    refine wpS_nil ?_
    refine QH_seq_k hK7 ?_
    refine wpC_ret ?_
    refine QH_ret rfl (RV.tmp rfl RV.nil) rfl ?_
    obtain rfl := Option.some.inj H
    replace hS := hS.cut 0
    exact ⟨rfl, hS⟩
  replace H := cond_t H hb
  refine wpS_put rfl rfl rfl (yv_fieldAddr fo_32_8 rfl) ?_
  refine wpS_put rfl rfl rfl (yv_load_box sc_30 rfl (RW.here _) hS hs1 trivial sg19_1) ?_
  refine wpS_put rfl rfl rfl (yv_fieldAddr fo_32_8 rfl) ?_
  refine wpS_put rfl rfl rfl (yv_load_box sc_30 rfl (RW.here _) hS hs0 trivial sg19_1) ?_
  obtain ⟨r12, hm13, H⟩ := bind_some H
  refine wpS_call rfl rfl rfl rfl (by kernel_rfl) rfl (c_slices_Equal___int_int_ x0.next x1.next A2_ c2_ A7_ c7_ _ (SlI.of_rd s2_.k (hS.rd0 s2_.rd) (hS.blk0 s2_.blk)) (SlI.of_rd s7_.k (hS.rd0 s7_.rd) (hS.blk0 s7_.blk)) hm13) ?_
  rintro e w ⟨rfl, hN⟩; refine ⟨_, rfl, ?_⟩; have hB := hN.pure; have hS := hS.join hN; clear hN
  refine wpS_quick 2 rfl ?_
  refine wpS_case 68 rfl (fun hb => ?_) (fun hb => ?_)
  rotate_left
  · replace H := cond_f H hb
    refine wpS_quick 14 rfl ?_
    refine wpS_nil ?_
    refine QH_seq_k hK7 ?_
    refine wpC_ret ?_
    refine QH_ret rfl (RV.tmp rfl RV.nil) rfl ?_
    obtain rfl := Option.some.inj H
    replace hS := hS.cut 0
    exact ⟨rfl, hS⟩
  replace H := cond_t H hb
  refine wpS_put rfl rfl rfl (yv_fieldAddr fo_32_9 rfl) ?_
  refine wpS_put rfl rfl rfl (yv_load_box sc_30 rfl (RW.here _) hS hs1 trivial sg20_1) ?_
  refine wpS_put rfl rfl rfl (yv_fieldAddr fo_32_9 rfl) ?_
  refine wpS_put rfl rfl rfl (yv_load_box sc_30 rfl (RW.here _) hS hs0 trivial sg20_1) ?_
  obtain ⟨r14, hm15, H⟩ := bind_some H
  refine wpS_call rfl rfl rfl rfl (by kernel_rfl) rfl (c_slices_Equal___int_int_ x0.mtch x1.mtch A3_ c3_ A8_ c8_ _ (SlI.of_rd s3_.k (hS.rd0 s3_.rd) (hS.blk0 s3_.blk)) (SlI.of_rd s8_.k (hS.rd0 s8_.rd) (hS.blk0 s8_.blk)) hm15) ?_
  rintro e w ⟨rfl, hN⟩; refine ⟨_, rfl, ?_⟩; have hB := hN.pure; have hS := hS.join hN; clear hN
  refine wpS_quick 2 rfl ?_
  refine wpS_case 75 rfl (fun hb => ?_) (fun hb => ?_)
  rotate_left
  · replace H := cond_f H hb
    refine wpS_quick 7 rfl ?_
    refine wpS_nil ?_
    refine QH_seq_k hK7 ?_
    refine wpC_ret ?_
    refine QH_ret rfl (RV.tmp rfl RV.nil) rfl ?_
    obtain rfl := Option.some.inj H
    replace hS := hS.cut 0
    exact ⟨rfl, hS⟩
  replace H := cond_t H hb
  refine wpS_put rfl rfl rfl (yv_fieldAddr fo_32_10 rfl) ?_
  refine wpS_put rfl rfl rfl (yv_load_box sc_30 rfl (RW.here _) hS hs1 trivial sg21_1) ?_
  refine wpS_put rfl rfl rfl (yv_fieldAddr fo_32_10 rfl) ?_
  refine wpS_put rfl rfl rfl (yv_load_box sc_30 rfl (RW.here _) hS hs0 trivial sg21_1) ?_
  obtain ⟨r16, hm17, H⟩ := bind_some H
  refine wpS_call rfl rfl rfl rfl (by kernel_rfl) rfl (c_slices_Equal___int_int_ x0.caps x1.caps A4_ c4_ A9_ c9_ _ (SlI.of_rd s4_.k (hS.rd0 s4_.rd) (hS.blk0 s4_.blk)) (SlI.of_rd s9_.k (hS.rd0 s9_.rd) (hS.blk0 s9_.blk)) hm17) ?_
  rintro e w ⟨rfl, hN⟩; refine ⟨_, rfl, ?_⟩; have hB := hN.pure; have hS := hS.join hN; clear hN
  refine wpS_quick 2 rfl ?_
  refine wpS_nil ?_
  refine QH_seq_k hK7 ?_
  refine wpC_ret ?_
  refine QH_ret rfl (RV.tmp rfl RV.nil) rfl ?_
  obtain rfl := Option.some.inj H
  replace hS := hS.cut 0
  exact ⟨rfl, hS⟩
theorem c_msg_Alike (x0 : Ms) (x1 : Ms) (A0_ : Option Addr) (c0_ : Nat) (A1_ : Option Addr) (c1_ : Nat) (w0 : World) (s0_ : SlI w0 enE A0_ c0_ x0.entries) (s1_ : SlI w0 enE A1_ c1_ x1.entries) {r : Bool} (H : m_msg_Alike x0 x1 = some r) : Calls Try.prog 40 #[.agg #[.int .u8 x0.kind, .int .i64 x0.frm, .int .i64 x0.dst, .int .i64 x0.term, .int .i64 x0.cap, .int .i64 x0.last, .int .i64 x0.lastTerm, .int .i64 x0.commit, .bool x0.okk, .slice A0_ x0.entries.length c0_, .int .i64 x0.snap.index, .int .i64 x0.snap.term, .int .i64 x0.snap.sum, .int .i64 x0.snap.level, .bool x0.snap.final], .agg #[.int .u8 x1.kind, .int .i64 x1.frm, .int .i64 x1.dst, .int .i64 x1.term, .int .i64 x1.cap, .int .i64 x1.last, .int .i64 x1.lastTerm, .int .i64 x1.commit, .bool x1.okk, .slice A1_ x1.entries.length c1_, .int .i64 x1.snap.index, .int .i64 x1.snap.term, .int .i64 x1.snap.sum, .int .i64 x1.snap.level, .bool x1.snap.final]] w0 fun e w' => e = .returned (.bool r) ∧ St0 All w0 w' [] := by
  unfold m_msg_Alike at H
  refine gw_enter2 Try.func40 rfl Try.ntmps40 rfl ?_
  have hS := St0.start All w0
  refine wpC_seq_k (fun K hK1 => ?_)
  refine wpC_region ?_
  refine wpS_box rfl rfl rfl CellsOf.agg hS (fun b2 w hS hB => ?_)
  refine wpS_box rfl rfl rfl CellsOf.agg hS (fun b4 w hS hB => ?_)
  refine wpS_quick 1 rfl ?_
  refine wpS_nil ?_
  refine QH_seq_k hK1 ?_
  refine wpC_seq_k (fun K hK6 => ?_)
  refine wpC_draw 6 [4, 5] (fun i b => (i = 4 → b = b4 ∨ b = b2) ∧ (i = 5 → b = b4 ∨ b = b2)) ⟨by kernel_rfl, by kernel_rfl⟩ hS (fun w hS hB => ?_)
  refine wpRF_start [⟨2, 5, 39, [.int .u8 0, .int .i64 0, .int .i64 0, .int .i64 0, .int .i64 0, .int .i64 0, .int .i64 0, .int .i64 0, .bool false, .slice none 0 0, .int .i64 0, .int .i64 0, .int .i64 0, .int .i64 0, .bool false]⟩, ⟨3, 6, 39, [.int .u8 0, .int .i64 0, .int .i64 0, .int .i64 0, .int .i64 0, .int .i64 0, .int .i64 0, .int .i64 0, .bool false, .slice none 0 0, .int .i64 0, .int .i64 0, .int .i64 0, .int .i64 0, .bool false]⟩] (.cons rfl zc_39 rfl rfl rfl (.cons rfl zc_39 rfl rfl rfl .nil)) hS (fun hok => ?_)
  dsimp only [List.cons_append, List.nil_append]
  refine wpRF_batch [true] [] (fun _ => True) (by decide +kernel) (fun _ h => by cases h) (by repeat (first | exact PF.body | exact PF.round | apply PF.then | apply PF.inBlock | apply PF.jump)) (fun X Y tk ht w hS => ?_)
  refine LtK.put rfl rfl rfl (yv_load_boxA ag_39 rfl (RW.keepB _ _) hS hs1 trivial sg0_15) ?_
  refine LtK_F' ht hS (by repeat (first | exact App.nil | apply App.cons)) (by repeat (first | exact App.nil | apply App.cons)) ?_
  dsimp only [List.cons_append, List.nil_append]
  refine wpRF_batch [false, true] [4] (fun b => (b = b4 ∨ b = b2)) (by decide +kernel) (by intro j hj b hb; simp only [List.mem_cons, List.not_mem_nil, or_false] at hj; (try rcases hj with rfl | rfl | rfl | rfl | rfl) <;> simp_all) (by repeat (first | exact PF.body | exact PF.round | apply PF.then | apply PF.inBlock | apply PF.jump)) (fun X Y tk ht w hS => ?_)
  refine LtK.put rfl rfl rfl (yv_load_boxA ag_39 rfl (RW.keepB _ _) hS hs0 (.inl rfl) sg0_15) ?_
  refine LtK_F' ht hS (by repeat (first | exact App.nil | apply App.cons)) (by repeat (first | exact App.nil | apply App.cons)) ?_
  dsimp only [List.cons_append, List.nil_append]
  refine wpRF_done hok (by decide) (by decide +kernel) (fun _ => rfl) (fun _ => rfl) rfl (fun tk htk w hS => ?_)
  obtain ⟨b7, tkb7, rfl, htk9⟩ := tk_cons htk
  obtain ⟨b10, tkb10, rfl, htk12⟩ := tk_cons htk9
  obtain rfl := tk_nil htk12
  dsimp only [tkH, tkL, List.map] at hS ⊢
  refine wpR_seal [false, false, false, false, true] 4 ⟨by decide, by kernel_rfl, by kernel_rfl⟩ rfl rfl ?_
  try dsimp only [pickL]
  refine wpS_store rfl rfl rfl CellsOf.agg hS ps2 st0_15 (by kernel_rfl) rfl (fun w hS hB => ?_)
  refine wpS_nil ?_
  refine QH_stepG (hB.sub (fun b _ h => by have h0 : b = b4 ∨ b = b2 := (by simpa using h); rcases h0 with h0 | h0; (rw [h0]; exact hS.ne 0 2 rfl rfl rfl); (rw [h0]; exact hS.ne 1 2 rfl rfl rfl))) ?_
  refine wpR_seal [false, false, false, false, false, true] 5 ⟨by decide, by kernel_rfl, by kernel_rfl⟩ rfl rfl ?_
  try dsimp only [pickL]
  refine wpS_store rfl rfl rfl CellsOf.agg hS ps3 st0_15 (by kernel_rfl) rfl (fun w hS hB => ?_)
  refine wpS_nil ?_
  refine QH_stepG (hB.sub (fun b _ h => by have h0 : b = b4 ∨ b = b2 := (by simpa using h); rcases h0 with h0 | h0; (rw [h0]; exact hS.ne 0 3 rfl rfl rfl); (rw [h0]; exact hS.ne 1 3 rfl rfl rfl))) ?_
  refine wpR_end (by kernel_rfl) ?_
  refine QH_seq_k hK6 ?_
  refine wpC_seq_k (fun K hK13 => ?_)
  refine wpC_region ?_
  refine wpS_put rfl rfl rfl (yv_fieldAddr fo_39_9 rfl) ?_
  refine wpS_put rfl rfl rfl (yv_load_box sc_24 rfl (RW.here _) hS hs1 trivial sg9_1) ?_
  refine wpS_put rfl rfl rfl (yv_fieldAddr fo_39_9 rfl) ?_
  refine wpS_put rfl rfl rfl (yv_load_box sc_24 rfl (RW.here _) hS hs0 trivial sg9_1) ?_
  obtain ⟨r14, hm15, H⟩ := bind_some H
  refine wpS_call rfl rfl rfl rfl (by kernel_rfl) rfl (c_slices_Equal___api_Entry_api_Entry_ x0.entries x1.entries A0_ c0_ A1_ c1_ _ (SlI.of_rd s0_.k (hS.rd0 s0_.rd) (hS.blk0 s0_.blk)) (SlI.of_rd s1_.k (hS.rd0 s1_.rd) (hS.blk0 s1_.blk)) hm15) ?_
  rintro e w ⟨rfl, hN⟩; refine ⟨_, rfl, ?_⟩; have hB := hN.pure; have hS := hS.join hN; clear hN
  refine wpS_quick 1 rfl ?_
  refine wpS_case 15 rfl (fun hb => ?_) (fun hb => ?_)
  rotate_left
  · replace H := cond_f H hb
    refine wpS_quick 21 rfl ?_
    refine wpS_nil ?_
    refine QH_seq_k hK13 ?_
    refine wpC_seq_k (fun K hK19 => ?_)
    refine wpC_region ?_
    refine wpS_quick 35 rfl ?_
    refine wpS_nil ?_
    refine QH_seq_k hK19 ?_
    refine wpC_ret ?_
    refine QH_ret rfl (RV.tmp rfl RV.nil) rfl ?_
    obtain rfl := Option.some.inj H
    replace hS := hS.cut 0
    exact ⟨rfl, hS⟩
  replace H := cond_t H hb
  refine wpS_put rfl rfl rfl (yv_fieldAddr fo_39_0 rfl) ?_
  refine wpS_put rfl rfl rfl (yv_load_box sc_5 rfl (RW.here _) hS hs1 trivial sg0_1) ?_
  refine wpS_put rfl rfl rfl (yv_fieldAddr fo_39_0 rfl) ?_
  refine wpS_put rfl rfl rfl (yv_load_box sc_5 rfl (RW.here _) hS hs0 trivial sg0_1) ?_
  refine wpS_put rfl rfl rfl (yv_eql rfl rfl) ?_
  refine wpS_quick 2 rfl ?_
  refine wpS_case 22 rfl (fun hb => ?_) (fun hb => ?_)
  rotate_left
  · replace H := cond_f H hb
    refine wpS_quick 14 rfl ?_
    refine wpS_nil ?_
    refine QH_seq_k hK13 ?_
    refine wpC_seq_k (fun K hK18 => ?_)
    refine wpC_region ?_
    refine wpS_quick 35 rfl ?_
    refine wpS_nil ?_
    refine QH_seq_k hK18 ?_
    refine wpC_ret ?_
    refine QH_ret rfl (RV.tmp rfl RV.nil) rfl ?_
    obtain rfl := Option.some.inj H
    replace hS := hS.cut 0
    exact ⟨rfl, hS⟩
  replace H := cond_t H hb
  refine wpS_put rfl rfl rfl (yv_fieldAddr fo_39_8 rfl) ?_
  refine wpS_put rfl rfl rfl (yv_load_box sc_4 rfl (RW.here _) hS hs1 trivial sg8_1) ?_
  refine wpS_put rfl rfl rfl (yv_fieldAddr fo_39_8 rfl) ?_
  refine wpS_put rfl rfl rfl (yv_load_box sc_4 rfl (RW.here _) hS hs0 trivial sg8_1) ?_
  refine wpS_put rfl rfl rfl (yv_eqlB (by kernel_rfl) rfl rfl) ?_
  refine wpS_quick 2 rfl ?_
  refine wpS_case 29 rfl (fun hb => ?_) (fun hb => ?_)
  rotate_left
  · replace H := cond_f H hb
    refine wpS_quick 7 rfl ?_
    refine wpS_nil ?_
    refine QH_seq_k hK13 ?_
    refine wpC_seq_k (fun K hK17 => ?_)
    refine wpC_region ?_
    refine wpS_quick 35 rfl ?_
    refine wpS_nil ?_
    refine QH_seq_k hK17 ?_
    refine wpC_ret ?_
    refine QH_ret rfl (RV.tmp rfl RV.nil) rfl ?_
    obtain rfl := Option.some.inj H
    replace hS := hS.cut 0
    exact ⟨rfl, hS⟩
  replace H := cond_t H hb
  refine wpS_put rfl rfl rfl (yv_fieldAddr fo_39_10 rfl) ?_
  refine wpS_put rfl rfl rfl (yv_load_boxA ag_23 rfl (RW.here _) hS hs1 trivial sg10_5) ?_
  refine wpS_put rfl rfl rfl (yv_fieldAddr fo_39_10 rfl) ?_
  refine wpS_put rfl rfl rfl (yv_load_boxA ag_23 rfl (RW.here _) hS hs0 trivial sg10_5) ?_
  refine wpS_put rfl rfl rfl (yv_eqlS (by kernel_rfl) rfl rfl (eqT_23 _ _ _ _ _ _ _ _ _ _)) ?_
  refine wpS_quick 2 rfl ?_
  refine wpS_nil ?_
  refine QH_seq_k hK13 ?_
  refine wpC_seq_k (fun K hK16 => ?_)
  refine wpC_region ?_
  refine wpS_quick 2 rfl ?_
  refine wpS_case 37 rfl (fun hb => ?_) (fun hb => ?_)
  rotate_left
  · replace H := cond_f H hb
    refine wpS_quick 33 rfl ?_
    refine wpS_nil ?_
    refine QH_seq_k hK16 ?_
    refine wpC_ret ?_
    refine QH_ret rfl (RV.tmp rfl RV.nil) rfl ?_
    obtain rfl := Option.some.inj H
    replace hS := hS.cut 0
    exact ⟨rfl, hS⟩
  replace H := cond_t H hb
  refine wpS_put rfl rfl rfl (yv_fieldAddr fo_39_1 rfl) ?_
  refine wpS_put rfl rfl rfl (yv_load_box sc_3 rfl (RW.here _) hS hs2 trivial sg1_1) ?_
  refine wpS_put rfl rfl rfl (yv_fieldAddr fo_39_2 rfl) ?_
  refine wpS_put rfl rfl rfl (yv_load_box sc_3 rfl (RW.here _) hS hs2 trivial sg2_1) ?_
  refine wpS_put rfl rfl rfl (yv_fieldAddr fo_39_3 rfl) ?_
  refine wpS_put rfl rfl rfl (yv_load_box sc_3 rfl (RW.here _) hS hs2 trivial sg3_1) ?_
  refine wpS_put rfl rfl rfl (yv_fieldAddr fo_39_4 rfl) ?_
  refine wpS_put rfl rfl rfl (yv_load_box sc_3 rfl (RW.here _) hS hs2 trivial sg4_1) ?_
  refine wpS_put rfl rfl rfl (yv_fieldAddr fo_39_5 rfl) ?_
  refine wpS_put rfl rfl rfl (yv_load_box sc_3 rfl (RW.here _) hS hs2 trivial sg5_1) ?_
  refine wpS_put rfl rfl rfl (yv_fieldAddr fo_39_6 rfl) ?_
  refine wpS_put rfl rfl rfl (yv_load_box sc_3 rfl (RW.here _) hS hs2 trivial sg6_1) ?_
  refine wpS_put rfl rfl rfl (yv_fieldAddr fo_39_7 rfl) ?_
  refine wpS_put rfl rfl rfl (yv_load_box sc_3 rfl (RW.here _) hS hs2 trivial sg7_1) ?_
  refine wpS_put rfl rfl rfl (yv_build (cells := [.int .i64 x0.frm, .int .i64 x0.dst, .int .i64 x0.term, .int .i64 x0.cap, .int .i64 x0.last, .int .i64 x0.lastTerm, .int .i64 x0.commit]) rfl (by kernel_rfl)) ?_
  refine wpS_put rfl rfl rfl (yv_fieldAddr fo_39_1 rfl) ?_
  refine wpS_put rfl rfl rfl (yv_load_box sc_3 rfl (RW.here _) hS hs3 trivial sg1_1) ?_
  refine wpS_put rfl rfl rfl (yv_fieldAddr fo_39_2 rfl) ?_
  refine wpS_put rfl rfl rfl (yv_load_box sc_3 rfl (RW.here _) hS hs3 trivial sg2_1) ?_
  refine wpS_put rfl rfl rfl (yv_fieldAddr fo_39_3 rfl) ?_
  refine wpS_put rfl rfl rfl (yv_load_box sc_3 rfl (RW.here _) hS hs3 trivial sg3_1) ?_
  refine wpS_put rfl rfl rfl (yv_fieldAddr fo_39_4 rfl) ?_
  refine wpS_put rfl rfl rfl (yv_load_box sc_3 rfl (RW.here _) hS hs3 trivial sg4_1) ?_
  refine wpS_put rfl rfl rfl (yv_fieldAddr fo_39_5 rfl) ?_
  refine wpS_put rfl rfl rfl (yv_load_box sc_3 rfl (RW.here _) hS hs3 trivial sg5_1) ?_
  refine wpS_put rfl rfl rfl (yv_fieldAddr fo_39_6 rfl) ?_
  refine wpS_put rfl rfl rfl (yv_load_box sc_3 rfl (RW.here _) hS hs3 trivial sg6_1) ?_
  refine wpS_put rfl rfl rfl (yv_fieldAddr fo_39_7 rfl) ?_
  refine wpS_put rfl rfl rfl (yv_load_box sc_3 rfl (RW.here _) hS hs3 trivial sg7_1) ?_
  refine wpS_put rfl rfl rfl (yv_build (cells := [.int .i64 x1.frm, .int .i64 x1.dst, .int .i64 x1.term, .int .i64 x1.cap, .int .i64 x1.last, .int .i64 x1.lastTerm, .int .i64 x1.commit]) rfl (by kernel_rfl)) ?_
  refine wpS_put rfl rfl rfl (yv_eqlS (by kernel_rfl) rfl rfl (eqT_90 _ _ _ _ _ _ _ _ _ _ _ _ _ _)) ?_
  refine wpS_quick 2 rfl ?_
  refine wpS_nil ?_
  refine QH_seq_k hK16 ?_
  refine wpC_ret ?_
  refine QH_ret rfl (RV.tmp rfl RV.nil) rfl ?_
  obtain rfl := Option.some.inj H
  replace hS := hS.cut 0
  exact ⟨rfl, hS⟩
theorem c_msg_entries (x0 : Ms) (A0_ : Option Addr) (c0_ : Nat) (w0 : World) (s0_ : SlI w0 enE A0_ c0_ x0.entries) {r : Bool} (H : m_msg_entries x0 = some r) : Calls Try.prog 58 #[.agg #[.int .u8 x0.kind, .int .i64 x0.frm, .int .i64 x0.dst, .int .i64 x0.term, .int .i64 x0.cap, .int .i64 x0.last, .int .i64 x0.lastTerm, .int .i64 x0.commit, .bool x0.okk, .slice A0_ x0.entries.length c0_, .int .i64 x0.snap.index, .int .i64 x0.snap.term, .int .i64 x0.snap.sum, .int .i64 x0.snap.level, .bool x0.snap.final]] w0 fun e w' => e = .returned (.bool r) ∧ St0 All w0 w' [] := by
  unfold m_msg_entries at H
  refine gw_enter1 Try.func58 rfl Try.ntmps58 rfl ?_
  have hS := St0.start All w0
  refine wpC_seq_k (fun K hK1 => ?_)
  refine wpC_region ?_
  refine wpS_box rfl rfl rfl CellsOf.agg hS (fun b2 w hS hB => ?_)
  refine wpS_quick 1 rfl ?_
  refine wpS_nil ?_
  refine QH_seq_k hK1 ?_
  refine wpC_seq_k (fun K hK4 => ?_)
  refine wpC_region ?_
  refine wpS_put rfl rfl rfl (yv_fieldAddr fo_39_6 rfl) ?_
  refine wpS_put rfl rfl rfl (yv_load_box sc_3 rfl (RW.here _) hS hs0 trivial sg6_1) ?_
  refine wpS_quick 1 rfl ?_
  refine wpS_nil ?_
  refine QH_seq_k hK4 ?_
  refine wpC_seq_k (fun K hK5 => ?_)
  refine wpC_seq_k (fun K hK6 => ?_)
  refine wpC_region ?_
  refine wpS_put rfl rfl rfl (yv_fieldAddr fo_39_9 rfl) ?_
  refine wpS_put rfl rfl rfl (yv_load_box sc_24 rfl (RW.here _) hS hs0 trivial sg9_1) ?_
  refine wpS_put rfl rfl rfl (yv_len el_24 rfl) ?_
  refine wpS_quick 1 rfl ?_
  refine wpS_nil ?_
  refine QH_seq_k hK6 ?_
  refine wpC_block ?_
  refine wpC_loop (X := Nat × Bool × Int × Int) (fun x => (1, .pointer (some ⟨b2, 0, none⟩)) :: (2, .bool x.2.1) :: (3, .int .i64 x.2.2.1) :: (9, .slice A0_ x0.entries.length c0_) :: (10, .int .i64 (x0.entries.length : Int)) :: (11, .int .i64 x.2.2.2) :: []) (fun x w => St0 All w0 w (.box b2 [.int .u8 x0.kind, .int .i64 x0.frm, .int .i64 x0.dst, .int .i64 x0.term, .int .i64 x0.cap, .int .i64 x0.last, .int .i64 x0.lastTerm, .int .i64 x0.commit, .bool x0.okk, .slice A0_ x0.entries.length c0_, .int .i64 x0.snap.index, .int .i64 x0.snap.term, .int .i64 x0.snap.sum, .int .i64 x0.snap.level, .bool x0.snap.final] 39 :: []) ∧ m_msg_entries_l1 x0 x.1 x.2.1 x.2.2.1 x.2.2.2 = some r) (fun x => x.1) (fuelN, false, x0.lastTerm, 0) (by repeat (first | exact Sub.nil | refine Sub.cons rfl ?_)) ⟨hS, H⟩ ?_
  rintro ⟨n, v7, v8, v9⟩ w ⟨hS, H⟩
  dsimp only at hS H ⊢
  obtain _ | n := n
  · have H0 : none = some r := H
    cases H0
  rw [m_msg_entries_l1] at H
  refine wpC_seq_k (fun K hK10 => ?_)
  refine wpC_region ?_
  refine wpS_put rfl rfl rfl (yv_lss rfl rfl) ?_
  refine wpS_nil ?_
  refine QH_seq_k hK10 ?_
  refine wpC_seq_k (fun K hK11 => ?_)
  refine wpC_cond rfl (fun hb => ?_) (fun hb => ?_)
  rotate_left
  · replace H := cond_f H hb
    refine wpC_exit ?_
    refine QH_then_exit ?_
    refine QH_then_exit ?_
    refine QH_block_hit ?_
    refine QH_seq_k hK5 ?_
    refine wpC_seq_k (fun K hK27 => ?_)
    refine wpC_region ?_
    refine wpS_put rfl rfl rfl (yv_fieldAddr fo_39_9 rfl) ?_
    refine wpS_put rfl rfl rfl (yv_load_box sc_24 rfl (RW.here _) hS hs0 trivial sg9_1) ?_
    refine wpS_put rfl rfl rfl (yv_len el_24 rfl) ?_
    refine wpS_put rfl rfl rfl (yv_leq rfl rfl) ?_
    refine wpS_quick 1 rfl ?_
    refine wpS_nil ?_
    refine QH_seq_k hK27 ?_
    refine wpC_ret ?_
    refine QH_ret rfl (RV.tmp rfl RV.nil) rfl ?_
    obtain rfl := Option.some.inj H
    replace hS := hS.cut 0
    exact ⟨rfl, hS⟩
  replace H := cond_t H hb
  refine wpC_skip ?_
  refine QH_seq_k hK11 ?_
  refine wpC_seq_k (fun K hK12 => ?_)
  refine wpC_block ?_
  refine wpC_seq_k (fun K hK13 => ?_)
  refine wpC_region ?_
  obtain ⟨e14, hi16, H⟩ := bind_some H
  obtain ⟨j15, hi16a, hi16b, hi16c⟩ := idx_some hi16
  refine wpS_put rfl rfl rfl (yx_idx el_24 rfl rfl hi16a hi16c (Rd.el (hS.rd0 s0_.rd) he_enE hi16b)) ?_
  refine wpS_put rfl rfl rfl (yx_ldA0 ag_47 rfl (RW.here _) (Rd.el (hS.rd0 s0_.rd) he_enE hi16b) sg0_3) ?_
  refine wpS_alloc rfl rfl zc_47 hS (fun b17 w hS hB => ?_)
  refine wpS_store rfl rfl rfl CellsOf.agg hS ps0 st0_3 (by kernel_rfl) rfl (fun w hS hB => ?_)
  refine wpS_nil ?_
  refine QH_seq_k hK13 ?_
  refine wpC_seq_k (fun K hK19 => ?_)
  refine wpC_seq_k (fun K hK20 => ?_)
  refine wpC_region ?_
  refine wpS_put rfl rfl rfl (yv_load_boxA ag_47 rfl (RW.here _) hS hs0 trivial sg0_3) ?_
  obtain ⟨r21, hm22, H⟩ := bind_some H
  refine wpS_call rfl rfl rfl rfl (by kernel_rfl) rfl (c_entry_Right e14 _ hm22) ?_
  rintro e w ⟨rfl, hN⟩; refine ⟨_, rfl, ?_⟩; have hB := hN.pure; have hS := hS.join hN; clear hN
  refine wpS_put rfl rfl rfl (yv_not rfl) ?_
  refine wpS_quick 1 rfl ?_
  refine wpS_case 18 rfl (fun hb => ?_) (fun hb => ?_)
  · replace H := cond_t H hb
    refine wpS_quick 8 rfl ?_
    refine wpS_nil ?_
    refine QH_seq_k hK20 ?_
    refine wpC_cond_t rfl rfl ?_
    refine wpC_seq_k (fun K hK23 => ?_)
    refine wpC_region ?_
    refine wpS_quick 1 rfl ?_
    refine wpS_nil ?_
    refine QH_seq_k hK23 ?_
    refine wpC_ret ?_
    refine QH_then_ret ?_
    refine QH_block_ret ?_
    refine QH_then_ret ?_
    refine QH_then_ret ?_
    refine QH_block_ret ?_
    refine QH_then_ret ?_
    refine QH_ret rfl (RV.tmp rfl RV.nil) rfl ?_
    obtain rfl := Option.some.inj H
    replace hS := hS.cut 0
    exact ⟨rfl, hS⟩
  replace H := cond_f H hb
  refine wpS_put rfl rfl rfl (yv_fieldAddr fo_47_0 rfl) ?_
  refine wpS_put rfl rfl rfl (yv_load_box sc_3 rfl (RW.here _) hS hs0 trivial sg0_1) ?_
  refine wpS_quick 1 rfl ?_
  refine wpS_put rfl rfl rfl (yv_fieldAddr fo_39_3 rfl) ?_
  refine wpS_put rfl rfl rfl (yv_load_box sc_3 rfl (RW.here _) hS hs1 trivial sg3_1) ?_
  obtain ⟨r24, hm25, H⟩ := bind_some H
  refine wpS_call rfl rfl rfl rfl (by kernel_rfl) rfl (c_msg_within e14.term v8 x0.term _ hm25) ?_
  rintro e w ⟨rfl, hN⟩; refine ⟨_, rfl, ?_⟩; have hB := hN.pure; have hS := hS.join hN; clear hN
  refine wpS_put rfl rfl rfl (yv_not rfl) ?_
  refine wpS_quick 1 rfl ?_
  refine wpS_nil ?_
  refine QH_seq_k hK20 ?_
  refine wpC_cond rfl (fun hb => ?_) (fun hb => ?_)
  rotate_left
  · replace H := cond_f H hb
    refine wpC_skip ?_
    refine QH_seq_k hK19 ?_
    refine wpC_region ?_
    refine wpS_put rfl rfl rfl (yv_fieldAddr fo_47_0 rfl) ?_
    refine wpS_put rfl rfl rfl (yv_load_box sc_3 rfl (RW.here _) hS hs0 trivial sg0_1) ?_
    refine wpS_quick 1 rfl ?_
    refine wpS_nil ?_
    refine QH_block_normal ?_
    refine QH_seq_k hK12 ?_
    refine wpC_region ?_
    refine wpS_put rfl rfl rfl (yx_add rfl rfl) ?_
    refine wpS_quick 1 rfl ?_
    refine wpS_nil ?_
    exact QH_again (n, v7, e14.term, (IntKind.wrap .i64 (v9 + 1))) (by repeat (first | exact Sub.nil | refine Sub.cons rfl ?_)) ⟨(hS.sub (List.Sublist.cons _ (List.Sublist.cons_cons _ List.Sublist.slnil))), H⟩ (Nat.lt_succ_self _)
  replace H := cond_t H hb
  refine wpC_seq_k (fun K hK26 => ?_)
  refine wpC_region ?_
  refine wpS_quick 1 rfl ?_
  refine wpS_nil ?_
  refine QH_seq_k hK26 ?_
  refine wpC_ret ?_
  refine QH_then_ret ?_
  refine QH_block_ret ?_
  refine QH_then_ret ?_
  refine QH_then_ret ?_
  refine QH_block_ret ?_
  refine QH_then_ret ?_
  refine QH_ret rfl (RV.tmp rfl RV.nil) rfl ?_
  obtain rfl := Option.some.inj H
  replace hS := hS.cut 0
  exact ⟨rfl, hS⟩
theorem c_msg_Fine (x0 : Ms) (x1 : Int) (A0_ : Option Addr) (c0_ : Nat) (w0 : World) (s0_ : SlI w0 enE A0_ c0_ x0.entries) {r : Bool} (H : m_msg_Fine x0 x1 = some r) : Calls Try.prog 19 #[.agg #[.int .u8 x0.kind, .int .i64 x0.frm, .int .i64 x0.dst, .int .i64 x0.term, .int .i64 x0.cap, .int .i64 x0.last, .int .i64 x0.lastTerm, .int .i64 x0.commit, .bool x0.okk, .slice A0_ x0.entries.length c0_, .int .i64 x0.snap.index, .int .i64 x0.snap.term, .int .i64 x0.snap.sum, .int .i64 x0.snap.level, .bool x0.snap.final], .int .i64 x1] w0 fun e w' => e = .returned (.bool r) ∧ St0 All w0 w' [] := by
  unfold m_msg_Fine at H
  refine gw_enter2 Try.func19 rfl Try.ntmps19 rfl ?_
  have hS := St0.start All w0
  refine wpC_seq_k (fun K hK1 => ?_)
  refine wpC_region ?_
  refine wpS_box rfl rfl rfl CellsOf.agg hS (fun b2 w hS hB => ?_)
  refine wpS_quick 1 rfl ?_
  refine wpS_nil ?_
  refine QH_seq_k hK1 ?_
  refine wpC_scope1 0 rfl ?_
  refine wpC_seq_k (fun K hK4 => ?_)
  refine wpC_seq_k (fun K hK5 => ?_)
  refine wpC_region ?_
  refine wpS_quick 1 rfl ?_
  obtain ⟨r6, hm7, H⟩ := bind_some H
  refine wpS_call rfl rfl rfl rfl (by kernel_rfl) rfl (c_msg_within x1 1 5 _ hm7) ?_
  rintro e w ⟨rfl, hN⟩; refine ⟨_, rfl, ?_⟩; have hB := hN.pure; have hS := hS.join hN; clear hN
  refine wpS_put rfl rfl rfl (yv_not rfl) ?_
  refine wpS_quick 1 rfl ?_
  refine wpS_case 8 rfl (fun hb => ?_) (fun hb => ?_)
  · replace H := cond_t H hb
    refine wpS_quick 16 rfl ?_
    refine wpS_nil ?_
    refine QH_seq_k hK5 ?_
    refine wpC_cond_t rfl rfl ?_
    refine wpC_goto ?_
    refine QH_then_goto ?_
    refine QH_ahead ?_
    refine wpC_seq_k (fun K hK8 => ?_)
    refine wpC_skip ?_
    refine QH_seq_k hK8 ?_
    refine wpC_seq_k (fun K hK9 => ?_)
    refine wpC_region ?_
    refine wpS_quick 1 rfl ?_
    refine wpS_nil ?_
    refine QH_seq_k hK9 ?_
    refine wpC_ret ?_
    refine QH_jmp_ret ?_
    refine QH_ret rfl (RV.tmp rfl RV.nil) rfl ?_
    obtain rfl := Option.some.inj H
    replace hS := hS.cut 0
    exact ⟨rfl, hS⟩
  replace H := cond_f H hb
  refine wpS_put rfl rfl rfl (yv_fieldAddr fo_39_1 rfl) ?_
  refine wpS_put rfl rfl rfl (yv_load_box sc_3 rfl (RW.here _) hS hs0 trivial sg1_1) ?_
  refine wpS_put rfl rfl rfl (yv_fieldAddr fo_39_2 rfl) ?_
  refine wpS_put rfl rfl rfl (yv_load_box sc_3 rfl (RW.here _) hS hs0 trivial sg2_1) ?_
  refine wpS_sliceM (ps := [(0, .tmp 10), (1, .tmp 12)]) [.int .i64 x0.frm, .int .i64 x0.dst] el_30 zc_3 rfl rfl rfl rfl rfl (by kernel_rfl) hS (fun b10 w hS hB => ?_)
  refine wpS_quick 1 rfl ?_
  obtain ⟨r12, hm13, H⟩ := bind_some H
  refine wpS_call rfl rfl rfl rfl (by kernel_rfl) rfl (c_msg_each ([x0.frm, x0.dst] : List Int) 2 1 x1 (some ⟨b10, 0, none⟩) 2 _ (SlI.of_rd ⟨Nat.le_refl 2, by decide⟩ (hS.box_rd hs0) (hS.box_blk hs0)) hm13) ?_
  rintro e w ⟨rfl, hN⟩; refine ⟨_, rfl, ?_⟩; have hB := hN.pure; have hS := hS.join hN; clear hN
  refine wpS_put rfl rfl rfl (yv_not rfl) ?_
  refine wpS_quick 2 rfl ?_
  refine wpS_case 18 rfl (fun hb => ?_) (fun hb => ?_)
  · replace H := cond_t H hb
    refine wpS_quick 6 rfl ?_
    refine wpS_nil ?_
    refine QH_seq_k hK5 ?_
    refine wpC_cond_t rfl rfl ?_
    refine wpC_goto ?_
    refine QH_then_goto ?_
    refine QH_ahead ?_
    refine wpC_seq_k (fun K hK14 => ?_)
    refine wpC_skip ?_
    refine QH_seq_k hK14 ?_
    refine wpC_seq_k (fun K hK15 => ?_)
    refine wpC_region ?_
    refine wpS_quick 1 rfl ?_
    refine wpS_nil ?_
    refine QH_seq_k hK15 ?_
    refine wpC_ret ?_
    refine QH_jmp_ret ?_
    refine QH_ret rfl (RV.tmp rfl RV.nil) rfl ?_
    obtain rfl := Option.some.inj H
    replace hS := hS.cut 0
    exact ⟨rfl, hS⟩
  replace H := cond_f H hb
  refine wpS_put rfl rfl rfl (yv_fieldAddr fo_39_1 rfl) ?_
  refine wpS_put rfl rfl rfl (yv_load_box sc_3 rfl (RW.here _) hS hs1 trivial sg1_1) ?_
  refine wpS_put rfl rfl rfl (yv_fieldAddr fo_39_2 rfl) ?_
  refine wpS_put rfl rfl rfl (yv_load_box sc_3 rfl (RW.here _) hS hs1 trivial sg2_1) ?_
  refine wpS_put rfl rfl rfl (yv_eql rfl rfl) ?_
  refine wpS_quick 1 rfl ?_
  refine wpS_nil ?_
  refine QH_seq_k hK5 ?_
  refine wpC_cond rfl (fun hb => ?_) (fun hb => ?_)
  · replace H := cond_t H hb
    refine wpC_goto ?_
    refine QH_then_goto ?_
    refine QH_ahead ?_
    refine wpC_seq_k (fun K hK16 => ?_)
    refine wpC_skip ?_
    refine QH_seq_k hK16 ?_
    refine wpC_seq_k (fun K hK17 => ?_)
    refine wpC_region ?_
    refine wpS_quick 1 rfl ?_
    refine wpS_nil ?_
    refine QH_seq_k hK17 ?_
    refine wpC_ret ?_
    refine QH_jmp_ret ?_
    refine QH_ret rfl (RV.tmp rfl RV.nil) rfl ?_
    obtain rfl := Option.some.inj H
    replace hS := hS.cut 0
    exact ⟨rfl, hS⟩
  replace H := cond_f H hb
  refine wpC_skip ?_
  refine QH_seq_k hK4 ?_
  refine wpC_seq_k (fun K hK18 => ?_)
  refine wpC_seq_k (fun K hK19 => ?_)
  refine wpC_region ?_
  refine wpS_put rfl rfl rfl (yv_fieldAddr fo_39_0 rfl) ?_
  refine wpS_put rfl rfl rfl (yv_load_box sc_5 rfl (RW.here _) hS hs1 trivial sg0_1) ?_
  refine wpS_put rfl rfl rfl (yx_conv (k' := .i64) (by kernel_rfl) (by kernel_rfl) rfl) ?_
  obtain ⟨r20, hm21, H⟩ := bind_some H
  refine wpS_call rfl rfl rfl rfl (by kernel_rfl) rfl (c_msg_within (IntKind.wrap .i64 x0.kind) 1 5 _ hm21) ?_
  rintro e w ⟨rfl, hN⟩; refine ⟨_, rfl, ?_⟩; have hB := hN.pure; have hS := hS.join hN; clear hN
  refine wpS_put rfl rfl rfl (yv_not rfl) ?_
  refine wpS_quick 1 rfl ?_
  refine wpS_case 30 rfl (fun hb => ?_) (fun hb => ?_)
  · replace H := cond_t H hb
    refine wpS_quick 11 rfl ?_
    refine wpS_nil ?_
    refine QH_seq_k hK19 ?_
    refine wpC_cond_t rfl rfl ?_
    refine wpC_goto ?_
    refine QH_then_goto ?_
    refine QH_ahead ?_
    refine wpC_seq_k (fun K hK22 => ?_)
    refine wpC_skip ?_
    refine QH_seq_k hK22 ?_
    refine wpC_seq_k (fun K hK23 => ?_)
    refine wpC_region ?_
    refine wpS_quick 1 rfl ?_
    refine wpS_nil ?_
    refine QH_seq_k hK23 ?_
    refine wpC_ret ?_
    refine QH_jmp_ret ?_
    refine QH_ret rfl (RV.tmp rfl RV.nil) rfl ?_
    obtain rfl := Option.some.inj H
    replace hS := hS.cut 0
    exact ⟨rfl, hS⟩
  replace H := cond_f H hb
  refine wpS_put rfl rfl rfl (yv_fieldAddr fo_39_3 rfl) ?_
  refine wpS_put rfl rfl rfl (yv_load_box sc_3 rfl (RW.here _) hS hs1 trivial sg3_1) ?_
  obtain ⟨r24, hm25, H⟩ := bind_some H
  refine wpS_call rfl rfl rfl rfl (by kernel_rfl) rfl (c_msg_within x0.term 1 1073741824 _ hm25) ?_
  rintro e w ⟨rfl, hN⟩; refine ⟨_, rfl, ?_⟩; have hB := hN.pure; have hS := hS.join hN; clear hN
  refine wpS_put rfl rfl rfl (yv_not rfl) ?_
  refine wpS_quick 2 rfl ?_
  refine wpS_case 36 rfl (fun hb => ?_) (fun hb => ?_)
  · replace H := cond_t H hb
    refine wpS_quick 5 rfl ?_
    refine wpS_nil ?_
    refine QH_seq_k hK19 ?_
    refine wpC_cond_t rfl rfl ?_
    refine wpC_goto ?_
    refine QH_then_goto ?_
    refine QH_ahead ?_
    refine wpC_seq_k (fun K hK26 => ?_)
    refine wpC_skip ?_
    refine QH_seq_k hK26 ?_
    refine wpC_seq_k (fun K hK27 => ?_)
    refine wpC_region ?_
    refine wpS_quick 1 rfl ?_
    refine wpS_nil ?_
    refine QH_seq_k hK27 ?_
    refine wpC_ret ?_
    refine QH_jmp_ret ?_
    refine QH_ret rfl (RV.tmp rfl RV.nil) rfl ?_
    obtain rfl := Option.some.inj H
    replace hS := hS.cut 0
    exact ⟨rfl, hS⟩
  replace H := cond_f H hb
  refine wpS_put rfl rfl rfl (yv_fieldAddr fo_39_4 rfl) ?_
  refine wpS_put rfl rfl rfl (yv_load_box sc_3 rfl (RW.here _) hS hs1 trivial sg4_1) ?_
  obtain ⟨r28, hm29, H⟩ := bind_some H
  refine wpS_call rfl rfl rfl rfl (by kernel_rfl) rfl (c_msg_within x0.cap 1 2 _ hm29) ?_
  rintro e w ⟨rfl, hN⟩; refine ⟨_, rfl, ?_⟩; have hB := hN.pure; have hS := hS.join hN; clear hN
  refine wpS_put rfl rfl rfl (yv_not rfl) ?_
  refine wpS_quick 1 rfl ?_
  refine wpS_nil ?_
  refine QH_seq_k hK19 ?_
  refine wpC_cond rfl (fun hb => ?_) (fun hb => ?_)
  · replace H := cond_t H hb
    refine wpC_goto ?_
    refine QH_then_goto ?_
    refine QH_ahead ?_
    refine wpC_seq_k (fun K hK30 => ?_)
    refine wpC_skip ?_
    refine QH_seq_k hK30 ?_
    refine wpC_seq_k (fun K hK31 => ?_)
    refine wpC_region ?_
    refine wpS_quick 1 rfl ?_
    refine wpS_nil ?_
    refine QH_seq_k hK31 ?_
    refine wpC_ret ?_
    refine QH_jmp_ret ?_
    refine QH_ret rfl (RV.tmp rfl RV.nil) rfl ?_
    obtain rfl := Option.some.inj H
    replace hS := hS.cut 0
    exact ⟨rfl, hS⟩
  replace H := cond_f H hb
  refine wpC_skip ?_
  refine QH_seq_k hK18 ?_
  refine wpC_seq_k (fun K hK32 => ?_)
  refine wpC_seq_k (fun K hK33 => ?_)
  refine wpC_region ?_
  refine wpS_put rfl rfl rfl (yv_fieldAddr fo_39_5 rfl) ?_
  refine wpS_put rfl rfl rfl (yv_load_box sc_3 rfl (RW.here _) hS hs1 trivial sg5_1) ?_
  refine wpS_put rfl rfl rfl (yv_fieldAddr fo_39_6 rfl) ?_
  refine wpS_put rfl rfl rfl (yv_load_box sc_3 rfl (RW.here _) hS hs1 trivial sg6_1) ?_
  refine wpS_put rfl rfl rfl (yv_fieldAddr fo_39_7 rfl) ?_
  refine wpS_put rfl rfl rfl (yv_load_box sc_3 rfl (RW.here _) hS hs1 trivial sg7_1) ?_
  refine wpS_sliceM (ps := [(0, .tmp 43), (1, .tmp 45), (2, .tmp 47)]) [.int .i64 x0.last, .int .i64 x0.lastTerm, .int .i64 x0.commit] el_30 zc_3 rfl rfl rfl rfl rfl (by kernel_rfl) hS (fun b34 w hS hB => ?_)
  obtain ⟨r36, hm37, H⟩ := bind_some H
  refine wpS_call rfl rfl rfl rfl (by kernel_rfl) rfl (c_msg_each ([x0.last, x0.lastTerm, x0.commit] : List Int) 3 0 1073741824 (some ⟨b34, 0, none⟩) 3 _ (SlI.of_rd ⟨Nat.le_refl 3, by decide⟩ (hS.box_rd hs0) (hS.box_blk hs0)) hm37) ?_
  rintro e w ⟨rfl, hN⟩; refine ⟨_, rfl, ?_⟩; have hB := hN.pure; have hS := hS.join hN; clear hN
  refine wpS_put rfl rfl rfl (yv_not rfl) ?_
  refine wpS_quick 1 rfl ?_
  refine wpS_case 51 rfl (fun hb => ?_) (fun hb => ?_)
  · replace H := cond_t H hb
    refine wpS_quick 4 rfl ?_
    refine wpS_nil ?_
    refine QH_seq_k hK33 ?_
    refine wpC_cond_t rfl rfl ?_
    refine wpC_goto ?_
    refine QH_then_goto ?_
    refine QH_ahead ?_
    refine wpC_seq_k (fun K hK38 => ?_)
    refine wpC_skip ?_
    refine QH_seq_k hK38 ?_
    refine wpC_seq_k (fun K hK39 => ?_)
    refine wpC_region ?_
    refine wpS_quick 1 rfl ?_
    refine wpS_nil ?_
    refine QH_seq_k hK39 ?_
    refine wpC_ret ?_
    refine QH_jmp_ret ?_
    refine QH_ret rfl (RV.tmp rfl RV.nil) rfl ?_
    obtain rfl := Option.some.inj H
    replace hS := hS.cut 0
    exact ⟨rfl, hS⟩
  replace H := cond_f H hb
  refine wpS_put rfl rfl rfl (yv_load_boxA ag_39 rfl (RW.here _) hS hs2 trivial sg0_15) ?_
  obtain ⟨r40, hm41, H⟩ := bind_some H
  refine wpS_call rfl rfl rfl rfl (by kernel_rfl) rfl (c_msg_entries x0 A0_ c0_ _ (SlI.of_rd s0_.k (hS.rd0 s0_.rd) (hS.blk0 s0_.blk)) hm41) ?_
  rintro e w ⟨rfl, hN⟩; refine ⟨_, rfl, ?_⟩; have hB := hN.pure; have hS := hS.join hN; clear hN
  refine wpS_put rfl rfl rfl (yv_not rfl) ?_
  refine wpS_quick 1 rfl ?_
  refine wpS_nil ?_
  refine QH_seq_k hK33 ?_
  refine wpC_cond rfl (fun hb => ?_) (fun hb => ?_)
  · replace H := cond_t H hb
    refine wpC_goto ?_
    refine QH_then_goto ?_
    refine QH_ahead ?_
    refine wpC_seq_k (fun K hK42 => ?_)
    refine wpC_skip ?_
    refine QH_seq_k hK42 ?_
    refine wpC_seq_k (fun K hK43 => ?_)
    refine wpC_region ?_
    refine wpS_quick 1 rfl ?_
    refine wpS_nil ?_
    refine QH_seq_k hK43 ?_
    refine wpC_ret ?_
    refine QH_jmp_ret ?_
    refine QH_ret rfl (RV.tmp rfl RV.nil) rfl ?_
    obtain rfl := Option.some.inj H
    replace hS := hS.cut 0
    exact ⟨rfl, hS⟩
  replace H := cond_f H hb
  refine wpC_skip ?_
  refine QH_seq_k hK32 ?_
  refine wpC_seq_k (fun K hK44 => ?_)
  refine wpC_seq_k (fun K hK45 => ?_)
  refine wpC_region ?_
  refine wpS_put rfl rfl rfl (yv_fieldAddr fo_39_0 rfl) ?_
  refine wpS_put rfl rfl rfl (yv_load_box sc_5 rfl (RW.here _) hS hs2 trivial sg0_1) ?_
  refine wpS_put rfl rfl rfl (yv_neq rfl rfl) ?_
  refine wpS_quick 1 rfl ?_
  refine wpS_case 59 rfl (fun hb => ?_) (fun hb => ?_)
  rotate_left
  · replace H := cond_f H hb
    refine wpS_quick 10 rfl ?_
    refine wpS_nil ?_
    refine QH_seq_k hK45 ?_
    refine wpC_cond_f rfl rfl ?_
    refine wpC_skip ?_
    refine QH_seq_k hK44 ?_
    refine wpC_seq_k (fun K hK75 => ?_)
    refine wpC_seq_k (fun K hK76 => ?_)
    refine wpC_region ?_
    refine wpS_put rfl rfl rfl (yv_fieldAddr fo_39_8 rfl) ?_
    refine wpS_put rfl rfl rfl (yv_load_box sc_4 rfl (RW.here _) hS hs2 trivial sg8_1) ?_
    refine wpS_quick 1 rfl ?_
    refine wpS_case 72 rfl (fun hb => ?_) (fun hb => ?_)
    rotate_left
    · replace H := cond_f H hb
      refine wpS_quick 9 rfl ?_
      refine wpS_nil ?_
      refine QH_seq_k hK76 ?_
      refine wpC_cond_f rfl rfl ?_
      refine wpC_skip ?_
      refine QH_seq_k hK75 ?_
      refine wpC_seq_k (fun K hK93 => ?_)
      refine wpC_seq_k (fun K hK94 => ?_)
      refine wpC_region ?_
      refine wpS_put rfl rfl rfl (yv_fieldAddr fo_39_0 rfl) ?_
      refine wpS_put rfl rfl rfl (yv_load_box sc_5 rfl (RW.here _) hS hs2 trivial sg0_1) ?_
      refine wpS_put rfl rfl rfl (yv_eql rfl rfl) ?_
      refine wpS_nil ?_
      refine QH_seq_k hK94 ?_
      refine wpC_cond rfl (fun hb => ?_) (fun hb => ?_)
      rotate_left
      · replace H := cond_f H hb
        refine wpC_skip ?_
        refine QH_seq_k hK93 ?_
        refine wpC_seq_k (fun K hK98 => ?_)
        refine wpC_seq_k (fun K hK99 => ?_)
        refine wpC_region ?_
        refine wpS_put rfl rfl rfl (yv_fieldAddr fo_39_10 rfl) ?_
        refine wpS_put rfl rfl rfl (yv_load_boxA ag_23 rfl (RW.here _) hS hs2 trivial sg10_5) ?_
        refine wpS_put rfl rfl rfl (yv_build (cells := [.int .i64 0, .int .i64 0, .int .i64 0, .int .i64 0, .bool false]) rfl (by kernel_rfl)) ?_
        refine wpS_put rfl rfl rfl (yv_eqlS (by kernel_rfl) rfl rfl (eqT_23 _ _ _ _ _ _ _ _ _ _)) ?_
        refine wpS_quick 1 rfl ?_
        refine wpS_nil ?_
        refine QH_seq_k hK99 ?_
        refine wpC_ret ?_
        refine QH_then_ret ?_
        refine QH_jmp_ret ?_
        refine QH_ret rfl (RV.tmp rfl RV.nil) rfl ?_
        obtain rfl := Option.some.inj H
        replace hS := hS.cut 0
        exact ⟨rfl, hS⟩
      replace H := cond_t H hb
      refine wpC_seq_k (fun K hK95 => ?_)
      refine wpC_region ?_
      refine wpS_put rfl rfl rfl (yv_fieldAddr fo_39_10 rfl) ?_
      refine wpS_put rfl rfl rfl (yv_fieldAddr fo_23_0 rfl) ?_
      refine wpS_put rfl rfl rfl (yv_load_box sc_3 rfl (RW.here _) hS hs2 trivial sg10_1) ?_
      refine wpS_put rfl rfl rfl (yv_gtr rfl rfl) ?_
      refine wpS_quick 1 rfl ?_
      refine wpS_case 89 rfl (fun hb => ?_) (fun hb => ?_)
      rotate_left
      · replace H := cond_f H hb
        refine wpS_quick 5 rfl ?_
        refine wpS_nil ?_
        refine QH_seq_k hK95 ?_
        refine wpC_ret ?_
        refine QH_then_ret ?_
        refine QH_jmp_ret ?_
        refine QH_ret rfl (RV.tmp rfl RV.nil) rfl ?_
        obtain rfl := Option.some.inj H
        replace hS := hS.cut 0
        exact ⟨rfl, hS⟩
      replace H := cond_t H hb
      refine wpS_put rfl rfl rfl (yv_fieldAddr fo_39_10 rfl) ?_
      refine wpS_put rfl rfl rfl (yv_load_boxA ag_23 rfl (RW.here _) hS hs2 trivial sg10_5) ?_
      obtain ⟨r96, hm97, H⟩ := bind_some H
      refine wpS_call rfl rfl rfl rfl (by kernel_rfl) rfl (c_entry_Fine x0.snap _ hm97) ?_
      rintro e w ⟨rfl, hN⟩; refine ⟨_, rfl, ?_⟩; have hB := hN.pure; have hS := hS.join hN; clear hN
      refine wpS_quick 2 rfl ?_
      refine wpS_nil ?_
      refine QH_seq_k hK95 ?_
      refine wpC_ret ?_
      refine QH_then_ret ?_
      refine QH_jmp_ret ?_
      refine QH_ret rfl (RV.tmp rfl RV.nil) rfl ?_
      obtain rfl := Option.some.inj H
      replace hS := hS.cut 0
      exact ⟨rfl, hS⟩
    replace H := cond_t H hb
    refine wpS_put rfl rfl rfl (yv_fieldAddr fo_39_0 rfl) ?_
    refine wpS_put rfl rfl rfl (yv_load_box sc_5 rfl (RW.here _) hS hs2 trivial sg0_1) ?_
    refine wpS_put rfl rfl rfl (yv_neq rfl rfl) ?_
    refine wpS_quick 2 rfl ?_
    refine wpS_case 77 rfl (fun hb => ?_) (fun hb => ?_)
    rotate_left
    · replace H := cond_f H hb
      refine wpS_quick 4 rfl ?_
      refine wpS_nil ?_
      refine QH_seq_k hK76 ?_
      refine wpC_cond_f rfl rfl ?_
      refine wpC_skip ?_
      refine QH_seq_k hK75 ?_
      refine wpC_seq_k (fun K hK86 => ?_)
      refine wpC_seq_k (fun K hK87 => ?_)
      refine wpC_region ?_
      refine wpS_put rfl rfl rfl (yv_fieldAddr fo_39_0 rfl) ?_
      refine wpS_put rfl rfl rfl (yv_load_box sc_5 rfl (RW.here _) hS hs2 trivial sg0_1) ?_
      refine wpS_put rfl rfl rfl (yv_eql rfl rfl) ?_
      refine wpS_nil ?_
      refine QH_seq_k hK87 ?_
      refine wpC_cond rfl (fun hb => ?_) (fun hb => ?_)
      rotate_left
      · replace H := cond_f H hb
        refine wpC_skip ?_
        refine QH_seq_k hK86 ?_
        refine wpC_seq_k (fun K hK91 => ?_)
        refine wpC_seq_k (fun K hK92 => ?_)
        refine wpC_region ?_
        refine wpS_put rfl rfl rfl (yv_fieldAddr fo_39_10 rfl) ?_
        refine wpS_put rfl rfl rfl (yv_load_boxA ag_23 rfl (RW.here _) hS hs2 trivial sg10_5) ?_
        refine wpS_put rfl rfl rfl (yv_build (cells := [.int .i64 0, .int .i64 0, .int .i64 0, .int .i64 0, .bool false]) rfl (by kernel_rfl)) ?_
        refine wpS_put rfl rfl rfl (yv_eqlS (by kernel_rfl) rfl rfl (eqT_23 _ _ _ _ _ _ _ _ _ _)) ?_
        refine wpS_quick 1 rfl ?_
        refine wpS_nil ?_
        refine QH_seq_k hK92 ?_
        refine wpC_ret ?_
        refine QH_then_ret ?_
        refine QH_jmp_ret ?_
        refine QH_ret rfl (RV.tmp rfl RV.nil) rfl ?_
        obtain rfl := Option.some.inj H
        replace hS := hS.cut 0
        exact ⟨rfl, hS⟩
      replace H := cond_t H hb
      refine wpC_seq_k (fun K hK88 => ?_)
      refine wpC_region ?_
      refine wpS_put rfl rfl rfl (yv_fieldAddr fo_39_10 rfl) ?_
      refine wpS_put rfl rfl rfl (yv_fieldAddr fo_23_0 rfl) ?_
      refine wpS_put rfl rfl rfl (yv_load_box sc_3 rfl (RW.here _) hS hs2 trivial sg10_1) ?_
      refine wpS_put rfl rfl rfl (yv_gtr rfl rfl) ?_
      refine wpS_quick 1 rfl ?_
      refine wpS_case 89 rfl (fun hb => ?_) (fun hb => ?_)
      rotate_left
      · replace H := cond_f H hb
        refine wpS_quick 5 rfl ?_
        refine wpS_nil ?_
        refine QH_seq_k hK88 ?_
        refine wpC_ret ?_
        refine QH_then_ret ?_
        refine QH_jmp_ret ?_
        refine QH_ret rfl (RV.tmp rfl RV.nil) rfl ?_
        obtain rfl := Option.some.inj H
        replace hS := hS.cut 0
        exact ⟨rfl, hS⟩
      replace H := cond_t H hb
      refine wpS_put rfl rfl rfl (yv_fieldAddr fo_39_10 rfl) ?_
      refine wpS_put rfl rfl rfl (yv_load_boxA ag_23 rfl (RW.here _) hS hs2 trivial sg10_5) ?_
      obtain ⟨r89, hm90, H⟩ := bind_some H
      refine wpS_call rfl rfl rfl rfl (by kernel_rfl) rfl (c_entry_Fine x0.snap _ hm90) ?_
      rintro e w ⟨rfl, hN⟩; refine ⟨_, rfl, ?_⟩; have hB := hN.pure; have hS := hS.join hN; clear hN
      refine wpS_quick 2 rfl ?_
      refine wpS_nil ?_
      refine QH_seq_k hK88 ?_
      refine wpC_ret ?_
      refine QH_then_ret ?_
      refine QH_jmp_ret ?_
      refine QH_ret rfl (RV.tmp rfl RV.nil) rfl ?_
      obtain rfl := Option.some.inj H
      replace hS := hS.cut 0
      exact ⟨rfl, hS⟩
    replace H := cond_t H hb
    refine wpS_put rfl rfl rfl (yv_fieldAddr fo_39_0 rfl) ?_
    refine wpS_put rfl rfl rfl (yv_load_box sc_5 rfl (RW.here _) hS hs2 trivial sg0_1) ?_
    refine wpS_put rfl rfl rfl (yv_neq rfl rfl) ?_
    refine wpS_quick 1 rfl ?_
    refine wpS_nil ?_
    refine QH_seq_k hK76 ?_
    refine wpC_cond rfl (fun hb => ?_) (fun hb => ?_)
    · replace H := cond_t H hb
      refine wpC_goto ?_
      refine QH_then_goto ?_
      refine QH_ahead ?_
      refine wpC_seq_k (fun K hK77 => ?_)
      refine wpC_skip ?_
      refine QH_seq_k hK77 ?_
      refine wpC_seq_k (fun K hK78 => ?_)
      refine wpC_region ?_
      refine wpS_quick 1 rfl ?_
      refine wpS_nil ?_
      refine QH_seq_k hK78 ?_
      refine wpC_ret ?_
      refine QH_jmp_ret ?_
      refine QH_ret rfl (RV.tmp rfl RV.nil) rfl ?_
      obtain rfl := Option.some.inj H
      replace hS := hS.cut 0
      exact ⟨rfl, hS⟩
    replace H := cond_f H hb
    refine wpC_skip ?_
    refine QH_seq_k hK75 ?_
    refine wpC_seq_k (fun K hK79 => ?_)
    refine wpC_seq_k (fun K hK80 => ?_)
    refine wpC_region ?_
    refine wpS_put rfl rfl rfl (yv_fieldAddr fo_39_0 rfl) ?_
    refine wpS_put rfl rfl rfl (yv_load_box sc_5 rfl (RW.here _) hS hs2 trivial sg0_1) ?_
    refine wpS_put rfl rfl rfl (yv_eql rfl rfl) ?_
    refine wpS_nil ?_
    refine QH_seq_k hK80 ?_
    refine wpC_cond rfl (fun hb => ?_) (fun hb => ?_)
    rotate_left
    · replace H := cond_f H hb
      refine wpC_skip ?_
      refine QH_seq_k hK79 ?_
      refine wpC_seq_k (fun K hK84 => ?_)
      refine wpC_seq_k (fun K hK85 => ?_)
      refine wpC_region ?_
      refine wpS_put rfl rfl rfl (yv_fieldAddr fo_39_10 rfl) ?_
      refine wpS_put rfl rfl rfl (yv_load_boxA ag_23 rfl (RW.here _) hS hs2 trivial sg10_5) ?_
      refine wpS_put rfl rfl rfl (yv_build (cells := [.int .i64 0, .int .i64 0, .int .i64 0, .int .i64 0, .bool false]) rfl (by kernel_rfl)) ?_
      refine wpS_put rfl rfl rfl (yv_eqlS (by kernel_rfl) rfl rfl (eqT_23 _ _ _ _ _ _ _ _ _ _)) ?_
      refine wpS_quick 1 rfl ?_
      refine wpS_nil ?_
      refine QH_seq_k hK85 ?_
      refine wpC_ret ?_
      refine QH_then_ret ?_
      refine QH_jmp_ret ?_
      refine QH_ret rfl (RV.tmp rfl RV.nil) rfl ?_
      obtain rfl := Option.some.inj H
      replace hS := hS.cut 0
      exact ⟨rfl, hS⟩
    replace H := cond_t H hb
    refine wpC_seq_k (fun K hK81 => ?_)
    refine wpC_region ?_
    refine wpS_put rfl rfl rfl (yv_fieldAddr fo_39_10 rfl) ?_
    refine wpS_put rfl rfl rfl (yv_fieldAddr fo_23_0 rfl) ?_
    refine wpS_put rfl rfl rfl (yv_load_box sc_3 rfl (RW.here _) hS hs2 trivial sg10_1) ?_
    refine wpS_put rfl rfl rfl (yv_gtr rfl rfl) ?_
    refine wpS_quick 1 rfl ?_
    refine wpS_case 89 rfl (fun hb => ?_) (fun hb => ?_)
    rotate_left
    · replace H := cond_f H hb
      refine wpS_quick 5 rfl ?_
      refine wpS_nil ?_
      refine QH_seq_k hK81 ?_
      refine wpC_ret ?_
      refine QH_then_ret ?_
      refine QH_jmp_ret ?_
      refine QH_ret rfl (RV.tmp rfl RV.nil) rfl ?_
      obtain rfl := Option.some.inj H
      replace hS := hS.cut 0
      exact ⟨rfl, hS⟩
    replace H := cond_t H hb
    refine wpS_put rfl rfl rfl (yv_fieldAddr fo_39_10 rfl) ?_
    refine wpS_put rfl rfl rfl (yv_load_boxA ag_23 rfl (RW.here _) hS hs2 trivial sg10_5) ?_
    obtain ⟨r82, hm83, H⟩ := bind_some H
    refine wpS_call rfl rfl rfl rfl (by kernel_rfl) rfl (c_entry_Fine x0.snap _ hm83) ?_
    rintro e w ⟨rfl, hN⟩; refine ⟨_, rfl, ?_⟩; have hB := hN.pure; have hS := hS.join hN; clear hN
    refine wpS_quick 2 rfl ?_
    refine wpS_nil ?_
    refine QH_seq_k hK81 ?_
    refine wpC_ret ?_
    refine QH_then_ret ?_
    refine QH_jmp_ret ?_
    refine QH_ret rfl (RV.tmp rfl RV.nil) rfl ?_
    obtain rfl := Option.some.inj H
    replace hS := hS.cut 0
    exact ⟨rfl, hS⟩
  replace H := cond_t H hb
  refine wpS_put rfl rfl rfl (yv_fieldAddr fo_39_9 rfl) ?_
  refine wpS_put rfl rfl rfl (yv_load_box sc_24 rfl (RW.here _) hS hs2 trivial sg9_1) ?_
  refine wpS_put rfl rfl rfl (yv_len el_24 rfl) ?_
  refine wpS_put rfl rfl rfl (yv_gtr rfl rfl) ?_
  refine wpS_quick 1 rfl ?_
  refine wpS_case 64 rfl (fun hb => ?_) (fun hb => ?_)
  · replace H := cond_t H hb
    refine wpS_quick 5 rfl ?_
    refine wpS_nil ?_
    refine QH_seq_k hK45 ?_
    refine wpC_cond_t rfl rfl ?_
    refine wpC_goto ?_
    refine QH_then_goto ?_
    refine QH_ahead ?_
    refine wpC_seq_k (fun K hK46 => ?_)
    refine wpC_skip ?_
    refine QH_seq_k hK46 ?_
    refine wpC_seq_k (fun K hK47 => ?_)
    refine wpC_region ?_
    refine wpS_quick 1 rfl ?_
    refine wpS_nil ?_
    refine QH_seq_k hK47 ?_
    refine wpC_ret ?_
    refine QH_jmp_ret ?_
    refine QH_ret rfl (RV.tmp rfl RV.nil) rfl ?_
    obtain rfl := Option.some.inj H
    replace hS := hS.cut 0
    exact ⟨rfl, hS⟩
  replace H := cond_f H hb
  refine wpS_put rfl rfl rfl (yv_fieldAddr fo_39_7 rfl) ?_
  refine wpS_put rfl rfl rfl (yv_load_box sc_3 rfl (RW.here _) hS hs2 trivial sg7_1) ?_
  refine wpS_put rfl rfl rfl (yv_gtr rfl rfl) ?_
  refine wpS_quick 2 rfl ?_
  refine wpS_nil ?_
  refine QH_seq_k hK45 ?_
  refine wpC_cond rfl (fun hb => ?_) (fun hb => ?_)
  · replace H := cond_t H hb
    refine wpC_goto ?_
    refine QH_then_goto ?_
    refine QH_ahead ?_
    refine wpC_seq_k (fun K hK48 => ?_)
    refine wpC_skip ?_
    refine QH_seq_k hK48 ?_
    refine wpC_seq_k (fun K hK49 => ?_)
    refine wpC_region ?_
    refine wpS_quick 1 rfl ?_
    refine wpS_nil ?_
    refine QH_seq_k hK49 ?_
    refine wpC_ret ?_
    refine QH_jmp_ret ?_
    refine QH_ret rfl (RV.tmp rfl RV.nil) rfl ?_
    obtain rfl := Option.some.inj H
    replace hS := hS.cut 0
    exact ⟨rfl, hS⟩
  replace H := cond_f H hb
  refine wpC_skip ?_
  refine QH_seq_k hK44 ?_
  refine wpC_seq_k (fun K hK50 => ?_)
  refine wpC_seq_k (fun K hK51 => ?_)
  refine wpC_region ?_
  refine wpS_put rfl rfl rfl (yv_fieldAddr fo_39_8 rfl) ?_
  refine wpS_put rfl rfl rfl (yv_load_box sc_4 rfl (RW.here _) hS hs2 trivial sg8_1) ?_
  refine wpS_quick 1 rfl ?_
  refine wpS_case 72 rfl (fun hb => ?_) (fun hb => ?_)
  rotate_left
  · replace H := cond_f H hb
    refine wpS_quick 9 rfl ?_
    refine wpS_nil ?_
    refine QH_seq_k hK51 ?_
    refine wpC_cond_f rfl rfl ?_
    refine wpC_skip ?_
    refine QH_seq_k hK50 ?_
    refine wpC_seq_k (fun K hK68 => ?_)
    refine wpC_seq_k (fun K hK69 => ?_)
    refine wpC_region ?_
    refine wpS_put rfl rfl rfl (yv_fieldAddr fo_39_0 rfl) ?_
    refine wpS_put rfl rfl rfl (yv_load_box sc_5 rfl (RW.here _) hS hs2 trivial sg0_1) ?_
    refine wpS_put rfl rfl rfl (yv_eql rfl rfl) ?_
    refine wpS_nil ?_
    refine QH_seq_k hK69 ?_
    refine wpC_cond rfl (fun hb => ?_) (fun hb => ?_)
    rotate_left
    · replace H := cond_f H hb
      refine wpC_skip ?_
      refine QH_seq_k hK68 ?_
      refine wpC_seq_k (fun K hK73 => ?_)
      refine wpC_seq_k (fun K hK74 => ?_)
      refine wpC_region ?_
      refine wpS_put rfl rfl rfl (yv_fieldAddr fo_39_10 rfl) ?_
      refine wpS_put rfl rfl rfl (yv_load_boxA ag_23 rfl (RW.here _) hS hs2 trivial sg10_5) ?_
      refine wpS_put rfl rfl rfl (yv_build (cells := [.int .i64 0, .int .i64 0, .int .i64 0, .int .i64 0, .bool false]) rfl (by kernel_rfl)) ?_
      refine wpS_put rfl rfl rfl (yv_eqlS (by kernel_rfl) rfl rfl (eqT_23 _ _ _ _ _ _ _ _ _ _)) ?_
      refine wpS_quick 1 rfl ?_
      refine wpS_nil ?_
      refine QH_seq_k hK74 ?_
      refine wpC_ret ?_
      refine QH_then_ret ?_
      refine QH_jmp_ret ?_
      refine QH_ret rfl (RV.tmp rfl RV.nil) rfl ?_
      obtain rfl := Option.some.inj H
      replace hS := hS.cut 0
      exact ⟨rfl, hS⟩
    replace H := cond_t H hb
    refine wpC_seq_k (fun K hK70 => ?_)
    refine wpC_region ?_
    refine wpS_put rfl rfl rfl (yv_fieldAddr fo_39_10 rfl) ?_
    refine wpS_put rfl rfl rfl (yv_fieldAddr fo_23_0 rfl) ?_
    refine wpS_put rfl rfl rfl (yv_load_box sc_3 rfl (RW.here _) hS hs2 trivial sg10_1) ?_
    refine wpS_put rfl rfl rfl (yv_gtr rfl rfl) ?_
    refine wpS_quick 1 rfl ?_
    refine wpS_case 89 rfl (fun hb => ?_) (fun hb => ?_)
    rotate_left
    · replace H := cond_f H hb
      refine wpS_quick 5 rfl ?_
      refine wpS_nil ?_
      refine QH_seq_k hK70 ?_
      refine wpC_ret ?_
      refine QH_then_ret ?_
      refine QH_jmp_ret ?_
      refine QH_ret rfl (RV.tmp rfl RV.nil) rfl ?_
      obtain rfl := Option.some.inj H
      replace hS := hS.cut 0
      exact ⟨rfl, hS⟩
    replace H := cond_t H hb
    refine wpS_put rfl rfl rfl (yv_fieldAddr fo_39_10 rfl) ?_
    refine wpS_put rfl rfl rfl (yv_load_boxA ag_23 rfl (RW.here _) hS hs2 trivial sg10_5) ?_
    obtain ⟨r71, hm72, H⟩ := bind_some H
    refine wpS_call rfl rfl rfl rfl (by kernel_rfl) rfl (c_entry_Fine x0.snap _ hm72) ?_
    rintro e w ⟨rfl, hN⟩; refine ⟨_, rfl, ?_⟩; have hB := hN.pure; have hS := hS.join hN; clear hN
    refine wpS_quick 2 rfl ?_
    refine wpS_nil ?_
    refine QH_seq_k hK70 ?_
    refine wpC_ret ?_
    refine QH_then_ret ?_
    refine QH_jmp_ret ?_
    refine QH_ret rfl (RV.tmp rfl RV.nil) rfl ?_
    obtain rfl := Option.some.inj H
    replace hS := hS.cut 0
    exact ⟨rfl, hS⟩
  replace H := cond_t H hb
  refine wpS_put rfl rfl rfl (yv_fieldAddr fo_39_0 rfl) ?_
  refine wpS_put rfl rfl rfl (yv_load_box sc_5 rfl (RW.here _) hS hs2 trivial sg0_1) ?_
  refine wpS_put rfl rfl rfl (yv_neq rfl rfl) ?_
  refine wpS_quick 2 rfl ?_
  refine wpS_case 77 rfl (fun hb => ?_) (fun hb => ?_)
  rotate_left
  · replace H := cond_f H hb
    refine wpS_quick 4 rfl ?_
    refine wpS_nil ?_
    refine QH_seq_k hK51 ?_
    refine wpC_cond_f rfl rfl ?_
    refine wpC_skip ?_
    refine QH_seq_k hK50 ?_
    refine wpC_seq_k (fun K hK61 => ?_)
    refine wpC_seq_k (fun K hK62 => ?_)
    refine wpC_region ?_
    refine wpS_put rfl rfl rfl (yv_fieldAddr fo_39_0 rfl) ?_
    refine wpS_put rfl rfl rfl (yv_load_box sc_5 rfl (RW.here _) hS hs2 trivial sg0_1) ?_
    refine wpS_put rfl rfl rfl (yv_eql rfl rfl) ?_
    refine wpS_nil ?_
    refine QH_seq_k hK62 ?_
    refine wpC_cond rfl (fun hb => ?_) (fun hb => ?_)
    rotate_left
    · replace H := cond_f H hb
      refine wpC_skip ?_
      refine QH_seq_k hK61 ?_
      refine wpC_seq_k (fun K hK66 => ?_)
      refine wpC_seq_k (fun K hK67 => ?_)
      refine wpC_region ?_
      refine wpS_put rfl rfl rfl (yv_fieldAddr fo_39_10 rfl) ?_
      refine wpS_put rfl rfl rfl (yv_load_boxA ag_23 rfl (RW.here _) hS hs2 trivial sg10_5) ?_
      refine wpS_put rfl rfl rfl (yv_build (cells := [.int .i64 0, .int .i64 0, .int .i64 0, .int .i64 0, .bool false]) rfl (by kernel_rfl)) ?_
      refine wpS_put rfl rfl rfl (yv_eqlS (by kernel_rfl) rfl rfl (eqT_23 _ _ _ _ _ _ _ _ _ _)) ?_
      refine wpS_quick 1 rfl ?_
      refine wpS_nil ?_
      refine QH_seq_k hK67 ?_
      refine wpC_ret ?_
      refine QH_then_ret ?_
      refine QH_jmp_ret ?_
      refine QH_ret rfl (RV.tmp rfl RV.nil) rfl ?_
      obtain rfl := Option.some.inj H
      replace hS := hS.cut 0
      exact ⟨rfl, hS⟩
    replace H := cond_t H hb
    refine wpC_seq_k (fun K hK63 => ?_)
    refine wpC_region ?_
    refine wpS_put rfl rfl rfl (yv_fieldAddr fo_39_10 rfl) ?_
    refine wpS_put rfl rfl rfl (yv_fieldAddr fo_23_0 rfl) ?_
    refine wpS_put rfl rfl rfl (yv_load_box sc_3 rfl (RW.here _) hS hs2 trivial sg10_1) ?_
    refine wpS_put rfl rfl rfl (yv_gtr rfl rfl) ?_
    refine wpS_quick 1 rfl ?_
    refine wpS_case 89 rfl (fun hb => ?_) (fun hb => ?_)
    rotate_left
    · replace H := cond_f H hb
      refine wpS_quick 5 rfl ?_
      refine wpS_nil ?_
      refine QH_seq_k hK63 ?_
      refine wpC_ret ?_
      refine QH_then_ret ?_
      refine QH_jmp_ret ?_
      refine QH_ret rfl (RV.tmp rfl RV.nil) rfl ?_
      obtain rfl := Option.some.inj H
      replace hS := hS.cut 0
      exact ⟨rfl, hS⟩
    replace H := cond_t H hb
    refine wpS_put rfl rfl rfl (yv_fieldAddr fo_39_10 rfl) ?_
    refine wpS_put rfl rfl rfl (yv_load_boxA ag_23 rfl (RW.here _) hS hs2 trivial sg10_5) ?_
    obtain ⟨r64, hm65, H⟩ := bind_some H
    refine wpS_call rfl rfl rfl rfl (by kernel_rfl) rfl (c_entry_Fine x0.snap _ hm65) ?_
    rintro e w ⟨rfl, hN⟩; refine ⟨_, rfl, ?_⟩; have hB := hN.pure; have hS := hS.join hN; clear hN
    refine wpS_quick 2 rfl ?_
    refine wpS_nil ?_
    refine QH_seq_k hK63 ?_
    refine wpC_ret ?_
    refine QH_then_ret ?_
    refine QH_jmp_ret ?_
    refine QH_ret rfl (RV.tmp rfl RV.nil) rfl ?_
    obtain rfl := Option.some.inj H
    replace hS := hS.cut 0
    exact ⟨rfl, hS⟩
  replace H := cond_t H hb
  refine wpS_put rfl rfl rfl (yv_fieldAddr fo_39_0 rfl) ?_
  refine wpS_put rfl rfl rfl (yv_load_box sc_5 rfl (RW.here _) hS hs2 trivial sg0_1) ?_
  refine wpS_put rfl rfl rfl (yv_neq rfl rfl) ?_
  refine wpS_quick 1 rfl ?_
  refine wpS_nil ?_
  refine QH_seq_k hK51 ?_
  refine wpC_cond rfl (fun hb => ?_) (fun hb => ?_)
  · replace H := cond_t H hb
    refine wpC_goto ?_
    refine QH_then_goto ?_
    refine QH_ahead ?_
    refine wpC_seq_k (fun K hK52 => ?_)
    refine wpC_skip ?_
    refine QH_seq_k hK52 ?_
    refine wpC_seq_k (fun K hK53 => ?_)
    refine wpC_region ?_
    refine wpS_quick 1 rfl ?_
    refine wpS_nil ?_
    refine QH_seq_k hK53 ?_
    refine wpC_ret ?_
    refine QH_jmp_ret ?_
    refine QH_ret rfl (RV.tmp rfl RV.nil) rfl ?_
    obtain rfl := Option.some.inj H
    replace hS := hS.cut 0
    exact ⟨rfl, hS⟩
  replace H := cond_f H hb
  refine wpC_skip ?_
  refine QH_seq_k hK50 ?_
  refine wpC_seq_k (fun K hK54 => ?_)
  refine wpC_seq_k (fun K hK55 => ?_)
  refine wpC_region ?_
  refine wpS_put rfl rfl rfl (yv_fieldAddr fo_39_0 rfl) ?_
  refine wpS_put rfl rfl rfl (yv_load_box sc_5 rfl (RW.here _) hS hs2 trivial sg0_1) ?_
  refine wpS_put rfl rfl rfl (yv_eql rfl rfl) ?_
  refine wpS_nil ?_
  refine QH_seq_k hK55 ?_
  refine wpC_cond rfl (fun hb => ?_) (fun hb => ?_)
  rotate_left
  · replace H := cond_f H hb
    refine wpC_skip ?_
    refine QH_seq_k hK54 ?_
    refine wpC_seq_k (fun K hK59 => ?_)
    refine wpC_seq_k (fun K hK60 => ?_)
    refine wpC_region ?_
    refine wpS_put rfl rfl rfl (yv_fieldAddr fo_39_10 rfl) ?_
    refine wpS_put rfl rfl rfl (yv_load_boxA ag_23 rfl (RW.here _) hS hs2 trivial sg10_5) ?_
    refine wpS_put rfl rfl rfl (yv_build (cells := [.int .i64 0, .int .i64 0, .int .i64 0, .int .i64 0, .bool false]) rfl (by kernel_rfl)) ?_
    refine wpS_put rfl rfl rfl (yv_eqlS (by kernel_rfl) rfl rfl (eqT_23 _ _ _ _ _ _ _ _ _ _)) ?_
    refine wpS_quick 1 rfl ?_
    refine wpS_nil ?_
    refine QH_seq_k hK60 ?_
    refine wpC_ret ?_
    refine QH_then_ret ?_
    refine QH_jmp_ret ?_
    refine QH_ret rfl (RV.tmp rfl RV.nil) rfl ?_
    obtain rfl := Option.some.inj H
    replace hS := hS.cut 0
    exact ⟨rfl, hS⟩
  replace H := cond_t H hb
  refine wpC_seq_k (fun K hK56 => ?_)
  refine wpC_region ?_
  refine wpS_put rfl rfl rfl (yv_fieldAddr fo_39_10 rfl) ?_
  refine wpS_put rfl rfl rfl (yv_fieldAddr fo_23_0 rfl) ?_
  refine wpS_put rfl rfl rfl (yv_load_box sc_3 rfl (RW.here _) hS hs2 trivial sg10_1) ?_
  refine wpS_put rfl rfl rfl (yv_gtr rfl rfl) ?_
  refine wpS_quick 1 rfl ?_
  refine wpS_case 89 rfl (fun hb => ?_) (fun hb => ?_)
  rotate_left
  · replace H := cond_f H hb
    refine wpS_quick 5 rfl ?_
    refine wpS_nil ?_
    refine QH_seq_k hK56 ?_
    refine wpC_ret ?_
    refine QH_then_ret ?_
    refine QH_jmp_ret ?_
    refine QH_ret rfl (RV.tmp rfl RV.nil) rfl ?_
    obtain rfl := Option.some.inj H
    replace hS := hS.cut 0
    exact ⟨rfl, hS⟩
  replace H := cond_t H hb
  refine wpS_put rfl rfl rfl (yv_fieldAddr fo_39_10 rfl) ?_
  refine wpS_put rfl rfl rfl (yv_load_boxA ag_23 rfl (RW.here _) hS hs2 trivial sg10_5) ?_
  obtain ⟨r57, hm58, H⟩ := bind_some H
  refine wpS_call rfl rfl rfl rfl (by kernel_rfl) rfl (c_entry_Fine x0.snap _ hm58) ?_
  rintro e w ⟨rfl, hN⟩; refine ⟨_, rfl, ?_⟩; have hB := hN.pure; have hS := hS.join hN; clear hN
  refine wpS_quick 2 rfl ?_
  refine wpS_nil ?_
  refine QH_seq_k hK56 ?_
  refine wpC_ret ?_
  refine QH_then_ret ?_
  refine QH_jmp_ret ?_
  refine QH_ret rfl (RV.tmp rfl RV.nil) rfl ?_
  obtain rfl := Option.some.inj H
  replace hS := hS.cut 0
  exact ⟨rfl, hS⟩
end Go.Proofs.Ytohkkncfofomdaa
