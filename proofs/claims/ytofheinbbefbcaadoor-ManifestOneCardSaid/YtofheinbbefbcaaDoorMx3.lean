/- Texts of one claim put together: what its walks share. -/
import Derived.Test.YtofheinbbefbcaaDoorMx1
import Derived.Test.YtofheinbbefbcaaDoorMx2
/- What functions compute, in plain terms, and that they do; printed. -/
namespace Go.Proofs.YtofheinbbefbcaaDoor
open Go Go.RowKit
set_option maxRecDepth 100000
set_option maxHeartbeats 4000000
theorem c_slices_Equal___api_Seg_api_Seg_ (x0 : List Sg) (x1 : List Sg) (A0_ : Option Addr) (c0_ : Nat) (A1_ : Option Addr) (c1_ : Nat) (w0 : World) (s0_ : SlI w0 enSg A0_ c0_ x0) (s1_ : SlI w0 enSg A1_ c1_ x1) {r : Bool} (H : m_slices_Equal___api_Seg_api_Seg_ x0 x1 = some r) : Calls Tryd.prog 73 #[.slice A0_ x0.length c0_, .slice A1_ x1.length c1_] w0 fun e w' => e = .returned (.bool r) ∧ St0 All w0 w' [] := by
  unfold m_slices_Equal___api_Seg_api_Seg_ at H
  refine gw_enter2 Tryd.func73 rfl Tryd.ntmps73 rfl ?_
  have hS := St0.start All w0
  refine wpC_seq_k (fun K hK1 => ?_)
  refine wpC_region ?_
  refine wpS_quick 1 rfl ?_
  refine wpS_nil ?_
  refine QH_seq_k hK1 ?_
  refine wpC_seq_k (fun K hK2 => ?_)
  refine wpC_seq_k (fun K hK3 => ?_)
  refine wpC_region ?_
  refine wpS_quick 1 rfl ?_
  refine wpS_put rfl rfl rfl (yv_len el_48 rfl) ?_
  refine wpS_quick 1 rfl ?_
  refine wpS_put rfl rfl rfl (yv_len el_48 rfl) ?_
  refine wpS_put rfl rfl rfl (yv_neq rfl rfl) ?_
  refine wpS_nil ?_
  refine QH_seq_k hK3 ?_
  refine wpC_cond rfl (fun hb => ?_) (fun hb => ?_)
  · replace H := cond_t H hb
    refine wpC_seq_k (fun K hK5 => ?_)
    refine wpC_region ?_
    refine wpS_quick 1 rfl ?_
    refine wpS_nil ?_
    refine QH_seq_k hK5 ?_
    refine wpC_ret ?_
    refine QH_then_ret ?_
    refine QH_ret rfl (RV.tmp rfl RV.nil) rfl ?_
    obtain rfl := Option.some.inj H
    replace hS := hS.cut 0
    exact ⟨rfl, hS⟩
  replace H := cond_f H hb
  refine wpC_skip ?_
  refine QH_seq_k hK2 ?_
  refine wpC_seq_k (fun K hK7 => ?_)
  refine wpC_seq_k (fun K hK8 => ?_)
  refine wpC_region ?_
  refine wpS_quick 1 rfl ?_
  refine wpS_put rfl rfl rfl (yv_len el_48 rfl) ?_
  refine wpS_quick 1 rfl ?_
  refine wpS_nil ?_
  refine QH_seq_k hK8 ?_
  refine wpC_block ?_
  refine wpC_loop (X := Nat × Bool × Int) (fun x => (0, .slice A0_ x0.length c0_) :: (1, .slice A1_ x1.length c1_) :: (4, .bool x.2.1) :: (12, .int .i64 (x0.length : Int)) :: (13, .int .i64 x.2.2) :: []) (fun x w => St0 All w0 w ([]) ∧ m_slices_Equal___api_Seg_api_Seg__l1 x0 x1 x.1 x.2.1 x.2.2 = some r) (fun x => x.1) (fuelN, false, 0) (by repeat (first | exact Sub.nil | refine Sub.cons rfl ?_)) ⟨hS, H⟩ ?_
  rintro ⟨n, v9, v10⟩ w ⟨hS, H⟩
  dsimp only at hS H ⊢
  obtain _ | n := n
  · have H0 : none = some r := H
    cases H0
  rw [m_slices_Equal___api_Seg_api_Seg__l1] at H
  refine wpC_seq_k (fun K hK11 => ?_)
  refine wpC_region ?_
  refine wpS_put rfl rfl rfl (yv_lss rfl rfl) ?_
  refine wpS_nil ?_
  refine QH_seq_k hK11 ?_
  refine wpC_seq_k (fun K hK12 => ?_)
  refine wpC_cond rfl (fun hb => ?_) (fun hb => ?_)
  rotate_left
  · replace H := cond_f H hb
    refine wpC_exit ?_
    refine QH_then_exit ?_
    refine QH_then_exit ?_
    refine QH_block_hit ?_
    refine QH_seq_k hK7 ?_
    refine wpC_seq_k (fun K hK27 => ?_)
    refine wpC_region ?_
    refine wpS_quick 1 rfl ?_
    refine wpS_nil ?_
    refine QH_seq_k hK27 ?_
    refine wpC_ret ?_
    refine QH_ret rfl (RV.tmp rfl RV.nil) rfl ?_
    obtain rfl := Option.some.inj H
    replace hS := hS.cut 0
    exact ⟨rfl, hS⟩
  replace H := cond_t H hb
  refine wpC_skip ?_
  refine QH_seq_k hK12 ?_
  refine wpC_seq_k (fun K hK14 => ?_)
  refine wpC_block ?_
  refine wpC_seq_k (fun K hK15 => ?_)
  refine wpC_region ?_
  refine wpS_quick 2 rfl ?_
  refine wpS_nil ?_
  refine QH_seq_k hK15 ?_
  refine wpC_seq_k (fun K hK16 => ?_)
  refine wpC_draw 9 [] (fun _ _ => True) ⟨by kernel_rfl, by kernel_rfl⟩ hS (fun w hS hB => ?_)
  refine wpR_batch [true, true, true, true, true, true, true, true, true] (by decide +kernel) (by repeat (first | exact PF.body | exact PF.round | apply PF.then | apply PF.inBlock | apply PF.jump)) ?_
  refine LtK.put rfl rfl rfl (yv_move rfl) ?_
  refine LtK.put rfl rfl rfl (yv_move rfl) ?_
  obtain ⟨e17, hi19, H⟩ := bind_some H
  obtain ⟨j18, hi19a, hi19b, hi19c⟩ := idx_some hi19
  refine LtK.put rfl rfl rfl (yx_idx el_48 rfl rfl hi19a hi19c (Rd.el (hS.rd0 s0_.rd) he_enSg hi19b)) ?_
  refine LtK.put rfl rfl rfl (yx_ldA0 ag_66 rfl (RW.below _) (Rd.el (hS.rd0 s0_.rd) he_enSg hi19b) sg0_4) ?_
  refine LtK.put rfl rfl rfl (yv_move rfl) ?_
  refine LtK.put rfl rfl rfl (yv_move rfl) ?_
  obtain ⟨e20, hi22, H⟩ := bind_some H
  obtain ⟨j21, hi22a, hi22b, hi22c⟩ := idx_some hi22
  refine LtK.put rfl rfl rfl (yx_idx el_48 rfl rfl hi22a hi22c (Rd.el (hS.rd0 s1_.rd) he_enSg hi22b)) ?_
  refine LtK.put rfl rfl rfl (yx_ldA0 ag_66 rfl (RW.below _) (Rd.el (hS.rd0 s1_.rd) he_enSg hi22b) sg0_4) ?_
  refine LtK.put rfl rfl rfl (yv_neqS (by kernel_rfl) rfl rfl (eqT_66 _ _ _ _ _ _ _ _)) ?_
  refine LtK.nil ?_
  refine wpR_end (by kernel_rfl) ?_
  refine QH_seq_k hK16 ?_
  refine wpC_cond rfl (fun hb => ?_) (fun hb => ?_)
  rotate_left
  · replace H := cond_f H hb
    refine wpC_skip ?_
    refine QH_block_normal ?_
    refine QH_seq_k hK14 ?_
    refine wpC_region ?_
    refine wpS_put rfl rfl rfl (yx_add rfl rfl) ?_
    refine wpS_quick 1 rfl ?_
    refine wpS_nil ?_
    exact QH_again (n, v9, (IntKind.wrap .i64 (v10 + 1))) (by repeat (first | exact Sub.nil | refine Sub.cons rfl ?_)) ⟨hS, H⟩ (Nat.lt_succ_self _)
  replace H := cond_t H hb
  refine wpC_seq_k (fun K hK24 => ?_)
  refine wpC_region ?_
  refine wpS_quick 1 rfl ?_
  refine wpS_nil ?_
  refine QH_seq_k hK24 ?_
  refine wpC_ret ?_
  refine QH_block_ret ?_
  refine QH_then_ret ?_
  refine QH_then_ret ?_
  refine QH_block_ret ?_
  refine QH_then_ret ?_
  refine QH_ret rfl (RV.tmp rfl RV.nil) rfl ?_
  obtain rfl := Option.some.inj H
  replace hS := hS.cut 0
  exact ⟨rfl, hS⟩
theorem c_manifest_Same (x0 : Mf) (x1 : Mf) (A0_ : Option Addr) (c0_ : Nat) (A1_ : Option Addr) (c1_ : Nat) (w0 : World) (s0_ : SlI w0 enSg A0_ c0_ x0.segs) (s1_ : SlI w0 enSg A1_ c1_ x1.segs) {r : Bool} (H : m_manifest_Same x0 x1 = some r) : Calls Tryd.prog 41 #[.agg #[.int .i64 x0.next, .int .i64 x0.term, .int .i64 x0.vote, .int .i64 x0.snap.seq, .int .i64 x0.snap.fmt, .slice A0_ x0.segs.length c0_], .agg #[.int .i64 x1.next, .int .i64 x1.term, .int .i64 x1.vote, .int .i64 x1.snap.seq, .int .i64 x1.snap.fmt, .slice A1_ x1.segs.length c1_]] w0 fun e w' => e = .returned (.bool r) ∧ St0 All w0 w' [] := by
  unfold m_manifest_Same at H
  refine gw_enter2 Tryd.func41 rfl Tryd.ntmps41 rfl ?_
  have hS := St0.start All w0
  refine wpC_seq_k (fun K hK1 => ?_)
  refine wpC_region ?_
  refine wpS_box rfl rfl rfl CellsOf.agg hS (fun b2 w hS hB => ?_)
  refine wpS_box rfl rfl rfl CellsOf.agg hS (fun b4 w hS hB => ?_)
  refine wpS_quick 1 rfl ?_
  refine wpS_nil ?_
  refine QH_seq_k hK1 ?_
  refine wpC_seq_k (fun K hK6 => ?_)
  refine wpC_region ?_
  refine wpS_put rfl rfl rfl (yv_fieldAddr fo_50_4 rfl) ?_
  refine wpS_put rfl rfl rfl (yv_load_box sc_48 rfl (RW.here _) hS hs1 trivial sg5_1) ?_
  refine wpS_put rfl rfl rfl (yv_fieldAddr fo_50_4 rfl) ?_
  refine wpS_put rfl rfl rfl (yv_load_box sc_48 rfl (RW.here _) hS hs0 trivial sg5_1) ?_
  obtain ⟨r7, hm8, H⟩ := bind_some H
  refine wpS_call rfl rfl rfl rfl (by kernel_rfl) rfl (c_slices_Equal___api_Seg_api_Seg_ x0.segs x1.segs A0_ c0_ A1_ c1_ _ (SlI.of_rd s0_.k (hS.rd0 s0_.rd) (hS.blk0 s0_.blk)) (SlI.of_rd s1_.k (hS.rd0 s1_.rd) (hS.blk0 s1_.blk)) hm8) ?_
  rintro e w ⟨rfl, hN⟩; refine ⟨_, rfl, ?_⟩; have hB := hN.pure; have hS := hS.join hN; clear hN
  refine wpS_quick 1 rfl ?_
  refine wpS_nil ?_
  refine QH_seq_k hK6 ?_
  refine wpC_seq_k (fun K hK9 => ?_)
  refine wpC_region ?_
  refine wpS_put rfl rfl rfl (yv_fieldAddr fo_50_4 rfl) ?_
  refine wpS_store rfl rfl rfl CellsOf.slice hS ps1 st5_1 (by kernel_rfl) rfl (fun w hS hB => ?_)
  refine wpS_put rfl rfl rfl (yv_fieldAddr fo_50_4 rfl) ?_
  refine wpS_store rfl rfl rfl CellsOf.slice hS ps0 st5_1 (by kernel_rfl) rfl (fun w hS hB => ?_)
  refine wpS_nil ?_
  refine QH_seq_k hK9 ?_
  refine wpC_seq_k (fun K hK10 => ?_)
  refine wpC_region ?_
  refine wpS_quick 2 rfl ?_
  refine wpS_case 14 rfl (fun hb => ?_) (fun hb => ?_)
  rotate_left
  · replace H := cond_f H hb
    refine wpS_quick 28 rfl ?_
    refine wpS_nil ?_
    refine QH_seq_k hK10 ?_
    refine wpC_ret ?_
    refine QH_ret rfl (RV.tmp rfl RV.nil) rfl ?_
    obtain rfl := Option.some.inj H
    replace hS := hS.cut 0
    exact ⟨rfl, hS⟩
  replace H := cond_t H hb
  refine wpS_put rfl rfl rfl (yv_fieldAddr fo_50_0 rfl) ?_
  refine wpS_put rfl rfl rfl (yv_load_box sc_3 rfl (RW.here _) hS hs1 trivial sg0_1) ?_
  refine wpS_put rfl rfl rfl (yv_fieldAddr fo_50_0 rfl) ?_
  refine wpS_put rfl rfl rfl (yv_load_box sc_3 rfl (RW.here _) hS hs0 trivial sg0_1) ?_
  refine wpS_put rfl rfl rfl (yv_eql rfl rfl) ?_
  refine wpS_quick 2 rfl ?_
  refine wpS_case 21 rfl (fun hb => ?_) (fun hb => ?_)
  rotate_left
  · replace H := cond_f H hb
    refine wpS_quick 21 rfl ?_
    refine wpS_nil ?_
    refine QH_seq_k hK10 ?_
    refine wpC_ret ?_
    refine QH_ret rfl (RV.tmp rfl RV.nil) rfl ?_
    obtain rfl := Option.some.inj H
    replace hS := hS.cut 0
    exact ⟨rfl, hS⟩
  replace H := cond_t H hb
  refine wpS_put rfl rfl rfl (yv_fieldAddr fo_50_1 rfl) ?_
  refine wpS_put rfl rfl rfl (yv_load_box sc_3 rfl (RW.here _) hS hs1 trivial sg1_1) ?_
  refine wpS_put rfl rfl rfl (yv_fieldAddr fo_50_1 rfl) ?_
  refine wpS_put rfl rfl rfl (yv_load_box sc_3 rfl (RW.here _) hS hs0 trivial sg1_1) ?_
  refine wpS_put rfl rfl rfl (yv_eql rfl rfl) ?_
  refine wpS_quick 2 rfl ?_
  refine wpS_case 28 rfl (fun hb => ?_) (fun hb => ?_)
  rotate_left
  · replace H := cond_f H hb
    refine wpS_quick 14 rfl ?_
    refine wpS_nil ?_
    refine QH_seq_k hK10 ?_
    refine wpC_ret ?_
    refine QH_ret rfl (RV.tmp rfl RV.nil) rfl ?_
    obtain rfl := Option.some.inj H
    replace hS := hS.cut 0
    exact ⟨rfl, hS⟩
  replace H := cond_t H hb
  refine wpS_put rfl rfl rfl (yv_fieldAddr fo_50_2 rfl) ?_
  refine wpS_put rfl rfl rfl (yv_load_box sc_3 rfl (RW.here _) hS hs1 trivial sg2_1) ?_
  refine wpS_put rfl rfl rfl (yv_fieldAddr fo_50_2 rfl) ?_
  refine wpS_put rfl rfl rfl (yv_load_box sc_3 rfl (RW.here _) hS hs0 trivial sg2_1) ?_
  refine wpS_put rfl rfl rfl (yv_eql rfl rfl) ?_
  refine wpS_quick 2 rfl ?_
  refine wpS_case 35 rfl (fun hb => ?_) (fun hb => ?_)
  rotate_left
  · replace H := cond_f H hb
    refine wpS_quick 7 rfl ?_
    refine wpS_nil ?_
    refine QH_seq_k hK10 ?_
    refine wpC_ret ?_
    refine QH_ret rfl (RV.tmp rfl RV.nil) rfl ?_
    obtain rfl := Option.some.inj H
    replace hS := hS.cut 0
    exact ⟨rfl, hS⟩
  replace H := cond_t H hb
  refine wpS_put rfl rfl rfl (yv_fieldAddr fo_50_3 rfl) ?_
  refine wpS_put rfl rfl rfl (yv_load_boxA ag_47 rfl (RW.here _) hS hs1 trivial sg3_2) ?_
  refine wpS_put rfl rfl rfl (yv_fieldAddr fo_50_3 rfl) ?_
  refine wpS_put rfl rfl rfl (yv_load_boxA ag_47 rfl (RW.here _) hS hs0 trivial sg3_2) ?_
  refine wpS_put rfl rfl rfl (yv_eqlS (by kernel_rfl) rfl rfl (eqT_47 _ _ _ _)) ?_
  refine wpS_quick 2 rfl ?_
  refine wpS_nil ?_
  refine QH_seq_k hK10 ?_
  refine wpC_ret ?_
  refine QH_ret rfl (RV.tmp rfl RV.nil) rfl ?_
  obtain rfl := Option.some.inj H
  replace hS := hS.cut 0
  exact ⟨rfl, hS⟩
theorem c_ref11_Put (x0 : Mf) (A0_ : Option Addr) (c0_ : Nat) (w0 : World) (s0_ : SlI w0 enSg A0_ c0_ x0.segs) {r : List UInt8 × Int} (H : m_ref11_Put x0 = some r) : Calls Tryd.prog 42 #[.agg #[.int .i64 x0.next, .int .i64 x0.term, .int .i64 x0.vote, .int .i64 x0.snap.seq, .int .i64 x0.snap.fmt, .slice A0_ x0.segs.length c0_]] w0 fun e w' => ∃ (A0 : Option Addr) (c0 : Nat), e = .returned (.tuple #[.slice A0 r.1.length c0, .int .i64 r.2]) ∧ (r.1.length ≤ c0 ∧ c0 ≤ maxLen) ∧ St0 All w0 w' [.row (.slice A0 r.1.length c0) 5 1 r.1.length (encs enY r.1)] := by
  unfold m_ref11_Put at H
  refine gw_enter1 Tryd.func42 rfl Tryd.ntmps42 rfl ?_
  have hS := St0.start All w0
  refine wpC_seq_k (fun K hK1 => ?_)
  refine wpC_region ?_
  refine wpS_box rfl rfl rfl CellsOf.agg hS (fun b2 w hS hB => ?_)
  refine wpS_quick 2 rfl ?_
  refine wpS_nil ?_
  refine QH_seq_k hK1 ?_
  refine wpC_seq_k (fun K hK4 => ?_)
  refine wpC_seq_k (fun K hK5 => ?_)
  refine wpC_region ?_
  refine wpS_put rfl rfl rfl (yv_load_boxA ag_50 rfl (RW.here _) hS hs0 trivial sg0_6) ?_
  obtain ⟨r6, hm7, H⟩ := bind_some H
  refine wpS_call rfl rfl rfl rfl (by kernel_rfl) rfl (c_ref11_Check x0 A0_ c0_ _ (SlI.of_rd s0_.k (hS.rd0 s0_.rd) (hS.blk0 s0_.blk)) hm7) ?_
  rintro e w ⟨rfl, hN⟩; refine ⟨_, rfl, ?_⟩; have hB := hN.pure; have hS := hS.join hN; clear hN
  refine wpS_put rfl rfl rfl (yv_neq rfl rfl) ?_
  refine wpS_nil ?_
  refine QH_seq_k hK5 ?_
  refine wpC_cond rfl (fun hb => ?_) (fun hb => ?_)
  · replace H := cond_t H hb
    refine wpC_seq_k (fun K hK9 => ?_)
    refine wpC_region ?_
    refine wpS_quick 2 rfl ?_
    refine wpS_nil ?_
    refine QH_seq_k hK9 ?_
    refine wpC_ret ?_
    refine QH_then_ret ?_
    refine QH_ret rfl (RV.tmp rfl (RV.tmp rfl RV.nil)) rfl ?_
    obtain rfl := Option.some.inj H
    have hS := hS.nilRow 5 1
    replace hS := hS.cut 1
    exact ⟨none, 0, rfl, ⟨Nat.le_refl _, Nat.zero_le _⟩, hS⟩
  replace H := cond_f H hb
  refine wpC_skip ?_
  refine QH_seq_k hK4 ?_
  refine wpC_seq_k (fun K hK11 => ?_)
  refine wpC_region ?_
  refine wpS_put rfl rfl rfl (yv_fieldAddr fo_50_0 rfl) ?_
  refine wpS_put rfl rfl rfl (yv_load_box sc_3 rfl (RW.here _) hS hs0 trivial sg0_1) ?_
  refine wpS_put rfl rfl rfl (yv_fieldAddr fo_50_1 rfl) ?_
  refine wpS_put rfl rfl rfl (yv_load_box sc_3 rfl (RW.here _) hS hs0 trivial sg1_1) ?_
  refine wpS_put rfl rfl rfl (yv_fieldAddr fo_50_2 rfl) ?_
  refine wpS_put rfl rfl rfl (yv_load_box sc_3 rfl (RW.here _) hS hs0 trivial sg2_1) ?_
  refine wpS_put rfl rfl rfl (yv_fieldAddr fo_50_3 rfl) ?_
  refine wpS_put rfl rfl rfl (yv_fieldAddr fo_47_0 rfl) ?_
  refine wpS_put rfl rfl rfl (yv_load_box sc_3 rfl (RW.here _) hS hs0 trivial sg3_1) ?_
  refine wpS_put rfl rfl rfl (yv_fieldAddr fo_50_3 rfl) ?_
  refine wpS_put rfl rfl rfl (yv_fieldAddr fo_47_1 rfl) ?_
  refine wpS_put rfl rfl rfl (yv_load_box sc_3 rfl (RW.here _) hS hs0 trivial sg4_1) ?_
  refine wpS_put rfl rfl rfl (yv_fieldAddr fo_50_4 rfl) ?_
  refine wpS_put rfl rfl rfl (yv_load_box sc_48 rfl (RW.here _) hS hs0 trivial sg5_1) ?_
  refine wpS_put rfl rfl rfl (yv_len el_48 rfl) ?_
  refine wpS_sliceM (ps := [(0, .tmp 13), (1, .tmp 15), (2, .tmp 17), (3, .tmp 20), (4, .tmp 23), (5, .tmp 26)]) [.int .i64 x0.next, .int .i64 x0.term, .int .i64 x0.vote, .int .i64 x0.snap.seq, .int .i64 x0.snap.fmt, .int .i64 (x0.segs.length : Int)] el_90 zc_3 rfl rfl rfl rfl rfl (by kernel_rfl) hS (fun b12 w hS hB => ?_)
  refine wpS_quick 1 rfl ?_
  refine wpS_nil ?_
  refine QH_seq_k hK11 ?_
  refine wpC_seq_k (fun K hK14 => ?_)
  refine wpC_seq_k (fun K hK15 => ?_)
  refine wpC_region ?_
  refine wpS_quick 1 rfl ?_
  refine wpS_nil ?_
  refine QH_seq_k hK15 ?_
  refine wpC_block ?_
  replace hS := hS.front 0 rfl
  replace hS := hS.weak (Weak.boxRow (cs := encs enI ([x0.next, x0.term, x0.vote, x0.snap.seq, x0.snap.fmt, (x0.segs.length : Int)] : List Int)) (n := 6) (size := 1) rfl (by decide))
  refine wpC_loop (X := Nat × List Int × Option Addr × Nat × Int) (fun x => (1, .pointer (some ⟨b2, 0, none⟩)) :: (2, .slice none 0 0) :: (3, .int .i64 0) :: (4, .slice x.2.2.1 x.2.1.length x.2.2.2.1) :: (5, .int .i64 x.2.2.2.2) :: []) (fun x w => St0 All w0 w (.row (.slice x.2.2.1 x.2.1.length x.2.2.2.1) 3 1 x.2.1.length (encs enI x.2.1) :: .box b2 [.int .i64 x0.next, .int .i64 x0.term, .int .i64 x0.vote, .int .i64 x0.snap.seq, .int .i64 x0.snap.fmt, .slice A0_ x0.segs.length c0_] 50 :: []) ∧ (x.2.1.length ≤ x.2.2.2.1 ∧ x.2.2.2.1 ≤ maxLen) ∧ m_ref11_Put_l1 x0 x.1 x.2.1 x.2.2.2.2 = some r) (fun x => x.1) (fuelN, ([x0.next, x0.term, x0.vote, x0.snap.seq, x0.snap.fmt, (x0.segs.length : Int)] : List Int), (some ⟨b12, 0, none⟩), 6, 0) (by repeat (first | exact Sub.nil | refine Sub.cons rfl ?_)) ⟨hS, (show 6 ≤ 6 ∧ 6 ≤ maxLen from ⟨Nat.le_refl 6, by decide⟩), H⟩ ?_
  rintro ⟨n, v16, A17, c18, v20⟩ w ⟨hS, k19, H⟩
  dsimp only at hS k19 H ⊢
  obtain _ | n := n
  · have H0 : none = some r := H
    cases H0
  rw [m_ref11_Put_l1] at H
  refine wpC_seq_k (fun K hK21 => ?_)
  refine wpC_seq_k (fun K hK22 => ?_)
  refine wpC_region ?_
  refine wpS_quick 1 rfl ?_
  refine wpS_put rfl rfl rfl (yv_fieldAddr fo_50_4 rfl) ?_
  refine wpS_put rfl rfl rfl (yv_load_box sc_48 rfl (RW.here _) hS hs1 trivial sg5_1) ?_
  refine wpS_put rfl rfl rfl (yv_len el_48 rfl) ?_
  refine wpS_put rfl rfl rfl (yv_lss rfl rfl) ?_
  refine wpS_nil ?_
  refine QH_seq_k hK22 ?_
  refine wpC_cond rfl (fun hb => ?_) (fun hb => ?_)
  rotate_left
  · replace H := cond_f H hb
    refine wpC_exit ?_
    refine QH_then_exit ?_
    refine QH_then_exit ?_
    refine QH_block_hit ?_
    refine QH_seq_k hK14 ?_
    refine wpC_seq_k (fun K hK39 => ?_)
    refine wpC_region ?_
    refine wpS_quick 1 rfl ?_
    obtain ⟨r40, hm41, H⟩ := bind_some H
    refine wpS_call rfl rfl rfl rfl (by kernel_rfl) rfl (c_ref01_Short v16 A17 c18 _ (SlI.of_rd k19 (hS.row_rd hs0) (hS.row_blk hs0)) hm41) ?_
    rintro e w ⟨A42, c43, rfl, k44, hN⟩; refine ⟨_, rfl, ?_⟩; have hB := hN.pure; have hS := hS.join hN; clear hN
    refine wpS_quick 1 rfl ?_
    refine wpS_put rfl rfl rfl (yv_extract rfl rfl) ?_
    refine wpS_put rfl rfl rfl (yv_extract rfl rfl) ?_
    refine wpS_quick 2 rfl ?_
    refine wpS_nil ?_
    refine QH_seq_k hK39 ?_
    refine wpC_seq_k (fun K hK46 => ?_)
    refine wpC_region ?_
    refine wpS_sliceM (ps := [(0, .const (.int .u8 77))]) [.int .u8 77] el_23 zc_5 rfl rfl rfl rfl rfl (by kernel_rfl) hS (fun b47 w hS hB => ?_)
    refine wpS_quick 1 rfl ?_
    replace hS := hS.front 0 rfl
    replace hS := hS.weak (Weak.boxRow (cs := encs enY ([77] : List UInt8)) (n := 1) (size := 1) rfl (by decide))
    obtain ⟨l49, hf50, H⟩ := bind_some H
    refine wpX_append (ys := r40.1) he_enY oc_enY em_23 (by decide) rfl rfl rfl rfl hS (fun _ => ps0) (hS.row_rd hs1) hf50 (fun A51 c52 w k53 hS => ?_)
    obtain ⟨r54, hm55, H⟩ := bind_some H
    refine wpS_call rfl rfl rfl rfl (by kernel_rfl) rfl (c_ref03_Put l49 A51 c52 _ (SlI.of_rd k53 (hS.row_rd hs0) (hS.row_blk hs0)) hm55) ?_
    rintro e w ⟨A56, c57, rfl, k58, hN⟩; refine ⟨_, rfl, ?_⟩; have hB := hN.pure; have hS := hS.join hN; clear hN
    refine wpS_quick 2 rfl ?_
    refine wpS_nil ?_
    refine QH_seq_k hK46 ?_
    refine wpC_ret ?_
    refine QH_ret rfl (RV.tmp rfl (RV.tmp rfl RV.nil)) rfl ?_
    obtain rfl := Option.some.inj H
    have hS := hS.front 0 rfl
    replace hS := hS.cut 1
    exact ⟨A56, c57, rfl, k58, hS⟩
  replace H := cond_t H hb
  refine wpC_skip ?_
  refine QH_seq_k hK21 ?_
  refine wpC_seq_k (fun K hK24 => ?_)
  refine wpC_block ?_
  refine wpC_seq_k (fun K hK25 => ?_)
  refine wpC_region ?_
  refine wpS_put rfl rfl rfl (yv_fieldAddr fo_50_4 rfl) ?_
  refine wpS_put rfl rfl rfl (yv_load_box sc_48 rfl (RW.here _) hS hs1 trivial sg5_1) ?_
  refine wpS_quick 1 rfl ?_
  obtain ⟨e26, hi28, H⟩ := bind_some H
  obtain ⟨j27, hi28a, hi28b, hi28c⟩ := idx_some hi28
  refine wpS_put rfl rfl rfl (yx_idx el_48 rfl rfl hi28a hi28c (Rd.el (hS.rd0 s0_.rd) he_enSg hi28b)) ?_
  refine wpS_put rfl rfl rfl (yx_ldA0 ag_66 rfl (RW.here _) (Rd.el (hS.rd0 s0_.rd) he_enSg hi28b) sg0_4) ?_
  refine wpS_alloc rfl rfl zc_66 hS (fun b29 w hS hB => ?_)
  refine wpS_store rfl rfl rfl CellsOf.agg hS ps0 st0_4 (by kernel_rfl) rfl (fun w hS hB => ?_)
  refine wpS_nil ?_
  refine QH_seq_k hK25 ?_
  refine wpC_region ?_
  refine wpS_quick 1 rfl ?_
  refine wpS_put rfl rfl rfl (yv_fieldAddr fo_66_0 rfl) ?_
  refine wpS_put rfl rfl rfl (yv_load_box sc_3 rfl (RW.here _) hS hs0 trivial sg0_1) ?_
  refine wpS_put rfl rfl rfl (yv_fieldAddr fo_66_1 rfl) ?_
  refine wpS_put rfl rfl rfl (yv_load_box sc_3 rfl (RW.here _) hS hs0 trivial sg1_1) ?_
  refine wpS_put rfl rfl rfl (yv_fieldAddr fo_66_2 rfl) ?_
  refine wpS_put rfl rfl rfl (yv_load_box sc_3 rfl (RW.here _) hS hs0 trivial sg2_1) ?_
  refine wpS_put rfl rfl rfl (yv_fieldAddr fo_66_3 rfl) ?_
  refine wpS_put rfl rfl rfl (yv_load_box sc_3 rfl (RW.here _) hS hs0 trivial sg3_1) ?_
  refine wpS_put rfl rfl rfl (yx_add rfl rfl) ?_
  refine wpS_sliceM (ps := [(0, .tmp 42), (1, .tmp 44), (2, .tmp 46), (3, .tmp 49)]) [.int .i64 e26.seq, .int .i64 e26.fmt, .int .i64 e26.first, .int .i64 (IntKind.wrap .i64 (e26.count + 1))] el_90 zc_3 rfl rfl rfl rfl rfl (by kernel_rfl) hS (fun b31 w hS hB => ?_)
  obtain ⟨l33, hf34, H⟩ := bind_some H
  refine wpX_append (ys := ([e26.seq, e26.fmt, e26.first, (IntKind.wrap .i64 (e26.count + 1))] : List Int)) he_enI oc_enI em_90 (by decide) rfl rfl rfl rfl hS (fun _ => ps2) (hS.box_rd hs0) hf34 (fun A35 c36 w k37 hS => ?_)
  refine wpS_quick 1 rfl ?_
  refine wpS_nil ?_
  refine QH_block_normal ?_
  refine QH_seq_k hK24 ?_
  refine wpC_region ?_
  refine wpS_quick 1 rfl ?_
  refine wpS_put rfl rfl rfl (yx_add rfl rfl) ?_
  refine wpS_quick 1 rfl ?_
  refine wpS_nil ?_
  exact QH_again (n, l33, A35, c36, (IntKind.wrap .i64 (v20 + 1))) (by repeat (first | exact Sub.nil | refine Sub.cons rfl ?_)) ⟨(hS.sub (List.Sublist.cons _ (List.Sublist.cons _ (List.Sublist.cons_cons _ (List.Sublist.cons_cons _ List.Sublist.slnil))))), k37, H⟩ (Nat.lt_succ_self _)
theorem c_ref11_Take (x0 : List UInt8) (A0_ : Option Addr) (c0_ : Nat) (w0 : World) (s0_ : SlI w0 enY A0_ c0_ x0) {r : Mf × Int} (H : m_ref11_Take x0 = some r) : Calls Tryd.prog 43 #[.slice A0_ x0.length c0_] w0 fun e w' => ∃ (A0 : Option Addr) (c0 : Nat), e = .returned (.tuple #[.agg #[.int .i64 r.1.next, .int .i64 r.1.term, .int .i64 r.1.vote, .int .i64 r.1.snap.seq, .int .i64 r.1.snap.fmt, .slice A0 r.1.segs.length c0], .int .i64 r.2]) ∧ (r.1.segs.length ≤ c0 ∧ c0 ≤ maxLen) ∧ St0 All w0 w' [.row (.slice A0 r.1.segs.length c0) 66 4 r.1.segs.length (encs enSg r.1.segs)] := by
  unfold m_ref11_Take at H
  refine gw_enter1 Tryd.func43 rfl Tryd.ntmps43 rfl ?_
  have hS := St0.start All w0
  refine wpC_seq_k (fun K hK1 => ?_)
  refine wpC_region ?_
  refine wpS_alloc rfl rfl zc_50 hS (fun b2 w hS hB => ?_)
  refine wpS_quick 1 rfl ?_
  refine wpS_nil ?_
  refine QH_seq_k hK1 ?_
  refine wpC_seq_k (fun K hK4 => ?_)
  refine wpC_region ?_
  refine wpS_quick 1 rfl ?_
  obtain ⟨r5, hm6, H⟩ := bind_some H
  refine wpS_call rfl rfl rfl rfl (by kernel_rfl) rfl (c_ref03_Take x0 A0_ c0_ _ (SlI.of_rd s0_.k (hS.rd0 s0_.rd) (hS.blk0 s0_.blk)) hm6) ?_
  rintro e w ⟨A7, c8, rfl, k9, hN⟩; refine ⟨_, rfl, ?_⟩; have hB := hN.pure; have hS := hS.join hN; clear hN
  refine wpS_quick 1 rfl ?_
  refine wpS_put rfl rfl rfl (yv_extract rfl rfl) ?_
  refine wpS_put rfl rfl rfl (yv_extract rfl rfl) ?_
  refine wpS_quick 2 rfl ?_
  refine wpS_nil ?_
  refine QH_seq_k hK4 ?_
  refine wpC_seq_k (fun K hK11 => ?_)
  refine wpC_seq_k (fun K hK12 => ?_)
  refine wpC_region ?_
  refine wpS_quick 1 rfl ?_
  refine wpS_put rfl rfl rfl (yv_not rfl) ?_
  refine wpS_quick 1 rfl ?_
  refine wpS_case 22 rfl (fun hb => ?_) (fun hb => ?_)
  · replace H := cond_t H hb
    refine wpS_quick 4 rfl ?_
    refine wpS_nil ?_
    refine QH_seq_k hK12 ?_
    refine wpC_cond_t rfl rfl ?_
    refine wpC_seq_k (fun K hK14 => ?_)
    refine wpC_region ?_
    refine wpS_put rfl rfl rfl (yv_build (cells := [.int .i64 0, .int .i64 0, .int .i64 0, .int .i64 0, .int .i64 0, .slice none 0 0]) rfl (by kernel_rfl)) ?_
    refine wpS_store rfl rfl rfl CellsOf.agg hS ps1 st0_6 (by kernel_rfl) rfl (fun w hS hB => ?_)
    refine wpS_quick 1 rfl ?_
    refine wpS_nil ?_
    refine QH_seq_k hK14 ?_
    refine wpC_ret ?_
    refine QH_then_ret ?_
    refine QH_ret rfl (RV.cell rfl (load_boxA ag_50 hS hs1 sg0_6) (RV.tmp rfl RV.nil)) rfl ?_
    obtain rfl := Option.some.inj H
    have hS := hS.nilRow 66 4
    replace hS := hS.cut 1
    exact ⟨none, 0, rfl, ⟨Nat.le_refl _, Nat.zero_le _⟩, hS⟩
  replace H := cond_f H hb
  refine wpS_quick 1 rfl ?_
  refine wpS_put rfl rfl rfl (yv_len el_23 rfl) ?_
  refine wpS_put rfl rfl rfl (yv_lss rfl rfl) ?_
  refine wpS_quick 1 rfl ?_
  refine wpS_nil ?_
  refine QH_seq_k hK12 ?_
  refine wpC_cond rfl (fun hb => ?_) (fun hb => ?_)
  · replace H := cond_t H hb
    refine wpC_seq_k (fun K hK17 => ?_)
    refine wpC_region ?_
    refine wpS_put rfl rfl rfl (yv_build (cells := [.int .i64 0, .int .i64 0, .int .i64 0, .int .i64 0, .int .i64 0, .slice none 0 0]) rfl (by kernel_rfl)) ?_
    refine wpS_store rfl rfl rfl CellsOf.agg hS ps1 st0_6 (by kernel_rfl) rfl (fun w hS hB => ?_)
    refine wpS_quick 1 rfl ?_
    refine wpS_nil ?_
    refine QH_seq_k hK17 ?_
    refine wpC_ret ?_
    refine QH_then_ret ?_
    refine QH_ret rfl (RV.cell rfl (load_boxA ag_50 hS hs1 sg0_6) (RV.tmp rfl RV.nil)) rfl ?_
    obtain rfl := Option.some.inj H
    have hS := hS.nilRow 66 4
    replace hS := hS.cut 1
    exact ⟨none, 0, rfl, ⟨Nat.le_refl _, Nat.zero_le _⟩, hS⟩
  replace H := cond_f H hb
  refine wpC_skip ?_
  refine QH_seq_k hK11 ?_
  refine wpC_seq_k (fun K hK19 => ?_)
  refine wpC_region ?_
  refine wpS_quick 1 rfl ?_
  obtain ⟨l20, hd21, H⟩ := bind_some H
  refine wpS_put rfl rfl rfl (yx_slice_l el_23 rfl rfl hd21) ?_
  obtain ⟨r22, hm23, H⟩ := bind_some H
  refine wpS_call rfl rfl rfl rfl (by kernel_rfl) rfl (c_ref01_Takes l20 6 (cutA A7 c8 (Int.toNat 1) 1) (c8 - Int.toNat 1) _ (SlI.of_rd (k_drop k9 hd21) (Rd.dropI he_enY (hS.row_rd hs0) k9.1 hd21) (cutA_blk (hS.row_blk hs0))) hm23) ?_
  rintro e w ⟨A24, c25, A28, c29, rfl, k26, k30, hN⟩; refine ⟨_, rfl, ?_⟩; have hB := hN.pure; have hS := hS.join hN; clear hN
  refine wpS_quick 1 rfl ?_
  refine wpS_put rfl rfl rfl (yv_extract rfl rfl) ?_
  refine wpS_put rfl rfl rfl (yv_extract rfl rfl) ?_
  refine wpS_put rfl rfl rfl (yv_extract rfl rfl) ?_
  refine wpS_quick 3 rfl ?_
  refine wpS_nil ?_
  refine QH_seq_k hK19 ?_
  refine wpC_seq_k (fun K hK32 => ?_)
  refine wpC_seq_k (fun K hK33 => ?_)
  refine wpC_region ?_
  refine wpS_quick 1 rfl ?_
  refine wpS_put rfl rfl rfl (yv_neq rfl rfl) ?_
  refine wpS_quick 1 rfl ?_
  refine wpS_case 37 rfl (fun hb => ?_) (fun hb => ?_)
  · replace H := cond_t H hb
    refine wpS_quick 5 rfl ?_
    refine wpS_nil ?_
    refine QH_seq_k hK33 ?_
    refine wpC_cond_t rfl rfl ?_
    refine wpC_seq_k (fun K hK35 => ?_)
    refine wpC_region ?_
    refine wpS_put rfl rfl rfl (yv_build (cells := [.int .i64 0, .int .i64 0, .int .i64 0, .int .i64 0, .int .i64 0, .slice none 0 0]) rfl (by kernel_rfl)) ?_
    refine wpS_store rfl rfl rfl CellsOf.agg hS ps3 st0_6 (by kernel_rfl) rfl (fun w hS hB => ?_)
    refine wpS_quick 1 rfl ?_
    refine wpS_nil ?_
    refine QH_seq_k hK35 ?_
    refine wpC_ret ?_
    refine QH_then_ret ?_
    refine QH_ret rfl (RV.cell rfl (load_boxA ag_50 hS hs3 sg0_6) (RV.tmp rfl RV.nil)) rfl ?_
    obtain rfl := Option.some.inj H
    have hS := hS.nilRow 66 4
    replace hS := hS.cut 1
    exact ⟨none, 0, rfl, ⟨Nat.le_refl _, Nat.zero_le _⟩, hS⟩
  replace H := cond_f H hb
  refine wpS_quick 1 rfl ?_
  obtain ⟨e37, hi39, H⟩ := bind_some H
  obtain ⟨j38, hi39a, hi39b, hi39c⟩ := idx_some hi39
  refine wpS_put rfl rfl rfl (yx_idx el_90 rfl rfl hi39a hi39c (Rd.el (hS.row_rd hs0) he_enI hi39b)) ?_
  refine wpS_put rfl rfl rfl (yx_ld0 sc_3 rfl (RW.here _) (Rd.el (hS.row_rd hs0) he_enI hi39b) rfl) ?_
  refine wpS_put rfl rfl rfl (yv_gtr rfl rfl) ?_
  refine wpS_quick 1 rfl ?_
  refine wpS_nil ?_
  refine QH_seq_k hK33 ?_
  refine wpC_cond rfl (fun hb => ?_) (fun hb => ?_)
  · replace H := cond_t H hb
    refine wpC_seq_k (fun K hK41 => ?_)
    refine wpC_region ?_
    refine wpS_put rfl rfl rfl (yv_build (cells := [.int .i64 0, .int .i64 0, .int .i64 0, .int .i64 0, .int .i64 0, .slice none 0 0]) rfl (by kernel_rfl)) ?_
    refine wpS_store rfl rfl rfl CellsOf.agg hS ps3 st0_6 (by kernel_rfl) rfl (fun w hS hB => ?_)
    refine wpS_quick 1 rfl ?_
    refine wpS_nil ?_
    refine QH_seq_k hK41 ?_
    refine wpC_ret ?_
    refine QH_then_ret ?_
    refine QH_ret rfl (RV.cell rfl (load_boxA ag_50 hS hs3 sg0_6) (RV.tmp rfl RV.nil)) rfl ?_
    obtain rfl := Option.some.inj H
    have hS := hS.nilRow 66 4
    replace hS := hS.cut 1
    exact ⟨none, 0, rfl, ⟨Nat.le_refl _, Nat.zero_le _⟩, hS⟩
  replace H := cond_f H hb
  refine wpC_skip ?_
  refine QH_seq_k hK32 ?_
  refine wpC_seq_k (fun K hK43 => ?_)
  refine wpC_draw 19 [18] (fun i b => (i = 18 → b = b2)) ⟨by kernel_rfl, by kernel_rfl⟩ hS (fun w hS hB => ?_)
  refine wpR_batch [true, true, true, true, true, true, true, true, true, true, true, true, true, true, true, true, true] (by decide +kernel) (by repeat (first | exact PF.body | exact PF.round | apply PF.then | apply PF.inBlock | apply PF.jump)) ?_
  refine LtK.put rfl rfl rfl (yv_move rfl) ?_
  obtain ⟨e44, hi46, H⟩ := bind_some H
  obtain ⟨j45, hi46a, hi46b, hi46c⟩ := idx_some hi46
  refine LtK.put rfl rfl rfl (yx_idx el_90 rfl rfl hi46a hi46c (Rd.el (hS.row_rd hs0) he_enI hi46b)) ?_
  refine LtK.put rfl rfl rfl (yx_ld0 sc_3 rfl (RW.below _) (Rd.el (hS.row_rd hs0) he_enI hi46b) rfl) ?_
  refine LtK.put rfl rfl rfl (yv_move rfl) ?_
  obtain ⟨e47, hi49, H⟩ := bind_some H
  obtain ⟨j48, hi49a, hi49b, hi49c⟩ := idx_some hi49
  refine LtK.put rfl rfl rfl (yx_idx el_90 rfl rfl hi49a hi49c (Rd.el (hS.row_rd hs0) he_enI hi49b)) ?_
  refine LtK.put rfl rfl rfl (yx_ld0 sc_3 rfl (RW.below _) (Rd.el (hS.row_rd hs0) he_enI hi49b) rfl) ?_
  refine LtK.put rfl rfl rfl (yv_move rfl) ?_
  obtain ⟨e50, hi52, H⟩ := bind_some H
  obtain ⟨j51, hi52a, hi52b, hi52c⟩ := idx_some hi52
  refine LtK.put rfl rfl rfl (yx_idx el_90 rfl rfl hi52a hi52c (Rd.el (hS.row_rd hs0) he_enI hi52b)) ?_
  refine LtK.put rfl rfl rfl (yx_ld0 sc_3 rfl (RW.below _) (Rd.el (hS.row_rd hs0) he_enI hi52b) rfl) ?_
  refine LtK.put rfl rfl rfl (yv_move rfl) ?_
  obtain ⟨e53, hi55, H⟩ := bind_some H
  obtain ⟨j54, hi55a, hi55b, hi55c⟩ := idx_some hi55
  refine LtK.put rfl rfl rfl (yx_idx el_90 rfl rfl hi55a hi55c (Rd.el (hS.row_rd hs0) he_enI hi55b)) ?_
  refine LtK.put rfl rfl rfl (yx_ld0 sc_3 rfl (RW.below _) (Rd.el (hS.row_rd hs0) he_enI hi55b) rfl) ?_
  refine LtK.put rfl rfl rfl (yv_move rfl) ?_
  obtain ⟨e56, hi58, H⟩ := bind_some H
  obtain ⟨j57, hi58a, hi58b, hi58c⟩ := idx_some hi58
  refine LtK.put rfl rfl rfl (yx_idx el_90 rfl rfl hi58a hi58c (Rd.el (hS.row_rd hs0) he_enI hi58b)) ?_
  refine LtK.put rfl rfl rfl (yx_ld0 sc_3 rfl (RW.below _) (Rd.el (hS.row_rd hs0) he_enI hi58b) rfl) ?_
  refine LtK.put rfl rfl rfl (yv_build (cells := [.int .i64 e53, .int .i64 e56]) rfl (by kernel_rfl)) ?_
  refine LtK.put rfl rfl rfl (yv_build (cells := [.int .i64 e44, .int .i64 e47, .int .i64 e50, .int .i64 e53, .int .i64 e56, .slice none 0 0]) rfl (by kernel_rfl)) ?_
  refine LtK.nil ?_
  refine wpR_call [false, false, false, false, false, false, false, false, false, false, false, false, false, false, false, false, false, true] 17 ⟨by decide, by kernel_rfl, by kernel_rfl⟩ rfl rfl ?_
  try dsimp only [pickL]
  refine wpS_alloc rfl rfl zc_50 hS (fun b59 w hS hB => ?_)
  refine wpS_nil ?_
  refine QH_step hB ?_
  refine wpR_seal [false, false, false, false, false, false, false, false, false, false, false, false, false, false, false, false, false, false, true] 18 ⟨by decide, by kernel_rfl, by kernel_rfl⟩ rfl rfl ?_
  try dsimp only [pickL]
  refine wpS_store rfl rfl rfl CellsOf.agg hS ps0 st0_6 (by kernel_rfl) rfl (fun w hS hB => ?_)
  refine wpS_nil ?_
  refine QH_stepG (hB.sub (fun b _ h => by have h0 : b = b2 := (by simpa using h); (rw [h0]; exact hS.ne 4 0 rfl rfl rfl))) ?_
  refine wpR_end (by kernel_rfl) ?_
  refine QH_seq_k hK43 ?_
  refine wpC_seq_k (fun K hK61 => ?_)
  refine wpC_seq_k (fun K hK62 => ?_)
  refine wpC_region ?_
  refine wpS_quick 1 rfl ?_
  refine wpS_nil ?_
  refine QH_seq_k hK62 ?_
  refine wpC_block ?_
  replace hS := hS.nilRow 66 4
  refine wpC_loop (X := Nat × Int × List UInt8 × Option Addr × Nat × Int × List Sg × Option Addr × Nat) (fun x => (0, .slice A0_ x0.length c0_) :: (2, .pointer (some ⟨b2, 0, none⟩)) :: (3, .int .i64 x.2.1) :: (6, .slice A24 r22.1.length c25) :: (7, .slice x.2.2.2.1 x.2.2.1.length x.2.2.2.2.1) :: (8, .int .i64 r22.2.2) :: (9, .pointer (some ⟨b59, 0, none⟩)) :: (10, .int .i64 x.2.2.2.2.2.1) :: []) (fun x w => St0 All w0 w (.row (.slice x.2.2.2.2.2.2.2.1 x.2.2.2.2.2.2.1.length x.2.2.2.2.2.2.2.2) 66 4 x.2.2.2.2.2.2.1.length (encs enSg x.2.2.2.2.2.2.1) :: .box b59 [.int .i64 e44, .int .i64 e47, .int .i64 e50, .int .i64 e53, .int .i64 e56, .slice x.2.2.2.2.2.2.2.1 x.2.2.2.2.2.2.1.length x.2.2.2.2.2.2.2.2] 50 :: .row (.slice A24 r22.1.length c25) 3 1 r22.1.length (encs enI r22.1) :: .row (.slice x.2.2.2.1 x.2.2.1.length x.2.2.2.2.1) 5 1 x.2.2.1.length (encs enY x.2.2.1) :: .row (.slice A7 r5.1.length c8) 5 1 r5.1.length (encs enY r5.1) :: .box b2 [.int .i64 0, .int .i64 0, .int .i64 0, .int .i64 0, .int .i64 0, .slice none 0 0] 50 :: []) ∧ (x.2.2.1.length ≤ x.2.2.2.2.1 ∧ x.2.2.2.2.1 ≤ maxLen) ∧ (x.2.2.2.2.2.2.1.length ≤ x.2.2.2.2.2.2.2.2 ∧ x.2.2.2.2.2.2.2.2 ≤ maxLen) ∧ m_ref11_Take_l1 x0 r22 e44 e47 e50 e53 e56 x.1 x.2.1 x.2.2.1 x.2.2.2.2.2.1 x.2.2.2.2.2.2.1 = some r) (fun x => x.1) (fuelN, 0, r22.2.1, A28, c29, 0, [], none, 0) (by repeat (first | exact Sub.nil | refine Sub.cons rfl ?_)) ⟨hS, k30, ⟨Nat.le_refl _, Nat.zero_le _⟩, H⟩ ?_
  rintro ⟨n, v63, v64, A65, c66, v68, v69, A70, c71⟩ w ⟨hS, k67, k72, H⟩
  dsimp only at hS k67 k72 H ⊢
  obtain _ | n := n
  · have H0 : none = some r := H
    cases H0
  rw [m_ref11_Take_l1] at H
  refine wpC_seq_k (fun K hK74 => ?_)
  refine wpC_seq_k (fun K hK75 => ?_)
  refine wpC_region ?_
  refine wpS_quick 2 rfl ?_
  obtain ⟨e76, hi78, H⟩ := bind_some H
  obtain ⟨j77, hi78a, hi78b, hi78c⟩ := idx_some hi78
  refine wpS_put rfl rfl rfl (yx_idx el_90 rfl rfl hi78a hi78c (Rd.el (hS.row_rd hs2) he_enI hi78b)) ?_
  refine wpS_put rfl rfl rfl (yx_ld0 sc_3 rfl (RW.here _) (Rd.el (hS.row_rd hs2) he_enI hi78b) rfl) ?_
  refine wpS_put rfl rfl rfl (yv_lss rfl rfl) ?_
  refine wpS_nil ?_
  refine QH_seq_k hK75 ?_
  refine wpC_cond rfl (fun hb => ?_) (fun hb => ?_)
  rotate_left
  · replace H := cond_f H hb
    refine wpC_exit ?_
    refine QH_then_exit ?_
    refine QH_then_exit ?_
    refine QH_block_hit ?_
    refine QH_seq_k hK61 ?_
    refine wpC_seq_k (fun K hK118 => ?_)
    refine wpC_region ?_
    refine wpS_put rfl rfl rfl (yv_load_boxA ag_50 rfl (RW.here _) hS hs1 trivial sg0_6) ?_
    obtain ⟨r119, hm120, H⟩ := bind_some H
    refine wpS_call rfl rfl rfl rfl (by kernel_rfl) rfl (c_ref11_Put (⟨e44, e47, e50, (⟨e53, e56⟩ : Rf), v69⟩ : Mf) A70 c71 _ (SlI.of_rd k72 (hS.row_rd hs0) (hS.row_blk hs0)) hm120) ?_
    rintro e w ⟨A121, c122, rfl, k123, hN⟩; refine ⟨_, rfl, ?_⟩; have hB := hN.pure; have hS := hS.join hN; clear hN
    refine wpS_quick 1 rfl ?_
    refine wpS_put rfl rfl rfl (yv_extract rfl rfl) ?_
    refine wpS_put rfl rfl rfl (yv_extract rfl rfl) ?_
    refine wpS_quick 2 rfl ?_
    refine wpS_nil ?_
    refine QH_seq_k hK118 ?_
    refine wpC_seq_k (fun K hK125 => ?_)
    refine wpC_seq_k (fun K hK126 => ?_)
    refine wpC_region ?_
    refine wpS_quick 1 rfl ?_
    refine wpS_put rfl rfl rfl (yv_neq rfl rfl) ?_
    refine wpS_quick 1 rfl ?_
    refine wpS_case 104 rfl (fun hb => ?_) (fun hb => ?_)
    · replace H := cond_t H hb
      refine wpS_quick 6 rfl ?_
      refine wpS_nil ?_
      refine QH_seq_k hK126 ?_
      refine wpC_cond_t rfl rfl ?_
      refine wpC_seq_k (fun K hK128 => ?_)
      refine wpC_region ?_
      refine wpS_put rfl rfl rfl (yv_build (cells := [.int .i64 0, .int .i64 0, .int .i64 0, .int .i64 0, .int .i64 0, .slice none 0 0]) rfl (by kernel_rfl)) ?_
      refine wpS_store rfl rfl rfl CellsOf.agg hS ps6 st0_6 (by kernel_rfl) rfl (fun w hS hB => ?_)
      refine wpS_quick 1 rfl ?_
      refine wpS_nil ?_
      refine QH_seq_k hK128 ?_
      refine wpC_ret ?_
      refine QH_then_ret ?_
      refine QH_ret rfl (RV.cell rfl (load_boxA ag_50 hS hs6 sg0_6) (RV.tmp rfl RV.nil)) rfl ?_
      obtain rfl := Option.some.inj H
      have hS := hS.nilRow 66 4
      replace hS := hS.cut 1
      exact ⟨none, 0, rfl, ⟨Nat.le_refl _, Nat.zero_le _⟩, hS⟩
    replace H := cond_f H hb
    refine wpS_quick 1 rfl ?_
    refine wpS_put rfl rfl rfl (yx_str (e := 5) (by kernel_rfl) (by kernel_rfl) (by kernel_rfl) rfl (RW.here _) (hS.row_rd hs0)) ?_
    refine wpS_quick 1 rfl ?_
    refine wpS_put rfl rfl rfl (yx_str (e := 5) (by kernel_rfl) (by kernel_rfl) (by kernel_rfl) rfl (RW.here _) (hS.rd0 s0_.rd)) ?_
    refine wpS_put rfl rfl rfl (yx_neqStr rfl rfl) ?_
    refine wpS_quick 1 rfl ?_
    refine wpS_nil ?_
    refine QH_seq_k hK126 ?_
    refine wpC_cond rfl (fun hb => ?_) (fun hb => ?_)
    · replace H := cond_t H hb
      refine wpC_seq_k (fun K hK131 => ?_)
      refine wpC_region ?_
      refine wpS_put rfl rfl rfl (yv_build (cells := [.int .i64 0, .int .i64 0, .int .i64 0, .int .i64 0, .int .i64 0, .slice none 0 0]) rfl (by kernel_rfl)) ?_
      refine wpS_store rfl rfl rfl CellsOf.agg hS ps6 st0_6 (by kernel_rfl) rfl (fun w hS hB => ?_)
      refine wpS_quick 1 rfl ?_
      refine wpS_nil ?_
      refine QH_seq_k hK131 ?_
      refine wpC_ret ?_
      refine QH_then_ret ?_
      refine QH_ret rfl (RV.cell rfl (load_boxA ag_50 hS hs6 sg0_6) (RV.tmp rfl RV.nil)) rfl ?_
      obtain rfl := Option.some.inj H
      have hS := hS.nilRow 66 4
      replace hS := hS.cut 1
      exact ⟨none, 0, rfl, ⟨Nat.le_refl _, Nat.zero_le _⟩, hS⟩
    replace H := cond_f H hb
    refine wpC_skip ?_
    refine QH_seq_k hK125 ?_
    refine wpC_seq_k (fun K hK133 => ?_)
    refine wpC_region ?_
    refine wpS_put rfl rfl rfl (yv_load_boxA ag_50 rfl (RW.here _) hS hs2 trivial sg0_6) ?_
    refine wpS_store rfl rfl rfl CellsOf.agg hS ps6 st0_6 (by kernel_rfl) rfl (fun w hS hB => ?_)
    refine wpS_quick 1 rfl ?_
    refine wpS_nil ?_
    refine QH_seq_k hK133 ?_
    refine wpC_ret ?_
    refine QH_ret rfl (RV.cell rfl (load_boxA ag_50 hS hs6 sg0_6) (RV.tmp rfl RV.nil)) rfl ?_
    obtain rfl := Option.some.inj H
    have hS := hS.front 1 rfl
    replace hS := hS.cut 1
    exact ⟨A70, c71, rfl, k72, hS⟩
  replace H := cond_t H hb
  refine wpC_skip ?_
  refine QH_seq_k hK74 ?_
  refine wpC_seq_k (fun K hK80 => ?_)
  refine wpC_block ?_
  refine wpC_seq_k (fun K hK81 => ?_)
  refine wpC_region ?_
  refine wpS_quick 1 rfl ?_
  obtain ⟨r82, hm83, H⟩ := bind_some H
  refine wpS_call rfl rfl rfl rfl (by kernel_rfl) rfl (c_ref01_Takes v64 4 A65 c66 _ (SlI.of_rd k67 (hS.row_rd hs3) (hS.row_blk hs3)) hm83) ?_
  rintro e w ⟨A84, c85, A88, c89, rfl, k86, k90, hN⟩; refine ⟨_, rfl, ?_⟩; have hB := hN.pure; have hS := hS.join hN; clear hN
  refine wpS_quick 1 rfl ?_
  refine wpS_put rfl rfl rfl (yv_extract rfl rfl) ?_
  refine wpS_put rfl rfl rfl (yv_extract rfl rfl) ?_
  refine wpS_put rfl rfl rfl (yv_extract rfl rfl) ?_
  refine wpS_quick 3 rfl ?_
  refine wpS_nil ?_
  refine QH_seq_k hK81 ?_
  refine wpC_seq_k (fun K hK92 => ?_)
  refine wpC_seq_k (fun K hK93 => ?_)
  refine wpC_region ?_
  refine wpS_quick 1 rfl ?_
  refine wpS_put rfl rfl rfl (yv_neq rfl rfl) ?_
  refine wpS_nil ?_
  refine QH_seq_k hK93 ?_
  refine wpC_cond rfl (fun hb => ?_) (fun hb => ?_)
  · replace H := cond_t H hb
    refine wpC_seq_k (fun K hK95 => ?_)
    refine wpC_region ?_
    refine wpS_put rfl rfl rfl (yv_build (cells := [.int .i64 0, .int .i64 0, .int .i64 0, .int .i64 0, .int .i64 0, .slice none 0 0]) rfl (by kernel_rfl)) ?_
    refine wpS_store rfl rfl rfl CellsOf.agg hS ps7 st0_6 (by kernel_rfl) rfl (fun w hS hB => ?_)
    refine wpS_quick 1 rfl ?_
    refine wpS_nil ?_
    refine QH_seq_k hK95 ?_
    refine wpC_ret ?_
    refine QH_then_ret ?_
    refine QH_block_ret ?_
    refine QH_then_ret ?_
    refine QH_then_ret ?_
    refine QH_block_ret ?_
    refine QH_then_ret ?_
    refine QH_ret rfl (RV.cell rfl (load_boxA ag_50 hS hs7 sg0_6) (RV.tmp rfl RV.nil)) rfl ?_
    obtain rfl := Option.some.inj H
    have hS := hS.nilRow 66 4
    replace hS := hS.cut 1
    exact ⟨none, 0, rfl, ⟨Nat.le_refl _, Nat.zero_le _⟩, hS⟩
  replace H := cond_f H hb
  refine wpC_skip ?_
  refine QH_seq_k hK92 ?_
  refine wpC_seq_k (fun K hK97 => ?_)
  refine wpC_draw 20 [17, 19] (fun i b => (i = 17 → False) ∧ (i = 19 → b ≠ b59)) ⟨by kernel_rfl, by kernel_rfl⟩ hS (fun w hS hB => ?_)
  refine wpR_batch [true, true, true, true, true, true, true, true, true, true, true, true, true, true, true, true] (by decide +kernel) (by repeat (first | exact PF.body | exact PF.round | apply PF.then | apply PF.inBlock | apply PF.jump)) ?_
  refine LtK.put rfl rfl rfl (yv_fieldAddr fo_50_4 rfl) ?_
  refine LtK.put rfl rfl rfl (yv_load_box sc_48 rfl (RW.below _) hS hs3 trivial sg5_1) ?_
  refine LtK.put rfl rfl rfl (yv_move rfl) ?_
  obtain ⟨e98, hi100, H⟩ := bind_some H
  obtain ⟨j99, hi100a, hi100b, hi100c⟩ := idx_some hi100
  refine LtK.put rfl rfl rfl (yx_idx el_90 rfl rfl hi100a hi100c (Rd.el (hS.row_rd hs0) he_enI hi100b)) ?_
  refine LtK.put rfl rfl rfl (yx_ld0 sc_3 rfl (RW.below _) (Rd.el (hS.row_rd hs0) he_enI hi100b) rfl) ?_
  refine LtK.put rfl rfl rfl (yv_move rfl) ?_
  obtain ⟨e101, hi103, H⟩ := bind_some H
  obtain ⟨j102, hi103a, hi103b, hi103c⟩ := idx_some hi103
  refine LtK.put rfl rfl rfl (yx_idx el_90 rfl rfl hi103a hi103c (Rd.el (hS.row_rd hs0) he_enI hi103b)) ?_
  refine LtK.put rfl rfl rfl (yx_ld0 sc_3 rfl (RW.below _) (Rd.el (hS.row_rd hs0) he_enI hi103b) rfl) ?_
  refine LtK.put rfl rfl rfl (yv_move rfl) ?_
  obtain ⟨e104, hi106, H⟩ := bind_some H
  obtain ⟨j105, hi106a, hi106b, hi106c⟩ := idx_some hi106
  refine LtK.put rfl rfl rfl (yx_idx el_90 rfl rfl hi106a hi106c (Rd.el (hS.row_rd hs0) he_enI hi106b)) ?_
  refine LtK.put rfl rfl rfl (yx_ld0 sc_3 rfl (RW.below _) (Rd.el (hS.row_rd hs0) he_enI hi106b) rfl) ?_
  refine LtK.put rfl rfl rfl (yv_move rfl) ?_
  obtain ⟨e107, hi109, H⟩ := bind_some H
  obtain ⟨j108, hi109a, hi109b, hi109c⟩ := idx_some hi109
  refine LtK.put rfl rfl rfl (yx_idx el_90 rfl rfl hi109a hi109c (Rd.el (hS.row_rd hs0) he_enI hi109b)) ?_
  refine LtK.put rfl rfl rfl (yx_ld0 sc_3 rfl (RW.below _) (Rd.el (hS.row_rd hs0) he_enI hi109b) rfl) ?_
  refine LtK.put rfl rfl rfl (yx_sub rfl rfl) ?_
  refine LtK.put rfl rfl rfl (yv_build (cells := [.int .i64 e98, .int .i64 e101, .int .i64 e104, .int .i64 (IntKind.wrap .i64 (e107 - 1))]) rfl (by kernel_rfl)) ?_
  refine LtK.nil ?_
  refine wpR_call [false, false, false, false, false, false, false, false, false, false, false, false, false, false, false, false, true] 16 ⟨by decide, by kernel_rfl, by kernel_rfl⟩ rfl rfl ?_
  try dsimp only [pickL]
  refine wpS_sliceM (ps := [(0, .tmp 92)]) [.int .i64 e98, .int .i64 e101, .int .i64 e104, .int .i64 (IntKind.wrap .i64 (e107 - 1))] el_48 zc_66 rfl rfl rfl rfl rfl (by kernel_rfl) hS (fun b110 w hS hB => ?_)
  refine wpS_nil ?_
  refine QH_step hB ?_
  refine wpR_seal [false, false, false, false, false, false, false, false, false, false, false, false, false, false, false, false, false, true] 17 ⟨by decide, by kernel_rfl, by kernel_rfl⟩ rfl rfl ?_
  try dsimp only [pickL]
  obtain ⟨l112, hf113, H⟩ := bind_some H
  refine wpX_append2 (ys := ([(⟨e98, e101, e104, (IntKind.wrap .i64 (e107 - 1))⟩ : Sg)] : List Sg)) he_enSg oc_enSg em_48 (by decide) rfl rfl rfl rfl hS (fun _ => ps3) (hS.box_rd hs0) hf113 (fun A114 c115 w k116 hS hB => ?_)
  refine wpS_nil ?_
  refine QH_stepG (hB.sub (fun _ _ h => by simp at h)) ?_
  refine wpR_batch [false, false, false, false, false, false, false, false, false, false, false, false, false, false, false, false, false, false, true] (by decide +kernel) (by repeat (first | exact PF.body | exact PF.round | apply PF.then | apply PF.inBlock | apply PF.jump)) ?_
  refine LtK.put rfl rfl rfl (yv_fieldAddr fo_50_4 rfl) ?_
  refine LtK.nil ?_
  refine wpR_seal [false, false, false, false, false, false, false, false, false, false, false, false, false, false, false, false, false, false, false, true] 19 ⟨by decide, by kernel_rfl, by kernel_rfl⟩ rfl rfl ?_
  try dsimp only [pickL]
  refine wpS_store rfl rfl rfl CellsOf.slice hS ps4 st5_1 (by kernel_rfl) rfl (fun w hS hB => ?_)
  refine wpS_nil ?_
  refine QH_stepG (hB.sub (fun _ _ h => by simpa using h)) ?_
  refine wpR_end (by kernel_rfl) ?_
  refine QH_seq_k hK97 ?_
  refine wpC_region ?_
  refine wpS_quick 2 rfl ?_
  refine wpS_nil ?_
  refine QH_block_normal ?_
  refine QH_seq_k hK80 ?_
  refine wpC_region ?_
  refine wpS_quick 1 rfl ?_
  refine wpS_put rfl rfl rfl (yx_add rfl rfl) ?_
  refine wpS_quick 1 rfl ?_
  refine wpS_nil ?_
  replace hS := hS.front 8 rfl
  replace hS := hS.front 8 rfl
  replace hS := hS.front 4 rfl
  replace hS := hS.front 7 rfl
  replace hS := hS.front 7 rfl
  replace hS := hS.front 7 rfl
  replace hS := hS.cut 6
  exact QH_again (n, v63, r82.2.1, A88, c89, (IntKind.wrap .i64 (v68 + 1)), l112, A114, c115) (by repeat (first | exact Sub.nil | refine Sub.cons rfl ?_)) ⟨hS, k90, k116, H⟩ (Nat.lt_succ_self _)
theorem c_ref11_Open (x0 : Mf) (A0_ : Option Addr) (c0_ : Nat) (w0 : World) (s0_ : SlI w0 enSg A0_ c0_ x0.segs) {r : Int × Bool} (H : m_ref11_Open x0 = some r) : Calls Tryd.prog 44 #[.agg #[.int .i64 x0.next, .int .i64 x0.term, .int .i64 x0.vote, .int .i64 x0.snap.seq, .int .i64 x0.snap.fmt, .slice A0_ x0.segs.length c0_]] w0 fun e w' => e = .returned (.tuple #[.int .i64 r.1, .bool r.2]) ∧ St0 All w0 w' [] := by
  unfold m_ref11_Open at H
  refine gw_enter1 Tryd.func44 rfl Tryd.ntmps44 rfl ?_
  have hS := St0.start All w0
  refine wpC_seq_k (fun K hK1 => ?_)
  refine wpC_region ?_
  refine wpS_box rfl rfl rfl CellsOf.agg hS (fun b2 w hS hB => ?_)
  refine wpS_quick 2 rfl ?_
  refine wpS_nil ?_
  refine QH_seq_k hK1 ?_
  refine wpC_seq_k (fun K hK4 => ?_)
  refine wpC_region ?_
  refine wpS_put rfl rfl rfl (yv_fieldAddr fo_50_4 rfl) ?_
  refine wpS_put rfl rfl rfl (yv_load_box sc_48 rfl (RW.here _) hS hs0 trivial sg5_1) ?_
  refine wpS_put rfl rfl rfl (yv_len el_48 rfl) ?_
  refine wpS_put rfl rfl rfl (yx_sub rfl rfl) ?_
  refine wpS_quick 1 rfl ?_
  refine wpS_nil ?_
  refine QH_seq_k hK4 ?_
  refine wpC_seq_k (fun K hK5 => ?_)
  refine wpC_seq_k (fun K hK6 => ?_)
  refine wpC_region ?_
  refine wpS_quick 1 rfl ?_
  refine wpS_put rfl rfl rfl (yv_lss rfl rfl) ?_
  refine wpS_quick 1 rfl ?_
  refine wpS_case 11 rfl (fun hb => ?_) (fun hb => ?_)
  · replace H := cond_t H hb
    refine wpS_quick 8 rfl ?_
    refine wpS_nil ?_
    refine QH_seq_k hK6 ?_
    refine wpC_cond_t rfl rfl ?_
    refine wpC_seq_k (fun K hK8 => ?_)
    refine wpC_region ?_
    refine wpS_quick 2 rfl ?_
    refine wpS_nil ?_
    refine QH_seq_k hK8 ?_
    refine wpC_ret ?_
    refine QH_then_ret ?_
    refine QH_ret rfl (RV.tmp rfl (RV.tmp rfl RV.nil)) rfl ?_
    obtain rfl := Option.some.inj H
    replace hS := hS.cut 0
    exact ⟨rfl, hS⟩
  replace H := cond_f H hb
  refine wpS_put rfl rfl rfl (yv_fieldAddr fo_50_4 rfl) ?_
  refine wpS_put rfl rfl rfl (yv_load_box sc_48 rfl (RW.here _) hS hs0 trivial sg5_1) ?_
  refine wpS_quick 1 rfl ?_
  obtain ⟨e10, hi12, H⟩ := bind_some H
  obtain ⟨j11, hi12a, hi12b, hi12c⟩ := idx_some hi12
  refine wpS_put rfl rfl rfl (yx_idx el_48 rfl rfl hi12a hi12c (Rd.el (hS.rd0 s0_.rd) he_enSg hi12b)) ?_
  refine wpS_put rfl rfl rfl (yx_fieldAddr fo_66_3 rfl (Rd.el (hS.rd0 s0_.rd) he_enSg hi12b)) ?_
  refine wpS_put rfl rfl rfl (yx_ld sc_3 rfl (RW.here _) (Rd.el (hS.rd0 s0_.rd) he_enSg hi12b) rfl) ?_
  refine wpS_put rfl rfl rfl (yv_neq rfl rfl) ?_
  refine wpS_quick 1 rfl ?_
  refine wpS_nil ?_
  refine QH_seq_k hK6 ?_
  refine wpC_cond rfl (fun hb => ?_) (fun hb => ?_)
  · replace H := cond_t H hb
    refine wpC_seq_k (fun K hK14 => ?_)
    refine wpC_region ?_
    refine wpS_quick 2 rfl ?_
    refine wpS_nil ?_
    refine QH_seq_k hK14 ?_
    refine wpC_ret ?_
    refine QH_then_ret ?_
    refine QH_ret rfl (RV.tmp rfl (RV.tmp rfl RV.nil)) rfl ?_
    obtain rfl := Option.some.inj H
    replace hS := hS.cut 0
    exact ⟨rfl, hS⟩
  replace H := cond_f H hb
  refine wpC_skip ?_
  refine QH_seq_k hK5 ?_
  refine wpC_seq_k (fun K hK16 => ?_)
  refine wpC_region ?_
  refine wpS_quick 3 rfl ?_
  refine wpS_nil ?_
  refine QH_seq_k hK16 ?_
  refine wpC_ret ?_
  refine QH_ret rfl (RV.tmp rfl (RV.tmp rfl RV.nil)) rfl ?_
  obtain rfl := Option.some.inj H
  replace hS := hS.cut 0
  exact ⟨rfl, hS⟩
theorem c_ref11_Keep (x0 : Mf) (A0_ : Option Addr) (c0_ : Nat) (w0 : World) (s0_ : SlI w0 enSg A0_ c0_ x0.segs) {r : List Id} (H : m_ref11_Keep x0 = some r) : Calls Tryd.prog 46 #[.agg #[.int .i64 x0.next, .int .i64 x0.term, .int .i64 x0.vote, .int .i64 x0.snap.seq, .int .i64 x0.snap.fmt, .slice A0_ x0.segs.length c0_]] w0 fun e w' => ∃ (A0 : Option Addr) (c0 : Nat), e = .returned (.slice A0 r.length c0) ∧ (r.length ≤ c0 ∧ c0 ≤ maxLen) ∧ St0 All w0 w' [.row (.slice A0 r.length c0) 62 3 r.length (encs enId r)] := by
  unfold m_ref11_Keep at H
  refine gw_enter1 Tryd.func46 rfl Tryd.ntmps46 rfl ?_
  have hS := St0.start All w0
  refine wpC_seq_k (fun K hK1 => ?_)
  refine wpC_region ?_
  refine wpS_box rfl rfl rfl CellsOf.agg hS (fun b2 w hS hB => ?_)
  refine wpS_quick 1 rfl ?_
  refine wpS_nil ?_
  refine QH_seq_k hK1 ?_
  refine wpC_seq_k (fun K hK4 => ?_)
  refine wpC_region ?_
  refine wpS_put rfl rfl rfl (yv_build (cells := [.int .u8 1, .int .i64 0, .int .i64 0]) rfl (by kernel_rfl)) ?_
  refine wpS_sliceM (ps := [(0, .tmp 5)]) [.int .u8 1, .int .i64 0, .int .i64 0] el_58 zc_62 rfl rfl rfl rfl rfl (by kernel_rfl) hS (fun b5 w hS hB => ?_)
  refine wpS_quick 1 rfl ?_
  refine wpS_nil ?_
  refine QH_seq_k hK4 ?_
  refine wpC_seq_k (fun K hK7 => ?_)
  refine wpC_seq_k (fun K hK8 => ?_)
  refine wpC_region ?_
  refine wpS_put rfl rfl rfl (yv_fieldAddr fo_50_3 rfl) ?_
  refine wpS_put rfl rfl rfl (yv_fieldAddr fo_47_0 rfl) ?_
  refine wpS_put rfl rfl rfl (yv_load_box sc_3 rfl (RW.here _) hS hs1 trivial sg3_1) ?_
  refine wpS_put rfl rfl rfl (yv_neq rfl rfl) ?_
  refine wpS_nil ?_
  refine QH_seq_k hK8 ?_
  refine wpC_cond rfl (fun hb => ?_) (fun hb => ?_)
  rotate_left
  · replace H := cond_f H hb
    refine wpC_skip ?_
    refine QH_seq_k hK7 ?_
    refine wpC_seq_k (fun K hK44 => ?_)
    refine wpC_seq_k (fun K hK45 => ?_)
    refine wpC_region ?_
    refine wpS_quick 1 rfl ?_
    refine wpS_nil ?_
    refine QH_seq_k hK45 ?_
    refine wpC_block ?_
    replace hS := hS.front 0 rfl
    replace hS := hS.weak (Weak.boxRow (cs := encs enId ([(⟨1, 0, 0⟩ : Id)] : List Id)) (n := 1) (size := 3) rfl (by decide))
    refine wpC_loop (X := Nat × List Id × Option Addr × Nat × Int) (fun x => (1, .pointer (some ⟨b2, 0, none⟩)) :: (2, .slice none 0 0) :: (3, .slice x.2.2.1 x.2.1.length x.2.2.2.1) :: (4, .int .i64 x.2.2.2.2) :: []) (fun x w => St0 All w0 w (.row (.slice x.2.2.1 x.2.1.length x.2.2.2.1) 62 3 x.2.1.length (encs enId x.2.1) :: .box b2 [.int .i64 x0.next, .int .i64 x0.term, .int .i64 x0.vote, .int .i64 x0.snap.seq, .int .i64 x0.snap.fmt, .slice A0_ x0.segs.length c0_] 50 :: []) ∧ (x.2.1.length ≤ x.2.2.2.1 ∧ x.2.2.2.1 ≤ maxLen) ∧ m_ref11_Keep_l2 x0 x.1 x.2.1 x.2.2.2.2 = some r) (fun x => x.1) (fuelN, ([(⟨1, 0, 0⟩ : Id)] : List Id), (some ⟨b5, 0, none⟩), 1, 0) (by repeat (first | exact Sub.nil | refine Sub.cons rfl ?_)) ⟨hS, (show 1 ≤ 1 ∧ 1 ≤ maxLen from ⟨Nat.le_refl 1, by decide⟩), H⟩ ?_
    rintro ⟨n, v46, A47, c48, v50⟩ w ⟨hS, k49, H⟩
    dsimp only at hS k49 H ⊢
    obtain _ | n := n
    · have H0 : none = some r := H
      cases H0
    rw [m_ref11_Keep_l2] at H
    refine wpC_seq_k (fun K hK51 => ?_)
    refine wpC_seq_k (fun K hK52 => ?_)
    refine wpC_region ?_
    refine wpS_quick 1 rfl ?_
    refine wpS_put rfl rfl rfl (yv_fieldAddr fo_50_4 rfl) ?_
    refine wpS_put rfl rfl rfl (yv_load_box sc_48 rfl (RW.here _) hS hs1 trivial sg5_1) ?_
    refine wpS_put rfl rfl rfl (yv_len el_48 rfl) ?_
    refine wpS_put rfl rfl rfl (yv_lss rfl rfl) ?_
    refine wpS_nil ?_
    refine QH_seq_k hK52 ?_
    refine wpC_cond rfl (fun hb => ?_) (fun hb => ?_)
    rotate_left
    · replace H := cond_f H hb
      refine wpC_exit ?_
      refine QH_then_exit ?_
      refine QH_then_exit ?_
      refine QH_block_hit ?_
      refine QH_seq_k hK44 ?_
      refine wpC_seq_k (fun K hK69 => ?_)
      refine wpC_region ?_
      refine wpS_quick 2 rfl ?_
      refine wpS_nil ?_
      refine QH_seq_k hK69 ?_
      refine wpC_ret ?_
      refine QH_ret rfl (RV.tmp rfl RV.nil) rfl ?_
      obtain rfl := Option.some.inj H
      have hS := hS.front 0 rfl
      replace hS := hS.cut 1
      exact ⟨A47, c48, rfl, k49, hS⟩
    replace H := cond_t H hb
    refine wpC_skip ?_
    refine QH_seq_k hK51 ?_
    refine wpC_seq_k (fun K hK54 => ?_)
    refine wpC_block ?_
    refine wpC_draw 17 [15] (fun i b => (i = 15 → False)) ⟨by kernel_rfl, by kernel_rfl⟩ hS (fun w hS hB => ?_)
    refine wpR_batch [true, true, true, true, true, true, true, true, true, true, true, true, true, true] (by decide +kernel) (by repeat (first | exact PF.body | exact PF.round | apply PF.then | apply PF.inBlock | apply PF.jump)) ?_
    refine LtK.put rfl rfl rfl (yv_move rfl) ?_
    refine LtK.put rfl rfl rfl (yv_fieldAddr fo_50_4 rfl) ?_
    refine LtK.put rfl rfl rfl (yv_load_box sc_48 rfl (RW.below _) hS hs1 trivial sg5_1) ?_
    refine LtK.put rfl rfl rfl (yv_move rfl) ?_
    obtain ⟨e55, hi57, H⟩ := bind_some H
    obtain ⟨j56, hi57a, hi57b, hi57c⟩ := idx_some hi57
    refine LtK.put rfl rfl rfl (yx_idx el_48 rfl rfl hi57a hi57c (Rd.el (hS.rd0 s0_.rd) he_enSg hi57b)) ?_
    refine LtK.put rfl rfl rfl (yx_fieldAddr fo_66_0 rfl (Rd.el (hS.rd0 s0_.rd) he_enSg hi57b)) ?_
    refine LtK.put rfl rfl rfl (yx_ld0 sc_3 rfl (RW.below _) (Rd.el (hS.rd0 s0_.rd) he_enSg hi57b) rfl) ?_
    refine LtK.put rfl rfl rfl (yv_fieldAddr fo_50_4 rfl) ?_
    refine LtK.put rfl rfl rfl (yv_load_box sc_48 rfl (RW.below _) hS hs1 trivial sg5_1) ?_
    refine LtK.put rfl rfl rfl (yv_move rfl) ?_
    obtain ⟨e58, hi60, H⟩ := bind_some H
    obtain ⟨j59, hi60a, hi60b, hi60c⟩ := idx_some hi60
    refine LtK.put rfl rfl rfl (yx_idx el_48 rfl rfl hi60a hi60c (Rd.el (hS.rd0 s0_.rd) he_enSg hi60b)) ?_
    refine LtK.put rfl rfl rfl (yx_fieldAddr fo_66_1 rfl (Rd.el (hS.rd0 s0_.rd) he_enSg hi60b)) ?_
    refine LtK.put rfl rfl rfl (yx_ld sc_3 rfl (RW.below _) (Rd.el (hS.rd0 s0_.rd) he_enSg hi60b) rfl) ?_
    refine LtK.put rfl rfl rfl (yv_build (cells := [.int .u8 3, .int .i64 e55.seq, .int .i64 e58.fmt]) rfl (by kernel_rfl)) ?_
    refine LtK.nil ?_
    refine wpR_call [false, false, false, false, false, false, false, false, false, false, false, false, false, false, true] 14 ⟨by decide, by kernel_rfl, by kernel_rfl⟩ rfl rfl ?_
    try dsimp only [pickL]
    refine wpS_sliceM (ps := [(0, .tmp 41)]) [.int .u8 3, .int .i64 e55.seq, .int .i64 e58.fmt] el_58 zc_62 rfl rfl rfl rfl rfl (by kernel_rfl) hS (fun b61 w hS hB => ?_)
    refine wpS_nil ?_
    refine QH_step hB ?_
    refine wpR_seal [false, false, false, false, false, false, false, false, false, false, false, false, false, false, false, true] 15 ⟨by decide, by kernel_rfl, by kernel_rfl⟩ rfl rfl ?_
    try dsimp only [pickL]
    obtain ⟨l63, hf64, H⟩ := bind_some H
    refine wpX_append2 (ys := ([(⟨3, e55.seq, e58.fmt⟩ : Id)] : List Id)) he_enId oc_enId em_58 (by decide) rfl rfl rfl rfl hS (fun _ => ps1) (hS.box_rd hs0) hf64 (fun A65 c66 w k67 hS hB => ?_)
    refine wpS_nil ?_
    refine QH_stepG (hB.sub (fun _ _ h => by simp at h)) ?_
    refine wpR_batch [false, false, false, false, false, false, false, false, false, false, false, false, false, false, false, false, true] (by decide +kernel) (by repeat (first | exact PF.body | exact PF.round | apply PF.then | apply PF.inBlock | apply PF.jump)) ?_
    refine LtK.put rfl rfl rfl (yv_assign rfl) ?_
    refine LtK.nil ?_
    refine wpR_end (by kernel_rfl) ?_
    refine QH_block_normal ?_
    refine QH_seq_k hK54 ?_
    refine wpC_region ?_
    refine wpS_quick 1 rfl ?_
    refine wpS_put rfl rfl rfl (yx_add rfl rfl) ?_
    refine wpS_quick 1 rfl ?_
    refine wpS_nil ?_
    exact QH_again (n, l63, A65, c66, (IntKind.wrap .i64 (v50 + 1))) (by repeat (first | exact Sub.nil | refine Sub.cons rfl ?_)) ⟨(hS.sub (List.Sublist.cons _ (List.Sublist.cons_cons _ (List.Sublist.cons_cons _ List.Sublist.slnil)))), k67, H⟩ (Nat.lt_succ_self _)
  replace H := cond_t H hb
  refine wpC_region ?_
  refine wpS_quick 1 rfl ?_
  refine wpS_put rfl rfl rfl (yv_fieldAddr fo_50_3 rfl) ?_
  refine wpS_put rfl rfl rfl (yv_fieldAddr fo_47_0 rfl) ?_
  refine wpS_put rfl rfl rfl (yv_load_box sc_3 rfl (RW.here _) hS hs1 trivial sg3_1) ?_
  refine wpS_put rfl rfl rfl (yv_fieldAddr fo_50_3 rfl) ?_
  refine wpS_put rfl rfl rfl (yv_fieldAddr fo_47_1 rfl) ?_
  refine wpS_put rfl rfl rfl (yv_load_box sc_3 rfl (RW.here _) hS hs1 trivial sg4_1) ?_
  refine wpS_put rfl rfl rfl (yv_build (cells := [.int .u8 4, .int .i64 x0.snap.seq, .int .i64 x0.snap.fmt]) rfl (by kernel_rfl)) ?_
  refine wpS_sliceM (ps := [(0, .tmp 18)]) [.int .u8 4, .int .i64 x0.snap.seq, .int .i64 x0.snap.fmt] el_58 zc_62 rfl rfl rfl rfl rfl (by kernel_rfl) hS (fun b10 w hS hB => ?_)
  replace hS := hS.front 1 rfl
  replace hS := hS.weak (Weak.boxRow (cs := encs enId ([(⟨1, 0, 0⟩ : Id)] : List Id)) (n := 1) (size := 3) rfl (by decide))
  obtain ⟨l12, hf13, H⟩ := bind_some H
  refine wpX_append (ys := ([(⟨4, x0.snap.seq, x0.snap.fmt⟩ : Id)] : List Id)) he_enId oc_enId em_58 (by decide) rfl rfl rfl rfl hS (fun _ => ps0) (hS.box_rd hs1) hf13 (fun A14 c15 w k16 hS => ?_)
  refine wpS_quick 1 rfl ?_
  refine wpS_nil ?_
  refine QH_seq_k hK7 ?_
  refine wpC_seq_k (fun K hK17 => ?_)
  refine wpC_seq_k (fun K hK18 => ?_)
  refine wpC_region ?_
  refine wpS_quick 1 rfl ?_
  refine wpS_nil ?_
  refine QH_seq_k hK18 ?_
  refine wpC_block ?_
  refine wpC_loop (X := Nat × List Id × Option Addr × Nat × Int) (fun x => (1, .pointer (some ⟨b2, 0, none⟩)) :: (2, .slice none 0 0) :: (3, .slice x.2.2.1 x.2.1.length x.2.2.2.1) :: (4, .int .i64 x.2.2.2.2) :: []) (fun x w => St0 All w0 w (.row (.slice x.2.2.1 x.2.1.length x.2.2.2.1) 62 3 x.2.1.length (encs enId x.2.1) :: .box b10 [.int .u8 4, .int .i64 x0.snap.seq, .int .i64 x0.snap.fmt] 62 :: .box b2 [.int .i64 x0.next, .int .i64 x0.term, .int .i64 x0.vote, .int .i64 x0.snap.seq, .int .i64 x0.snap.fmt, .slice A0_ x0.segs.length c0_] 50 :: []) ∧ (x.2.1.length ≤ x.2.2.2.1 ∧ x.2.2.2.1 ≤ maxLen) ∧ m_ref11_Keep_l1 x0 x.1 x.2.1 x.2.2.2.2 = some r) (fun x => x.1) (fuelN, l12, A14, c15, 0) (by repeat (first | exact Sub.nil | refine Sub.cons rfl ?_)) ⟨hS, k16, H⟩ ?_
  rintro ⟨n, v19, A20, c21, v23⟩ w ⟨hS, k22, H⟩
  dsimp only at hS k22 H ⊢
  obtain _ | n := n
  · have H0 : none = some r := H
    cases H0
  rw [m_ref11_Keep_l1] at H
  refine wpC_seq_k (fun K hK24 => ?_)
  refine wpC_seq_k (fun K hK25 => ?_)
  refine wpC_region ?_
  refine wpS_quick 1 rfl ?_
  refine wpS_put rfl rfl rfl (yv_fieldAddr fo_50_4 rfl) ?_
  refine wpS_put rfl rfl rfl (yv_load_box sc_48 rfl (RW.here _) hS hs2 trivial sg5_1) ?_
  refine wpS_put rfl rfl rfl (yv_len el_48 rfl) ?_
  refine wpS_put rfl rfl rfl (yv_lss rfl rfl) ?_
  refine wpS_nil ?_
  refine QH_seq_k hK25 ?_
  refine wpC_cond rfl (fun hb => ?_) (fun hb => ?_)
  rotate_left
  · replace H := cond_f H hb
    refine wpC_exit ?_
    refine QH_then_exit ?_
    refine QH_then_exit ?_
    refine QH_block_hit ?_
    refine QH_seq_k hK17 ?_
    refine wpC_seq_k (fun K hK42 => ?_)
    refine wpC_region ?_
    refine wpS_quick 2 rfl ?_
    refine wpS_nil ?_
    refine QH_seq_k hK42 ?_
    refine wpC_ret ?_
    refine QH_ret rfl (RV.tmp rfl RV.nil) rfl ?_
    obtain rfl := Option.some.inj H
    have hS := hS.front 0 rfl
    replace hS := hS.cut 1
    exact ⟨A20, c21, rfl, k22, hS⟩
  replace H := cond_t H hb
  refine wpC_skip ?_
  refine QH_seq_k hK24 ?_
  refine wpC_seq_k (fun K hK27 => ?_)
  refine wpC_block ?_
  refine wpC_draw 17 [15] (fun i b => (i = 15 → False)) ⟨by kernel_rfl, by kernel_rfl⟩ hS (fun w hS hB => ?_)
  refine wpR_batch [true, true, true, true, true, true, true, true, true, true, true, true, true, true] (by decide +kernel) (by repeat (first | exact PF.body | exact PF.round | apply PF.then | apply PF.inBlock | apply PF.jump)) ?_
  refine LtK.put rfl rfl rfl (yv_move rfl) ?_
  refine LtK.put rfl rfl rfl (yv_fieldAddr fo_50_4 rfl) ?_
  refine LtK.put rfl rfl rfl (yv_load_box sc_48 rfl (RW.below _) hS hs2 trivial sg5_1) ?_
  refine LtK.put rfl rfl rfl (yv_move rfl) ?_
  obtain ⟨e28, hi30, H⟩ := bind_some H
  obtain ⟨j29, hi30a, hi30b, hi30c⟩ := idx_some hi30
  refine LtK.put rfl rfl rfl (yx_idx el_48 rfl rfl hi30a hi30c (Rd.el (hS.rd0 s0_.rd) he_enSg hi30b)) ?_
  refine LtK.put rfl rfl rfl (yx_fieldAddr fo_66_0 rfl (Rd.el (hS.rd0 s0_.rd) he_enSg hi30b)) ?_
  refine LtK.put rfl rfl rfl (yx_ld0 sc_3 rfl (RW.below _) (Rd.el (hS.rd0 s0_.rd) he_enSg hi30b) rfl) ?_
  refine LtK.put rfl rfl rfl (yv_fieldAddr fo_50_4 rfl) ?_
  refine LtK.put rfl rfl rfl (yv_load_box sc_48 rfl (RW.below _) hS hs2 trivial sg5_1) ?_
  refine LtK.put rfl rfl rfl (yv_move rfl) ?_
  obtain ⟨e31, hi33, H⟩ := bind_some H
  obtain ⟨j32, hi33a, hi33b, hi33c⟩ := idx_some hi33
  refine LtK.put rfl rfl rfl (yx_idx el_48 rfl rfl hi33a hi33c (Rd.el (hS.rd0 s0_.rd) he_enSg hi33b)) ?_
  refine LtK.put rfl rfl rfl (yx_fieldAddr fo_66_1 rfl (Rd.el (hS.rd0 s0_.rd) he_enSg hi33b)) ?_
  refine LtK.put rfl rfl rfl (yx_ld sc_3 rfl (RW.below _) (Rd.el (hS.rd0 s0_.rd) he_enSg hi33b) rfl) ?_
  refine LtK.put rfl rfl rfl (yv_build (cells := [.int .u8 3, .int .i64 e28.seq, .int .i64 e31.fmt]) rfl (by kernel_rfl)) ?_
  refine LtK.nil ?_
  refine wpR_call [false, false, false, false, false, false, false, false, false, false, false, false, false, false, true] 14 ⟨by decide, by kernel_rfl, by kernel_rfl⟩ rfl rfl ?_
  try dsimp only [pickL]
  refine wpS_sliceM (ps := [(0, .tmp 41)]) [.int .u8 3, .int .i64 e28.seq, .int .i64 e31.fmt] el_58 zc_62 rfl rfl rfl rfl rfl (by kernel_rfl) hS (fun b34 w hS hB => ?_)
  refine wpS_nil ?_
  refine QH_step hB ?_
  refine wpR_seal [false, false, false, false, false, false, false, false, false, false, false, false, false, false, false, true] 15 ⟨by decide, by kernel_rfl, by kernel_rfl⟩ rfl rfl ?_
  try dsimp only [pickL]
  obtain ⟨l36, hf37, H⟩ := bind_some H
  refine wpX_append2 (ys := ([(⟨3, e28.seq, e31.fmt⟩ : Id)] : List Id)) he_enId oc_enId em_58 (by decide) rfl rfl rfl rfl hS (fun _ => ps1) (hS.box_rd hs0) hf37 (fun A38 c39 w k40 hS hB => ?_)
  refine wpS_nil ?_
  refine QH_stepG (hB.sub (fun _ _ h => by simp at h)) ?_
  refine wpR_batch [false, false, false, false, false, false, false, false, false, false, false, false, false, false, false, false, true] (by decide +kernel) (by repeat (first | exact PF.body | exact PF.round | apply PF.then | apply PF.inBlock | apply PF.jump)) ?_
  refine LtK.put rfl rfl rfl (yv_assign rfl) ?_
  refine LtK.nil ?_
  refine wpR_end (by kernel_rfl) ?_
  refine QH_block_normal ?_
  refine QH_seq_k hK27 ?_
  refine wpC_region ?_
  refine wpS_quick 1 rfl ?_
  refine wpS_put rfl rfl rfl (yx_add rfl rfl) ?_
  refine wpS_quick 1 rfl ?_
  refine wpS_nil ?_
  exact QH_again (n, l36, A38, c39, (IntKind.wrap .i64 (v23 + 1))) (by repeat (first | exact Sub.nil | refine Sub.cons rfl ?_)) ⟨(hS.sub (List.Sublist.cons _ (List.Sublist.cons_cons _ (List.Sublist.cons_cons _ (List.Sublist.cons_cons _ List.Sublist.slnil))))), k40, H⟩ (Nat.lt_succ_self _)
theorem c_ref05_Idents (x0 : List Id) (x1 : List Id) (A0_ : Option Addr) (c0_ : Nat) (A1_ : Option Addr) (c1_ : Nat) (w0 : World) (s0_ : SlI w0 enId A0_ c0_ x0) (s1_ : SlI w0 enId A1_ c1_ x1) {r : Bool} (H : m_ref05_Idents x0 x1 = some r) : Calls Tryd.prog 45 #[.slice A0_ x0.length c0_, .slice A1_ x1.length c1_] w0 fun e w' => e = .returned (.bool r) ∧ St0 All w0 w' [] := by
  unfold m_ref05_Idents at H
  refine gw_enter2 Tryd.func45 rfl Tryd.ntmps45 rfl ?_
  have hS := St0.start All w0
  refine wpC_seq_k (fun K hK1 => ?_)
  refine wpC_region ?_
  refine wpS_quick 1 rfl ?_
  refine wpS_nil ?_
  refine QH_seq_k hK1 ?_
  refine wpC_seq_k (fun K hK2 => ?_)
  refine wpC_seq_k (fun K hK3 => ?_)
  refine wpC_region ?_
  refine wpS_quick 1 rfl ?_
  refine wpS_put rfl rfl rfl (yv_len el_58 rfl) ?_
  refine wpS_quick 1 rfl ?_
  refine wpS_put rfl rfl rfl (yv_len el_58 rfl) ?_
  refine wpS_put rfl rfl rfl (yv_neq rfl rfl) ?_
  refine wpS_nil ?_
  refine QH_seq_k hK3 ?_
  refine wpC_cond rfl (fun hb => ?_) (fun hb => ?_)
  · replace H := cond_t H hb
    refine wpC_seq_k (fun K hK5 => ?_)
    refine wpC_region ?_
    refine wpS_quick 1 rfl ?_
    refine wpS_nil ?_
    refine QH_seq_k hK5 ?_
    refine wpC_ret ?_
    refine QH_then_ret ?_
    refine QH_ret rfl (RV.tmp rfl RV.nil) rfl ?_
    obtain rfl := Option.some.inj H
    replace hS := hS.cut 0
    exact ⟨rfl, hS⟩
  replace H := cond_f H hb
  refine wpC_skip ?_
  refine QH_seq_k hK2 ?_
  refine wpC_seq_k (fun K hK7 => ?_)
  refine wpC_seq_k (fun K hK8 => ?_)
  refine wpC_region ?_
  refine wpS_quick 1 rfl ?_
  refine wpS_nil ?_
  refine QH_seq_k hK8 ?_
  refine wpC_block ?_
  refine wpC_loop (X := Nat × Bool × Int) (fun x => (0, .slice A0_ x0.length c0_) :: (1, .slice A1_ x1.length c1_) :: (4, .bool x.2.1) :: (5, .int .i64 x.2.2) :: []) (fun x w => St0 All w0 w ([]) ∧ m_ref05_Idents_l1 x0 x1 x.1 x.2.1 x.2.2 = some r) (fun x => x.1) (fuelN, false, 0) (by repeat (first | exact Sub.nil | refine Sub.cons rfl ?_)) ⟨hS, H⟩ ?_
  rintro ⟨n, v9, v10⟩ w ⟨hS, H⟩
  dsimp only at hS H ⊢
  obtain _ | n := n
  · have H0 : none = some r := H
    cases H0
  rw [m_ref05_Idents_l1] at H
  refine wpC_seq_k (fun K hK11 => ?_)
  refine wpC_seq_k (fun K hK12 => ?_)
  refine wpC_region ?_
  refine wpS_quick 2 rfl ?_
  refine wpS_put rfl rfl rfl (yv_len el_58 rfl) ?_
  refine wpS_put rfl rfl rfl (yv_lss rfl rfl) ?_
  refine wpS_nil ?_
  refine QH_seq_k hK12 ?_
  refine wpC_cond rfl (fun hb => ?_) (fun hb => ?_)
  rotate_left
  · replace H := cond_f H hb
    refine wpC_exit ?_
    refine QH_then_exit ?_
    refine QH_then_exit ?_
    refine QH_block_hit ?_
    refine QH_seq_k hK7 ?_
    refine wpC_seq_k (fun K hK26 => ?_)
    refine wpC_region ?_
    refine wpS_quick 1 rfl ?_
    refine wpS_nil ?_
    refine QH_seq_k hK26 ?_
    refine wpC_ret ?_
    refine QH_ret rfl (RV.tmp rfl RV.nil) rfl ?_
    obtain rfl := Option.some.inj H
    replace hS := hS.cut 0
    exact ⟨rfl, hS⟩
  replace H := cond_t H hb
  refine wpC_skip ?_
  refine QH_seq_k hK11 ?_
  refine wpC_seq_k (fun K hK14 => ?_)
  refine wpC_block ?_
  refine wpC_seq_k (fun K hK15 => ?_)
  refine wpC_draw 9 [] (fun _ _ => True) ⟨by kernel_rfl, by kernel_rfl⟩ hS (fun w hS hB => ?_)
  refine wpR_batch [true, true, true, true, true, true, true, true, true] (by decide +kernel) (by repeat (first | exact PF.body | exact PF.round | apply PF.then | apply PF.inBlock | apply PF.jump)) ?_
  refine LtK.put rfl rfl rfl (yv_move rfl) ?_
  refine LtK.put rfl rfl rfl (yv_move rfl) ?_
  obtain ⟨e16, hi18, H⟩ := bind_some H
  obtain ⟨j17, hi18a, hi18b, hi18c⟩ := idx_some hi18
  refine LtK.put rfl rfl rfl (yx_idx el_58 rfl rfl hi18a hi18c (Rd.el (hS.rd0 s0_.rd) he_enId hi18b)) ?_
  refine LtK.put rfl rfl rfl (yx_ldA0 ag_62 rfl (RW.below _) (Rd.el (hS.rd0 s0_.rd) he_enId hi18b) sg0_3) ?_
  refine LtK.put rfl rfl rfl (yv_move rfl) ?_
  refine LtK.put rfl rfl rfl (yv_move rfl) ?_
  obtain ⟨e19, hi21, H⟩ := bind_some H
  obtain ⟨j20, hi21a, hi21b, hi21c⟩ := idx_some hi21
  refine LtK.put rfl rfl rfl (yx_idx el_58 rfl rfl hi21a hi21c (Rd.el (hS.rd0 s1_.rd) he_enId hi21b)) ?_
  refine LtK.put rfl rfl rfl (yx_ldA0 ag_62 rfl (RW.below _) (Rd.el (hS.rd0 s1_.rd) he_enId hi21b) sg0_3) ?_
  refine LtK.put rfl rfl rfl (yv_neqS (by kernel_rfl) rfl rfl (eqT_62 _ _ _ _ _ _)) ?_
  refine LtK.nil ?_
  refine wpR_end (by kernel_rfl) ?_
  refine QH_seq_k hK15 ?_
  refine wpC_cond rfl (fun hb => ?_) (fun hb => ?_)
  rotate_left
  · replace H := cond_f H hb
    refine wpC_skip ?_
    refine QH_block_normal ?_
    refine QH_seq_k hK14 ?_
    refine wpC_region ?_
    refine wpS_quick 1 rfl ?_
    refine wpS_put rfl rfl rfl (yx_add rfl rfl) ?_
    refine wpS_quick 1 rfl ?_
    refine wpS_nil ?_
    exact QH_again (n, v9, (IntKind.wrap .i64 (v10 + 1))) (by repeat (first | exact Sub.nil | refine Sub.cons rfl ?_)) ⟨hS, H⟩ (Nat.lt_succ_self _)
  replace H := cond_t H hb
  refine wpC_seq_k (fun K hK23 => ?_)
  refine wpC_region ?_
  refine wpS_quick 1 rfl ?_
  refine wpS_nil ?_
  refine QH_seq_k hK23 ?_
  refine wpC_ret ?_
  refine QH_block_ret ?_
  refine QH_then_ret ?_
  refine QH_then_ret ?_
  refine QH_block_ret ?_
  refine QH_then_ret ?_
  refine QH_ret rfl (RV.tmp rfl RV.nil) rfl ?_
  obtain rfl := Option.some.inj H
  replace hS := hS.cut 0
  exact ⟨rfl, hS⟩
theorem c_ref11_Two (x0 : Mf) (A0_ : Option Addr) (c0_ : Nat) (w0 : World) (s0_ : SlI w0 enSg A0_ c0_ x0.segs) {r : Bool} (H : m_ref11_Two x0 = some r) : Calls Tryd.prog 47 #[.agg #[.int .i64 x0.next, .int .i64 x0.term, .int .i64 x0.vote, .int .i64 x0.snap.seq, .int .i64 x0.snap.fmt, .slice A0_ x0.segs.length c0_]] w0 fun e w' => e = .returned (.bool r) ∧ St0 All w0 w' [] := by
  unfold m_ref11_Two at H
  refine gw_enter1 Tryd.func47 rfl Tryd.ntmps47 rfl ?_
  have hS := St0.start All w0
  refine wpC_seq_k (fun K hK1 => ?_)
  refine wpC_region ?_
  refine wpS_box rfl rfl rfl CellsOf.agg hS (fun b2 w hS hB => ?_)
  refine wpS_quick 1 rfl ?_
  refine wpS_nil ?_
  refine QH_seq_k hK1 ?_
  refine wpC_seq_k (fun K hK4 => ?_)
  refine wpC_seq_k (fun K hK5 => ?_)
  refine wpC_region ?_
  refine wpS_put rfl rfl rfl (yv_fieldAddr fo_50_3 rfl) ?_
  refine wpS_put rfl rfl rfl (yv_fieldAddr fo_47_1 rfl) ?_
  refine wpS_put rfl rfl rfl (yv_load_box sc_3 rfl (RW.here _) hS hs0 trivial sg4_1) ?_
  refine wpS_put rfl rfl rfl (yv_eql rfl rfl) ?_
  refine wpS_nil ?_
  refine QH_seq_k hK5 ?_
  refine wpC_cond rfl (fun hb => ?_) (fun hb => ?_)
  · replace H := cond_t H hb
    refine wpC_seq_k (fun K hK7 => ?_)
    refine wpC_region ?_
    refine wpS_quick 1 rfl ?_
    refine wpS_nil ?_
    refine QH_seq_k hK7 ?_
    refine wpC_ret ?_
    refine QH_then_ret ?_
    refine QH_ret rfl (RV.tmp rfl RV.nil) rfl ?_
    obtain rfl := Option.some.inj H
    replace hS := hS.cut 0
    exact ⟨rfl, hS⟩
  replace H := cond_f H hb
  refine wpC_skip ?_
  refine QH_seq_k hK4 ?_
  refine wpC_seq_k (fun K hK9 => ?_)
  refine wpC_seq_k (fun K hK10 => ?_)
  refine wpC_region ?_
  refine wpS_quick 1 rfl ?_
  refine wpS_nil ?_
  refine QH_seq_k hK10 ?_
  refine wpC_block ?_
  refine wpC_loop (X := Nat × Bool × Int) (fun x => (1, .pointer (some ⟨b2, 0, none⟩)) :: (2, .bool x.2.1) :: (3, .int .i64 x.2.2) :: []) (fun x w => St0 All w0 w (.box b2 [.int .i64 x0.next, .int .i64 x0.term, .int .i64 x0.vote, .int .i64 x0.snap.seq, .int .i64 x0.snap.fmt, .slice A0_ x0.segs.length c0_] 50 :: []) ∧ m_ref11_Two_l1 x0 x.1 x.2.1 x.2.2 = some r) (fun x => x.1) (fuelN, false, 0) (by repeat (first | exact Sub.nil | refine Sub.cons rfl ?_)) ⟨hS, H⟩ ?_
  rintro ⟨n, v11, v12⟩ w ⟨hS, H⟩
  dsimp only at hS H ⊢
  obtain _ | n := n
  · have H0 : none = some r := H
    cases H0
  rw [m_ref11_Two_l1] at H
  refine wpC_seq_k (fun K hK13 => ?_)
  refine wpC_seq_k (fun K hK14 => ?_)
  refine wpC_region ?_
  refine wpS_quick 1 rfl ?_
  refine wpS_put rfl rfl rfl (yv_fieldAddr fo_50_4 rfl) ?_
  refine wpS_put rfl rfl rfl (yv_load_box sc_48 rfl (RW.here _) hS hs0 trivial sg5_1) ?_
  refine wpS_put rfl rfl rfl (yv_len el_48 rfl) ?_
  refine wpS_put rfl rfl rfl (yv_lss rfl rfl) ?_
  refine wpS_nil ?_
  refine QH_seq_k hK14 ?_
  refine wpC_cond rfl (fun hb => ?_) (fun hb => ?_)
  rotate_left
  · replace H := cond_f H hb
    refine wpC_exit ?_
    refine QH_then_exit ?_
    refine QH_then_exit ?_
    refine QH_block_hit ?_
    refine QH_seq_k hK9 ?_
    refine wpC_seq_k (fun K hK25 => ?_)
    refine wpC_region ?_
    refine wpS_quick 1 rfl ?_
    refine wpS_nil ?_
    refine QH_seq_k hK25 ?_
    refine wpC_ret ?_
    refine QH_ret rfl (RV.tmp rfl RV.nil) rfl ?_
    obtain rfl := Option.some.inj H
    replace hS := hS.cut 0
    exact ⟨rfl, hS⟩
  replace H := cond_t H hb
  refine wpC_skip ?_
  refine QH_seq_k hK13 ?_
  refine wpC_seq_k (fun K hK16 => ?_)
  refine wpC_block ?_
  refine wpC_seq_k (fun K hK17 => ?_)
  refine wpC_region ?_
  refine wpS_put rfl rfl rfl (yv_fieldAddr fo_50_4 rfl) ?_
  refine wpS_put rfl rfl rfl (yv_load_box sc_48 rfl (RW.here _) hS hs0 trivial sg5_1) ?_
  refine wpS_quick 1 rfl ?_
  obtain ⟨e18, hi20, H⟩ := bind_some H
  obtain ⟨j19, hi20a, hi20b, hi20c⟩ := idx_some hi20
  refine wpS_put rfl rfl rfl (yx_idx el_48 rfl rfl hi20a hi20c (Rd.el (hS.rd0 s0_.rd) he_enSg hi20b)) ?_
  refine wpS_put rfl rfl rfl (yx_fieldAddr fo_66_1 rfl (Rd.el (hS.rd0 s0_.rd) he_enSg hi20b)) ?_
  refine wpS_put rfl rfl rfl (yx_ld sc_3 rfl (RW.here _) (Rd.el (hS.rd0 s0_.rd) he_enSg hi20b) rfl) ?_
  refine wpS_put rfl rfl rfl (yv_eql rfl rfl) ?_
  refine wpS_nil ?_
  refine QH_seq_k hK17 ?_
  refine wpC_cond rfl (fun hb => ?_) (fun hb => ?_)
  rotate_left
  · replace H := cond_f H hb
    refine wpC_skip ?_
    refine QH_block_normal ?_
    refine QH_seq_k hK16 ?_
    refine wpC_region ?_
    refine wpS_quick 1 rfl ?_
    refine wpS_put rfl rfl rfl (yx_add rfl rfl) ?_
    refine wpS_quick 1 rfl ?_
    refine wpS_nil ?_
    exact QH_again (n, v11, (IntKind.wrap .i64 (v12 + 1))) (by repeat (first | exact Sub.nil | refine Sub.cons rfl ?_)) ⟨hS, H⟩ (Nat.lt_succ_self _)
  replace H := cond_t H hb
  refine wpC_seq_k (fun K hK22 => ?_)
  refine wpC_region ?_
  refine wpS_quick 1 rfl ?_
  refine wpS_nil ?_
  refine QH_seq_k hK22 ?_
  refine wpC_ret ?_
  refine QH_block_ret ?_
  refine QH_then_ret ?_
  refine QH_then_ret ?_
  refine QH_block_ret ?_
  refine QH_then_ret ?_
  refine QH_ret rfl (RV.tmp rfl RV.nil) rfl ?_
  obtain rfl := Option.some.inj H
  replace hS := hS.cut 0
  exact ⟨rfl, hS⟩
theorem c_slices_Clone___api_Seg_api_Seg_ (x0 : List Sg) (A0_ : Option Addr) (c0_ : Nat) (w0 : World) (s0_ : SlI w0 enSg A0_ c0_ x0) {r : List Sg} (H : m_slices_Clone___api_Seg_api_Seg_ x0 = some r) : Calls Tryd.prog 78 #[.slice A0_ x0.length c0_] w0 fun e w' => ∃ (A0 : Option Addr) (c0 : Nat), e = .returned (.slice A0 r.length c0) ∧ (r.length ≤ c0 ∧ c0 ≤ maxLen) ∧ St0 All w0 w' [.row (.slice A0 r.length c0) 66 4 r.length (encs enSg r)] := by
  unfold m_slices_Clone___api_Seg_api_Seg_ at H
  obtain ⟨rfl, hfew⟩ := fewI_some H
  cases A0_ with
  | none =>
    obtain rfl : r = [] := by
      cases r with
      | nil => rfl
      | cons e l => obtain ⟨b, o, h, _⟩ := s0_.rd 0 _ rfl; cases h
    refine gw_enter1 Tryd.func78 rfl Tryd.ntmps78 rfl ?_
    have hS := St0.start All w0
    refine wpC_seq_k (fun K hK1 => ?_)
    refine wpC_region ?_
    refine wpS_quick 1 rfl ?_
    refine wpS_nil ?_
    refine QH_seq_k hK1 ?_
    refine wpC_seq_k (fun K hK2 => ?_)
    refine wpC_seq_k (fun K hK3 => ?_)
    refine wpC_region ?_
    refine wpS_quick 1 rfl ?_
    refine wpS_put rfl rfl rfl (yv_eqlNil (e := 66) (by kernel_rfl) rfl rfl) ?_
    refine wpS_nil ?_
    refine QH_seq_k hK3 ?_
    refine wpC_cond_t rfl rfl ?_
    refine wpC_seq_k (fun K hK4 => ?_)
    refine wpC_region ?_
    refine wpS_quick 1 rfl ?_
    refine wpS_nil ?_
    refine QH_seq_k hK4 ?_
    refine wpC_ret ?_
    refine QH_then_ret ?_
    refine QH_ret rfl (RV.tmp rfl RV.nil) rfl ?_
    have hS := hS.nilRow 66 4
    replace hS := hS.cut 1
    exact ⟨none, 0, rfl, ⟨Nat.le_refl _, Nat.zero_le _⟩, hS⟩
  | some a0 =>
    refine gw_enter1 Tryd.func78 rfl Tryd.ntmps78 rfl ?_
    have hS := St0.start All w0
    have H : (fewI ([] ++ r)).bind (fun z => some z) = some r := by rw [List.nil_append, H]; rfl
    refine wpC_seq_k (fun K hK5 => ?_)
    refine wpC_region ?_
    refine wpS_quick 1 rfl ?_
    refine wpS_nil ?_
    refine QH_seq_k hK5 ?_
    refine wpC_seq_k (fun K hK6 => ?_)
    refine wpC_seq_k (fun K hK7 => ?_)
    refine wpC_region ?_
    refine wpS_quick 1 rfl ?_
    refine wpS_put rfl rfl rfl (yv_eqlNil (e := 66) (by kernel_rfl) rfl rfl) ?_
    refine wpS_nil ?_
    refine QH_seq_k hK7 ?_
    refine wpC_cond_f rfl rfl ?_
    refine wpC_skip ?_
    refine QH_seq_k hK6 ?_
    refine wpC_seq_k (fun K hK8 => ?_)
    refine wpC_region ?_
    refine wpS_slice0 el_48 rfl rfl hS (fun b9 w hS hB => ?_)
    refine wpS_quick 1 rfl ?_
    obtain ⟨l11, hf12, H⟩ := bind_some H
    refine wpX_append (ys := r) he_enSg oc_enSg em_48 (by decide) rfl rfl rfl rfl hS (fun _ => ps0) (hS.rd0 s0_.rd) hf12 (fun A13 c14 w k15 hS => ?_)
    refine wpS_quick 1 rfl ?_
    refine wpS_nil ?_
    refine QH_seq_k hK8 ?_
    refine wpC_ret ?_
    refine QH_ret rfl (RV.tmp rfl RV.nil) rfl ?_
    obtain rfl := Option.some.inj H
    have hS := hS.front 0 rfl
    replace hS := hS.cut 1
    exact ⟨A13, c14, rfl, k15, hS⟩
theorem c_manifest_Own (x0 : Mf) (A0_ : Option Addr) (c0_ : Nat) (w0 : World) (s0_ : SlI w0 enSg A0_ c0_ x0.segs) {r : Mf} (H : m_manifest_Own x0 = some r) : Calls Tryd.prog 48 #[.agg #[.int .i64 x0.next, .int .i64 x0.term, .int .i64 x0.vote, .int .i64 x0.snap.seq, .int .i64 x0.snap.fmt, .slice A0_ x0.segs.length c0_]] w0 fun e w' => ∃ (A0 : Option Addr) (c0 : Nat), e = .returned (.agg #[.int .i64 r.next, .int .i64 r.term, .int .i64 r.vote, .int .i64 r.snap.seq, .int .i64 r.snap.fmt, .slice A0 r.segs.length c0]) ∧ (r.segs.length ≤ c0 ∧ c0 ≤ maxLen) ∧ St0 All w0 w' [.row (.slice A0 r.segs.length c0) 66 4 r.segs.length (encs enSg r.segs)] := by
  unfold m_manifest_Own at H
  refine gw_enter1 Tryd.func48 rfl Tryd.ntmps48 rfl ?_
  have hS := St0.start All w0
  refine wpC_seq_k (fun K hK1 => ?_)
  refine wpC_region ?_
  refine wpS_box rfl rfl rfl CellsOf.agg hS (fun b2 w hS hB => ?_)
  refine wpS_alloc rfl rfl zc_50 hS (fun b4 w hS hB => ?_)
  refine wpS_nil ?_
  refine QH_seq_k hK1 ?_
  refine wpC_seq_k (fun K hK6 => ?_)
  refine wpC_region ?_
  refine wpS_put rfl rfl rfl (yv_fieldAddr fo_50_4 rfl) ?_
  refine wpS_put rfl rfl rfl (yv_load_box sc_48 rfl (RW.here _) hS hs1 trivial sg5_1) ?_
  obtain ⟨r7, hm8, H⟩ := bind_some H
  refine wpS_call rfl rfl rfl rfl (by kernel_rfl) rfl (c_slices_Clone___api_Seg_api_Seg_ x0.segs A0_ c0_ _ (SlI.of_rd s0_.k (hS.rd0 s0_.rd) (hS.blk0 s0_.blk)) hm8) ?_
  rintro e w ⟨A9, c10, rfl, k11, hN⟩; refine ⟨_, rfl, ?_⟩; have hB := hN.pure; have hS := hS.join hN; clear hN
  refine wpS_put rfl rfl rfl (yv_fieldAddr fo_50_4 rfl) ?_
  refine wpS_store rfl rfl rfl CellsOf.slice hS ps2 st5_1 (by kernel_rfl) rfl (fun w hS hB => ?_)
  refine wpS_nil ?_
  refine QH_seq_k hK6 ?_
  refine wpC_seq_k (fun K hK13 => ?_)
  refine wpC_region ?_
  refine wpS_put rfl rfl rfl (yv_load_boxA ag_50 rfl (RW.here _) hS hs2 trivial sg0_6) ?_
  refine wpS_store rfl rfl rfl CellsOf.agg hS ps1 st0_6 (by kernel_rfl) rfl (fun w hS hB => ?_)
  refine wpS_nil ?_
  refine QH_seq_k hK13 ?_
  refine wpC_ret ?_
  refine QH_ret rfl (RV.cell rfl (load_boxA ag_50 hS hs1 sg0_6) RV.nil) rfl ?_
  obtain rfl := Option.some.inj H
  have hS := hS.front 0 rfl
  replace hS := hS.cut 1
  exact ⟨A9, c10, rfl, k11, hS⟩
end Go.Proofs.YtofheinbbefbcaaDoor
/- The printed texts of this seat. -/
/- Plain law of the sum of bytes: its steps undo, bursts of four bytes are seen, three rows go with exclusive or. -/
namespace Go.Proofs.YtofheinbbefbcaaDoor

theorem tab_top (i j : Nat) (hi : i < 16) (hj : j < 16) (h : tab i / 268435456 = tab j / 268435456) : i = j :=
  (show ∀ i, i < 16 → ∀ j, j < 16 → tab i / 268435456 = tab j / 268435456 → i = j by decide) i hi j hj h
theorem bit4_eq (x : Nat) : bit4 x = tab (x % 16) ^^^ (x / 16) := by
  conv => lhs; rw [split16 x]
  rw [bit4_xor, bit4_mul, bit4_low _ (Nat.mod_lt _ (by omega)), Nat.xor_comm]
theorem xor_div28 (a b : Nat) : (a ^^^ b) / 268435456 = (a / 268435456) ^^^ (b / 268435456) := by
  have := @Nat.xor_div_two_pow a b 28
  simpa using this
theorem bit4_lt (x : Nat) (h : x < 4294967296) : bit4 x < 4294967296 := by
  rw [bit4_eq]; exact Nat.xor_lt_two_pow (n := 32) (tab_lt _) (by omega)
theorem bit4_inj (x y : Nat) (hx : x < 4294967296) (hy : y < 4294967296) (h : bit4 x = bit4 y) : x = y := by
  rw [bit4_eq, bit4_eq] at h
  have h1 := congrArg (· / 268435456) h
  simp only [xor_div28] at h1
  rw [Nat.div_eq_of_lt (show x / 16 < 268435456 by omega), Nat.div_eq_of_lt (show y / 16 < 268435456 by omega), Nat.xor_zero, Nat.xor_zero] at h1
  have h2 := tab_top _ _ (Nat.mod_lt x (by omega)) (Nat.mod_lt y (by omega)) h1
  rw [h2] at h
  have h3 : x / 16 = y / 16 := by
    have := congrArg (tab (y % 16) ^^^ ·) h
    simp only [← Nat.xor_assoc, Nat.xor_self, Nat.zero_xor] at this
    exact this
  omega

/-- Eight single steps. -/
def bit8 (x : Nat) : Nat := bit4 (bit4 x)
theorem bit8_xor (a b : Nat) : bit8 (a ^^^ b) = bit8 a ^^^ bit8 b := by simp only [bit8, bit4_xor]
theorem bit8_mul (q : Nat) : bit8 (256 * q) = q := by
  unfold bit8
  rw [show 256 * q = 16 * (16 * q) from by omega, bit4_mul, bit4_mul]
theorem bit8_lt (x : Nat) (h : x < 4294967296) : bit8 x < 4294967296 := bit4_lt _ (bit4_lt _ h)
theorem bit8_inj (x y : Nat) (hx : x < 4294967296) (hy : y < 4294967296) (h : bit8 x = bit8 y) : x = y :=
  bit4_inj x y hx hy (bit4_inj _ _ (bit4_lt _ hx) (bit4_lt _ hy) h)
theorem byteN_eq (s : Nat) (c : UInt8) : byteN s c = bit8 (s ^^^ c.toNat) := by
  unfold byteN bit8
  rw [stepN_eq, stepN_eq, Nat.mod_mod, Nat.mod_eq_of_lt (show c.toNat / 16 < 16 by have := c.toNat_lt; omega)]
  congr 1
  conv => rhs; rw [split16 c.toNat, Nat.xor_comm (16 * (c.toNat / 16)), ← Nat.xor_assoc, bit4_xor, bit4_mul]
theorem byteN_inj (s t : Nat) (c : UInt8) (hs : s < 4294967296) (ht : t < 4294967296) (h : byteN s c = byteN t c) : s = t := by
  rw [byteN_eq, byteN_eq] at h
  have hc := c.toNat_lt
  have h1 := bit8_inj _ _ (Nat.xor_lt_two_pow (n := 32) hs (by omega)) (Nat.xor_lt_two_pow (n := 32) ht (by omega)) h
  have := congrArg (· ^^^ c.toNat) h1
  simp only [Nat.xor_assoc, Nat.xor_self, Nat.xor_zero] at this
  exact this
theorem runN_inj (l : List UInt8) : ∀ s t, s < 4294967296 → t < 4294967296 → runN s l = runN t l → s = t := by
  induction l with
  | nil => intro s t _ _ h; exact h
  | cons c l ih => intro s t hs ht h; exact byteN_inj s t c hs ht (ih _ _ (byteN_lt _ _ hs) (byteN_lt _ _ ht) h)

/-- Four bytes as one number. -/
def packN (a b c d : UInt8) : Nat := a.toNat ^^^ (256 * b.toNat ^^^ (65536 * c.toNat ^^^ 16777216 * d.toNat))
def bit32 (x : Nat) : Nat := bit8 (bit8 (bit8 (bit8 x)))
theorem run4 (s : Nat) (a b c d : UInt8) : runN s [a, b, c, d] = bit32 (s ^^^ packN a b c d) := by
  simp only [runN, List.foldl_cons, List.foldl_nil, byteN_eq, bit32, packN]
  rw [show s ^^^ (a.toNat ^^^ (256 * b.toNat ^^^ (65536 * c.toNat ^^^ 16777216 * d.toNat))) = (s ^^^ a.toNat) ^^^ (256 * b.toNat ^^^ (65536 * c.toNat ^^^ 16777216 * d.toNat)) from by ac_rfl]
  rw [bit8_xor (s ^^^ a.toNat), bit8_xor (256 * b.toNat), bit8_mul, bit8_xor (65536 * c.toNat), show 65536 * c.toNat = 256 * (256 * c.toNat) from by omega, show 16777216 * d.toNat = 256 * (65536 * d.toNat) from by omega, bit8_mul, bit8_mul]
  rw [← Nat.xor_assoc (bit8 (s ^^^ a.toNat)), bit8_xor (bit8 (s ^^^ a.toNat) ^^^ b.toNat), bit8_xor (256 * c.toNat), bit8_mul, show 65536 * d.toNat = 256 * (256 * d.toNat) from by omega, bit8_mul]
  rw [← Nat.xor_assoc (bit8 (bit8 (s ^^^ a.toNat) ^^^ b.toNat)), bit8_xor (bit8 (bit8 (s ^^^ a.toNat) ^^^ b.toNat) ^^^ c.toNat), bit8_mul]
theorem bit32_inj (x y : Nat) (hx : x < 4294967296) (hy : y < 4294967296) (h : bit32 x = bit32 y) : x = y :=
  bit8_inj x y hx hy (bit8_inj _ _ (bit8_lt _ hx) (bit8_lt _ hy) (bit8_inj _ _ (bit8_lt _ (bit8_lt _ hx)) (bit8_lt _ (bit8_lt _ hy)) (bit8_inj _ _ (bit8_lt _ (bit8_lt _ (bit8_lt _ hx))) (bit8_lt _ (bit8_lt _ (bit8_lt _ hy))) h)))
theorem xor_add (n a q : Nat) (h : a < 2 ^ n) : a ^^^ (2 ^ n * q) = a + 2 ^ n * q := by
  rw [Nat.add_comm, Nat.two_pow_add_eq_or_of_lt h]
  apply Nat.eq_of_testBit_eq
  intro i
  rw [Nat.testBit_xor, Nat.testBit_or, Nat.testBit_two_pow_mul]
  by_cases hi : i < n
  · simp [Nat.not_le.2 hi]
  · have : a.testBit i = false := Nat.testBit_lt_two_pow (Nat.lt_of_lt_of_le h (Nat.pow_le_pow_right (by decide) (by omega)))
    simp [this]
theorem packN_eq (a b c d : UInt8) : packN a b c d = a.toNat + 256 * b.toNat + 65536 * c.toNat + 16777216 * d.toNat := by
  have ha := a.toNat_lt
  have hb := b.toNat_lt
  have hc := c.toNat_lt
  unfold packN
  have e1 : 65536 * c.toNat ^^^ 16777216 * d.toNat = 65536 * c.toNat + 16777216 * d.toNat := by
    have := xor_add 24 (65536 * c.toNat) d.toNat (by omega)
    simpa using this
  have e2 : 256 * b.toNat ^^^ (65536 * c.toNat + 16777216 * d.toNat) = 256 * b.toNat + (65536 * c.toNat + 16777216 * d.toNat) := by
    have := xor_add 16 (256 * b.toNat) (c.toNat + 256 * d.toNat) (by omega)
    rw [show 65536 * c.toNat + 16777216 * d.toNat = 2 ^ 16 * (c.toNat + 256 * d.toNat) from by omega]
    exact this
  have e3 := xor_add 8 a.toNat (b.toNat + 256 * c.toNat + 65536 * d.toNat) (by omega)
  rw [e1, e2, show 256 * b.toNat + (65536 * c.toNat + 16777216 * d.toNat) = 2 ^ 8 * (b.toNat + 256 * c.toNat + 65536 * d.toNat) from by omega, e3]
  omega
theorem packN_lt (a b c d : UInt8) : packN a b c d < 4294967296 := by
  have := a.toNat_lt
  have := b.toNat_lt
  have := c.toNat_lt
  have := d.toNat_lt
  rw [packN_eq]; omega
theorem packN_inj (a b c d a' b' c' d' : UInt8) (h : packN a b c d = packN a' b' c' d') : a = a' ∧ b = b' ∧ c = c' ∧ d = d' := by
  have := a.toNat_lt
  have := b.toNat_lt
  have := c.toNat_lt
  have := d.toNat_lt
  have := a'.toNat_lt
  have := b'.toNat_lt
  have := c'.toNat_lt
  have := d'.toNat_lt
  rw [packN_eq, packN_eq] at h
  refine ⟨UInt8.toNat_inj.1 ?_, UInt8.toNat_inj.1 ?_, UInt8.toNat_inj.1 ?_, UInt8.toNat_inj.1 ?_⟩ <;> omega

/-- What a row with its right sum behind runs to. -/
def residue : Nat := bit32 4294967295
theorem inv32_xor (x : Nat) (h : x < 4294967296) : inv32 x = 4294967295 ^^^ x := by
  have h1 : (4294967295 : Nat) ^^^ x = (BitVec.allOnes 32 ^^^ BitVec.ofNat 32 x).toNat := by
    rw [BitVec.toNat_xor, BitVec.toNat_allOnes, BitVec.toNat_ofNat, Nat.mod_eq_of_lt h]
  rw [h1, BitVec.allOnes_xor, BitVec.toNat_not, BitVec.toNat_ofNat, Nat.mod_eq_of_lt h]
  rfl
theorem pack_fourN (s : Nat) (h : s < 4294967296) : ∃ a b c d, fourN s = [a, b, c, d] ∧ packN a b c d = s := by
  refine ⟨_, _, _, _, rfl, ?_⟩
  rw [packN_eq]
  have e (n : Nat) : (UInt8.ofNat n).toNat = n % 256 := by simp
  rw [e, e, e, e]; omega
theorem four_iff (s : Nat) (h : s < 4294967296) (a b c d : UInt8) : fourN s = [a, b, c, d] ↔ packN a b c d = s := by
  obtain ⟨a', b', c', d', e, e'⟩ := pack_fourN s h
  rw [e]
  constructor
  · intro hh
    injection hh with h1 hh
    injection hh with h2 hh
    injection hh with h3 hh
    injection hh with h4 _
    rw [← h1, ← h2, ← h3, ← h4]; exact e'
  · intro hh
    obtain ⟨rfl, rfl, rfl, rfl⟩ := packN_inj _ _ _ _ _ _ _ _ (e'.trans hh.symm)
    rfl
theorem sum_iff (p : List UInt8) (a b c d : UInt8) : fourN (nextN 0 p) = [a, b, c, d] ↔ runN (inv32 0) (p ++ [a, b, c, d]) = residue := by
  rw [four_iff _ (nextN_lt _ _), runN_append, run4]
  have h0 := runN_lt p (inv32 0) (inv32_lt 0)
  have hp := packN_lt a b c d
  have hn : nextN 0 p = 4294967295 ^^^ runN (inv32 0) p := inv32_xor _ h0
  rw [hn]
  constructor
  · intro h
    rw [h]
    unfold residue
    congr 1
    rw [Nat.xor_comm 4294967295, ← Nat.xor_assoc, Nat.xor_self, Nat.zero_xor]
  · intro h
    have := bit32_inj _ _ (Nat.xor_lt_two_pow (n := 32) h0 hp) (by decide) h
    rw [← this, Nat.xor_comm (runN (inv32 0) p), Nat.xor_assoc, Nat.xor_self, Nat.xor_zero]
theorem run_put (b : List UInt8) : runN (inv32 0) (putN b) = residue := by
  obtain ⟨a, b', c, d, e, _⟩ := pack_fourN (nextN 0 b) (nextN_lt _ _)
  unfold putN
  rw [e]
  exact (sum_iff b a b' c d).1 e
theorem take_put (b : List UInt8) : takeN (putN b) = some b := by
  have hl : (putN b).length = b.length + 4 := by simp [putN, fourN]
  have h1 : (putN b).take ((putN b).length - 4) = b := by rw [hl]; simp [putN]
  have h2 : (putN b).drop ((putN b).length - 4) = fourN (nextN 0 b) := by rw [hl]; simp [putN]
  unfold takeN
  rw [if_neg (by omega), h1, h2, if_pos rfl]

end Go.Proofs.YtofheinbbefbcaaDoor
/- Layer 11: which manifests may be, in plain terms. -/
namespace Go.Proofs.YtofheinbbefbcaaDoor
open Go Go.RowKit
set_option maxRecDepth 100000
theorem p_within (n a b : Int) : m_manifest_within n a b = some (decide (a ≤ n ∧ n ≤ b)) := by
  unfold m_manifest_within
  by_cases h : a ≤ n
  · rw [decide_eq_true h, cond_true]; simp [h]
  · rw [decide_eq_false h, cond_false]; simp [h]
theorem p_within11 (n a b : Int) : m_ref11_within n a b = some (decide (a ≤ n ∧ n ≤ b)) := p_within n a b
/-- May this one stand behind segments with these numbers, the last of which ends ahead of pe? -/
def segB (nx sn : Int) (qs : List Int) (pe : Option Int) (s : Sg) (t : List Sg) : Bool :=
  decide ((1 ≤ s.seq ∧ s.seq ≤ nx - 1) ∧ (1 ≤ s.fmt ∧ s.fmt ≤ 2) ∧ s.seq ≠ sn ∧ s.seq ∉ qs ∧ (1 ≤ s.first ∧ s.first ≤ 1073741820) ∧ ((1 ≤ s.count ∧ s.count ≤ 4) ∨ (s.count = -1 ∧ t = [])) ∧ (pe = none ∨ pe = some s.first))
def chkB (nx sn : Int) : List Int → Option Int → List Sg → Bool
  | _, _, [] => true
  | qs, pe, s :: t => segB nx sn qs pe s t && chkB nx sn (qs ++ [s.seq]) (some (s.first + s.count)) t
def headM (x : Mf) : Bool := decide ((1 ≤ x.next ∧ x.next ≤ 1073741824) ∧ (0 ≤ x.term ∧ x.term ≤ 1073741824) ∧ (0 ≤ x.vote ∧ x.vote ≤ 5) ∧ x.segs.length ≤ 60 ∧ ((x.snap.seq = 0 ∧ x.snap.fmt = 0) ∨ (1 ≤ x.snap.seq ∧ x.snap.seq ≤ x.next - 1) ∧ (1 ≤ x.snap.fmt ∧ x.snap.fmt ≤ 2)))
/-- May a manifest be? -/
def rightM (x : Mf) : Bool := headM x && chkB x.next x.snap.seq [] none x.segs
def errM (x : Mf) : Int := if rightM x = true then 0 else 2
theorem getI_upd (l : List (Int × Int)) (k v i : Int) : getI (updI l k v) i = if i = k then v else getI l i := by
  induction l with
  | nil =>
    simp only [updI, getI]
    by_cases h : k = i
    · rw [if_pos h, if_pos h.symm]
    · rw [if_neg h, if_neg (fun e => h e.symm)]
  | cons p l ih =>
    simp only [updI]
    by_cases h : p.1 = k
    · rw [if_pos h]
      simp only [getI]
      by_cases h2 : k = i
      · rw [if_pos h2, if_pos h2.symm]
      · rw [if_neg h2, if_neg (fun e => h2 e.symm), if_neg (fun e => h2 (h.symm.trans e))]
    · rw [if_neg h]
      simp only [getI, ih]
      by_cases h2 : p.1 = i
      · rw [if_pos h2, if_pos h2, if_neg (fun e => h (h2.trans e))]
      · rw [if_neg h2, if_neg h2]
theorem drop_nil_iff {α : Type} (l : List α) (k : Nat) : l.drop k = [] ↔ l.length ≤ k := List.drop_eq_nil_iff
theorem check_step (b0 b1 b2 b3 b4 b5 b6 b7 b8 : Bool) (R : Option Int) :
    cond b0 (cond b1 (cond b2 (cond (!b8) (some 2) (cond (!b3) (some 2) (cond (!b4) (cond (!b5) (some 2) (cond b6 (cond b7 (some 2) R) R)) (cond b6 (cond b7 (some 2) R) R)))) (some 2)) (some 2)) (cond b1 (cond b2 (cond (!b8) (some 2) (cond (!b3) (some 2) (cond (!b5) (some 2) (cond b6 (cond b7 (some 2) R) R)))) (some 2)) (some 2)) =
    cond (((((b1 && b2) && b8) && b3) && (b5 || (b0 && b4))) && !(b6 && b7)) R (some 2) := by
  cases b1
  · cases b0 <;> rfl
  cases b2
  · cases b0 <;> rfl
  cases b8
  · cases b0 <;> rfl
  cases b3
  · cases b0 <;> rfl
  cases b0 <;> cases b4 <;> cases b5 <;> cases b6 <;> cases b7 <;> rfl
theorem check_l1 (x : Mf) (hn : 1 ≤ x.next ∧ x.next ≤ 1073741824) (hl : x.segs.length ≤ 1000) : ∀ (q k n : Nat) (v : Int) (mp : List (Int × Int)) (qs : List Int) (pe : Option Int), q + k = x.segs.length → q < n →
    (∀ i, getI mp i = if i = 0 ∨ i = x.snap.seq ∨ i ∈ qs then 1 else 0) → (k = 0 → pe = none) → (0 < k → pe = some v) →
    m_manifest_Check_l1 x n v k mp = some (if chkB x.next x.snap.seq qs pe (x.segs.drop k) = true then 0 else 2) := by
  intro q
  induction q with
  | zero =>
    intro k n v mp qs pe hk hq _ _ _
    obtain ⟨n, rfl⟩ : ∃ n', n = n' + 1 := ⟨n - 1, by omega⟩
    rw [m_manifest_Check_l1, decide_eq_false (show ¬ (k : Int) < (x.segs.length : Int) by omega), cond_false, List.drop_eq_nil_of_le (by omega)]
    rfl
  | succ q ih =>
    intro k n v mp qs pe hk hq hg h0 h1
    obtain ⟨n, rfl⟩ : ∃ n', n = n' + 1 := ⟨n - 1, by omega⟩
    obtain ⟨e, he, hd⟩ := drop_step (show k < x.segs.length by omega)
    have w1 : IntKind.wrap .i64 ((k : Int) + 1) = ((k + 1 : Nat) : Int) := by rw [w64i (by omega)]; omega
    have w2 : IntKind.wrap .i64 (x.next - 1) = x.next - 1 := w64i (by omega)
    have w3 : IntKind.wrap .i64 ((x.segs.length : Int) - 1) = (x.segs.length : Int) - 1 := w64i (by omega)
    have hge := hg e.seq
    have hnil : x.segs.drop (k + 1) = [] ↔ (k : Int) = (x.segs.length : Int) - 1 := by rw [drop_nil_iff]; omega
    have hpe : (pe = none ∨ pe = some e.first) ↔ ¬ (0 < (k : Int) ∧ e.first ≠ v) := by
      rcases Nat.eq_zero_or_pos k with hk0 | hk0
      · rw [h0 hk0]; simp; omega
      · rw [h1 hk0]; simp [hk0]; exact ⟨fun h => h.symm, fun h => h.symm⟩
    have hg0 : getI mp e.seq = 0 ↔ ¬ (e.seq = 0 ∨ e.seq = x.snap.seq ∨ e.seq ∈ qs) := by
      rw [hge]
      by_cases h : e.seq = 0 ∨ e.seq = x.snap.seq ∨ e.seq ∈ qs
      · rw [if_pos h]; exact ⟨fun h2 => by omega, fun h2 => (h2 h).elim⟩
      · rw [if_neg h]; exact ⟨fun _ => h, fun _ => rfl⟩
    rw [m_manifest_Check_l1, decide_eq_true (show (k : Int) < (x.segs.length : Int) by omega), cond_true, idx_nat, he, Option.bind_some, hd, w1, w2, w3]
    simp only [p_within, Option.bind_some]
    rw [check_step]
    have key : (((((decide (1 ≤ e.seq ∧ e.seq ≤ x.next - 1) && decide (1 ≤ e.fmt ∧ e.fmt ≤ 2)) && decide (getI mp e.seq = 0)) && decide (1 ≤ e.first ∧ e.first ≤ 1073741820)) && (decide (1 ≤ e.count ∧ e.count ≤ 4) || (decide (e.count = -1) && decide ((k : Int) = (x.segs.length : Int) - 1)))) && !(decide (0 < (k : Int)) && decide (e.first ≠ v))) = segB x.next x.snap.seq qs pe e (x.segs.drop (k + 1)) := by
      rw [Bool.eq_iff_iff]
      unfold segB
      rw [decide_eq_true_eq, hnil, hpe]
      simp only [Bool.and_eq_true, Bool.or_eq_true, Bool.not_eq_true', Bool.eq_false_iff, decide_eq_true_eq, hg0]
      constructor
      · rintro ⟨⟨⟨⟨⟨a, b⟩, c⟩, d⟩, e'⟩, f⟩
        exact ⟨a, b, fun h => c (.inr (.inl h)), fun h => c (.inr (.inr h)), d, e', fun h => f (by simpa using h)⟩
      · rintro ⟨a, b, c1, c2, d, e', f⟩
        refine ⟨⟨⟨⟨⟨a, b⟩, fun h => ?_⟩, d⟩, e'⟩, fun h => f (by simpa using h)⟩
        rcases h with h | h | h
        · omega
        · exact c1 h
        · exact c2 h
    rw [key]
    cases hs : segB x.next x.snap.seq qs pe e (x.segs.drop (k + 1)) with
    | false =>
      have hX : chkB x.next x.snap.seq qs pe (e :: x.segs.drop (k + 1)) = false := by rw [chkB, hs, Bool.false_and]
      rw [hX, if_neg (by decide)]
      rfl
    | true =>
      have hX : chkB x.next x.snap.seq qs pe (e :: x.segs.drop (k + 1)) = chkB x.next x.snap.seq (qs ++ [e.seq]) (some (e.first + e.count)) (x.segs.drop (k + 1)) := by rw [chkB, hs, Bool.true_and]
      have hs' := hs
      unfold segB at hs'
      rw [decide_eq_true_eq] at hs'
      obtain ⟨s1, s2, s3, s4, s5, s6, s7⟩ := hs'
      have hmp : ∀ i, getI (updI mp e.seq 1) i = if i = 0 ∨ i = x.snap.seq ∨ i ∈ qs ++ [e.seq] then 1 else 0 := fun i => by
        rw [getI_upd, hg i]
        by_cases h : i = e.seq
        · rw [if_pos h, if_pos (by rw [List.mem_append]; exact .inr (.inr (.inr (by simp [h]))))]
        · rw [if_neg h]
          simp [h]
      have hw : IntKind.wrap .i64 (e.first + e.count) = e.first + e.count := w64i (by omega)
      rw [cond_true, hw, hX]
      exact ih (k + 1) n (e.first + e.count) (updI mp e.seq 1) (qs ++ [e.seq]) (some (e.first + e.count)) (by omega) (by omega) hmp (fun h => by omega) (fun _ => rfl)
theorem check_l2 (x : Mf) : ∀ n a b c, m_manifest_Check_l2 x n a b c = m_manifest_Check_l1 x n a b c := by
  intro n
  induction n with
  | zero => intros; rfl
  | succ n ih => intro a b c; rw [m_manifest_Check_l2, m_manifest_Check_l1]; simp only [ih]
theorem p_Check (x : Mf) : m_manifest_Check x = some (errM x) := by
  unfold m_manifest_Check errM rightM
  simp only [p_within, Option.bind_some, check_l2]
  by_cases hh : headM x = true
  · rw [hh, Bool.true_and]
    have h := hh
    unfold headM at h
    rw [decide_eq_true_eq] at h
    obtain ⟨a1, a2, a3, a4, a5⟩ := h
    have w2 : IntKind.wrap .i64 (x.next - 1) = x.next - 1 := w64i (by omega)
    simp only [Bool.cond_decide, Bool.cond_not, decide_not, w2]
    rw [if_pos a1, if_pos a2, if_pos a3, if_neg (by omega)]
    rcases a5 with ⟨b1, b2⟩ | ⟨b1, b2⟩
    · have hm : ∀ i, getI (updI [] 0 1) i = if i = 0 ∨ i = x.snap.seq ∨ i ∈ ([] : List Int) then 1 else 0 := fun i => by
        rw [getI_upd, b1]; simp [getI]
      have hL := check_l1 x a1 (by omega) x.segs.length 0 fuelN 0 _ [] none (by omega) (by unfold fuelN; omega) hm (fun _ => rfl) (fun h => by omega)
      rw [show ((0 : Nat) : Int) = 0 from rfl, List.drop_zero] at hL
      rw [hL]
      simp [b1, b2]
    · have hm : ∀ i, getI (updI (updI [] 0 1) x.snap.seq 1) i = if i = 0 ∨ i = x.snap.seq ∨ i ∈ ([] : List Int) then 1 else 0 := fun i => by
        rw [getI_upd, getI_upd]
        by_cases h : i = x.snap.seq
        · simp [h]
        · simp [h, getI]
      have hL := check_l1 x a1 (by omega) x.segs.length 0 fuelN 0 _ [] none (by omega) (by unfold fuelN; omega) hm (fun _ => rfl) (fun h => by omega)
      rw [show ((0 : Nat) : Int) = 0 from rfl, List.drop_zero] at hL
      rw [hL]
      have hg : getI (updI [] 0 1) x.snap.seq = 0 := by rw [getI_upd, if_neg (by omega)]; rfl
      rw [hg, if_pos b1, if_pos b2]
      have : ¬ x.snap.seq = 0 := by omega
      simp [this]
  · have hh2 : headM x = false := by simpa using hh
    rw [hh2, Bool.false_and, if_neg (by decide)]
    unfold headM at hh
    rw [decide_eq_true_eq] at hh
    by_cases a1 : 1 ≤ x.next ∧ x.next ≤ 1073741824
    case neg => simp only [Bool.cond_decide, Bool.cond_not]; rw [if_neg a1]
    have w2 : IntKind.wrap .i64 (x.next - 1) = x.next - 1 := w64i (by omega)
    rw [w2]
    by_cases b0 : x.snap.seq = 0 <;> by_cases b1 : x.snap.fmt = 0 <;> simp only [b0, b1, decide_true, decide_false, Bool.and_true, Bool.true_and, Bool.and_false, Bool.false_and, Bool.not_true, Bool.not_false, Bool.cond_decide, Bool.cond_not, cond_true, cond_false] <;> (repeat' split) <;> first | rfl | (exfalso; omega)
/-! ### The reference -/
theorem p_file (x : Mf) (hn : 1 ≤ x.next ∧ x.next ≤ 1073741824) (s f : Int) : m_ref11_file x s f = some (decide ((1 ≤ s ∧ s ≤ x.next - 1) ∧ (1 ≤ f ∧ f ≤ 2))) := by
  have w2 : IntKind.wrap .i64 (x.next - 1) = x.next - 1 := w64i (by omega)
  unfold m_ref11_file
  rw [p_within11, Option.bind_some, w2]
  simp only [Bool.cond_decide]
  (repeat' split) <;> (refine congrArg some ?_; rw [Bool.eq_iff_iff]; simp only [decide_eq_true_eq, true_iff, Bool.false_eq_true, false_iff]; omega)
theorem ref_seg_l1 (x : Mf) (k : Nat) (e : Sg) (hl : x.segs.length ≤ 1000) (hk : k < x.segs.length) (hb : ∀ p, x.segs[k - 1]? = some p → 0 < k → IntKind.wrap .i64 (p.first + p.count) = p.first + p.count) : ∀ (q j n : Nat) (v : Bool), q + j = k → q < n →
    m_ref11_seg_l1 x k e n v j = some (decide (e.seq ∉ ((x.segs.take k).drop j).map Sg.seq ∧ ((1 ≤ e.count ∧ e.count ≤ 4) ∨ (e.count = -1 ∧ x.segs.drop (k + 1) = [])) ∧ (k = 0 ∨ (x.segs[k - 1]?).map (fun p => p.first + p.count) = some e.first))) := by
  have w3 : IntKind.wrap .i64 ((x.segs.length : Int) - 1) = (x.segs.length : Int) - 1 := w64i (by omega)
  have w4 : IntKind.wrap .i64 ((k : Int) - 1) = (k : Int) - 1 := w64i (by omega)
  have hnil : x.segs.drop (k + 1) = [] ↔ (k : Int) = (x.segs.length : Int) - 1 := by rw [drop_nil_iff]; omega
  intro q
  induction q with
  | zero =>
    intro j n v hj hq
    obtain ⟨n, rfl⟩ : ∃ n', n = n' + 1 := ⟨n - 1, by omega⟩
    rw [m_ref11_seg_l1, decide_eq_false (show ¬ (j : Int) < (k : Int) by omega), cond_false, w4, w3, List.drop_eq_nil_of_le (by rw [List.length_take]; omega)]
    simp only [p_within11, Option.bind_some, hnil]
    rcases Nat.eq_zero_or_pos k with hk0 | hk0
    · subst hk0
      rw [decide_eq_false (by decide), cond_false]
      simp only [Bool.cond_decide]
      (repeat' split) <;> (refine congrArg some ?_; rw [Bool.eq_iff_iff]; simp only [decide_eq_true_eq, true_iff, Bool.false_eq_true, false_iff, List.map_nil, List.not_mem_nil, not_false_eq_true, true_and, true_or, and_true]; omega)
    · obtain ⟨p, hp⟩ : ∃ p, x.segs[k - 1]? = some p := ⟨_, List.getElem?_eq_getElem (by omega)⟩
      have hi : idx x.segs ((k : Int) - 1) = some p := by
        have : (k : Int) - 1 = ((k - 1 : Nat) : Int) := by omega
        rw [this, idx_nat, hp]
      rw [decide_eq_true (show (0 : Int) < (k : Int) by omega), cond_true, hi, Option.bind_some, Option.bind_some, hb p hp hk0, hp]
      simp only [Bool.cond_decide, Option.map_some, Option.some.injEq]
      (repeat' split) <;> (refine congrArg some ?_; rw [Bool.eq_iff_iff]; simp only [decide_eq_true_eq, true_iff, Bool.false_eq_true, false_iff, List.map_nil, List.not_mem_nil, not_false_eq_true, true_and]; omega)
  | succ q ih =>
    intro j n v hj hq
    obtain ⟨n, rfl⟩ : ∃ n', n = n' + 1 := ⟨n - 1, by omega⟩
    obtain ⟨f, hf, hd⟩ := drop_step (l := x.segs.take k) (k := j) (by rw [List.length_take]; omega)
    have hf2 : x.segs[j]? = some f := by rw [List.getElem?_take_of_lt (by omega)] at hf; exact hf
    have w1 : IntKind.wrap .i64 ((j : Int) + 1) = ((j + 1 : Nat) : Int) := by rw [w64i (by omega)]; omega
    rw [m_ref11_seg_l1, decide_eq_true (show (j : Int) < (k : Int) by omega), cond_true, idx_nat, hf2, Option.bind_some, w1, ih (j + 1) n v (by omega) (by omega), hd]
    by_cases h : f.seq = e.seq
    · rw [decide_eq_true h, cond_true, decide_eq_false (fun h' => h'.1 (by rw [List.map_cons, h]; exact List.mem_cons_self ..))]
    · rw [decide_eq_false h, cond_false]
      congr 2
      simp only [List.map_cons, List.mem_cons, not_or, eq_iff_iff]
      exact ⟨fun h' => ⟨⟨fun e' => h e'.symm, h'.1⟩, h'.2⟩, fun h' => ⟨h'.1.2, h'.2⟩⟩
theorem ref_seg (x : Mf) (hn : 1 ≤ x.next ∧ x.next ≤ 1073741824) (k : Nat) (e : Sg) (hl : x.segs.length ≤ 1000) (he : x.segs[k]? = some e) (pe : Option Int) (hpe : pe = if k = 0 then none else (x.segs[k - 1]?).map (fun p => p.first + p.count)) (hb : ∀ p, x.segs[k - 1]? = some p → 0 < k → IntKind.wrap .i64 (p.first + p.count) = p.first + p.count) :
    m_ref11_seg x k = some (segB x.next x.snap.seq ((x.segs.take k).map Sg.seq) pe e (x.segs.drop (k + 1))) := by
  have hk : k < x.segs.length := (List.getElem?_eq_some_iff.1 he).1
  unfold m_ref11_seg segB
  have hL := ref_seg_l1 x k e hl hk hb k 0 fuelN false (by omega) (by unfold fuelN; omega)
  rw [show ((0 : Nat) : Int) = 0 from rfl, List.drop_zero] at hL
  rw [idx_nat, he, Option.bind_some, p_file x hn, Option.bind_some, p_within11, Option.bind_some, hL]
  have hp : (pe = none ∨ pe = some e.first) ↔ (k = 0 ∨ (x.segs[k - 1]?).map (fun p => p.first + p.count) = some e.first) := by
    rw [hpe]
    rcases Nat.eq_zero_or_pos k with hk0 | hk0
    · simp [hk0]
    · obtain ⟨p, hp⟩ : ∃ p, x.segs[k - 1]? = some p := ⟨_, List.getElem?_eq_getElem (by omega)⟩
      rw [if_neg (by omega), hp]
      simp
      omega
  simp only [hp, Bool.cond_decide, Bool.cond_not]
  (repeat' split) <;> (refine congrArg some ?_; rw [Bool.eq_iff_iff]; simp only [decide_eq_true_eq, Bool.false_eq_true, false_iff]) <;> first | (rename_i h1 h2 h3; exact ⟨fun h => ⟨h1.1, h1.2, h2, h.1, h3, h.2⟩, fun h => ⟨h.2.2.2.1, h.2.2.2.2.2⟩⟩) | (rename_i h1 h2 h3; exact fun h => h3 h.2.2.2.2.1) | (rename_i h1 h2; exact fun h => h.2.2.1 h2) | (rename_i h1; exact fun h => h1 ⟨h.1, h.2.1⟩)
theorem ref_check_l1 (x : Mf) (hn : 1 ≤ x.next ∧ x.next ≤ 1073741824) (hl : x.segs.length ≤ 1000) : ∀ (q k n : Nat) (v : Int), q + k = x.segs.length → q < n → (∀ p, x.segs[k - 1]? = some p → 0 < k → IntKind.wrap .i64 (p.first + p.count) = p.first + p.count) →
    m_ref11_Check_l1 x n v k = some (if chkB x.next x.snap.seq ((x.segs.take k).map Sg.seq) (if k = 0 then none else (x.segs[k - 1]?).map (fun p => p.first + p.count)) (x.segs.drop k) = true then 0 else 2) := by
  intro q
  induction q with
  | zero =>
    intro k n v hk hq _
    obtain ⟨n, rfl⟩ : ∃ n', n = n' + 1 := ⟨n - 1, by omega⟩
    rw [m_ref11_Check_l1, decide_eq_false (show ¬ (k : Int) < (x.segs.length : Int) by omega), cond_false, List.drop_eq_nil_of_le (by omega)]
    rfl
  | succ q ih =>
    intro k n v hk hq hb
    obtain ⟨n, rfl⟩ : ∃ n', n = n' + 1 := ⟨n - 1, by omega⟩
    obtain ⟨e, he, hd⟩ := drop_step (show k < x.segs.length by omega)
    have w1 : IntKind.wrap .i64 ((k : Int) + 1) = ((k + 1 : Nat) : Int) := by rw [w64i (by omega)]; omega
    rw [m_ref11_Check_l1, decide_eq_true (show (k : Int) < (x.segs.length : Int) by omega), cond_true, ref_seg x hn k e hl he _ rfl hb, Option.bind_some, hd, chkB, w1]
    cases hs : segB x.next x.snap.seq ((x.segs.take k).map Sg.seq) (if k = 0 then none else (x.segs[k - 1]?).map (fun p => p.first + p.count)) e (x.segs.drop (k + 1)) with
    | false => rfl
    | true =>
      have hs' := hs
      unfold segB at hs'
      rw [decide_eq_true_eq] at hs'
      obtain ⟨s1, s2, s3, s4, s5, s6, s7⟩ := hs'
      rw [Bool.not_true, cond_false, Bool.true_and, ih (k + 1) n v (by omega) (by omega) (fun p hp _ => by
        rw [Nat.add_sub_cancel, he] at hp
        cases hp
        exact w64i (by omega)), if_neg (by omega : ¬ k + 1 = 0), Nat.add_sub_cancel, he, List.take_add_one, he]
      simp
theorem ref_check_l2 (x : Mf) : ∀ n a b, m_ref11_Check_l2 x n a b = m_ref11_Check_l1 x n a b := by
  intro n
  induction n with
  | zero => intros; rfl
  | succ n ih => intro a b; rw [m_ref11_Check_l2, m_ref11_Check_l1]; simp only [ih]
theorem p_Check11 (x : Mf) : m_ref11_Check x = some (errM x) := by
  unfold m_ref11_Check errM rightM
  simp only [p_within11, Option.bind_some, ref_check_l2]
  by_cases a1 : 1 ≤ x.next ∧ x.next ≤ 1073741824
  case neg =>
    have hh : headM x = false := by unfold headM; rw [decide_eq_false (fun h => a1 h.1)]
    rw [hh, Bool.false_and, if_neg (by decide)]
    simp only [Bool.cond_decide, Bool.cond_not]
    rw [if_neg a1]
  rw [p_file x a1]
  by_cases hh : headM x = true
  · rw [hh, Bool.true_and]
    have h := hh
    unfold headM at h
    rw [decide_eq_true_eq] at h
    obtain ⟨_, a2, a3, a4, a5⟩ := h
    have hl := ref_check_l1 x a1 (by omega) x.segs.length 0 fuelN 0 (by omega) (by unfold fuelN; omega) (fun p _ h => by omega)
    have e0 : ((0 : Nat) : Int) = 0 := rfl
    rw [e0, if_pos rfl, List.take_zero, List.map_nil, List.drop_zero] at hl
    rw [hl]
    by_cases b0 : x.snap.seq = 0 <;> by_cases b1 : x.snap.fmt = 0 <;> simp only [b0, b1, decide_true, decide_false, Bool.and_true, Bool.true_and, Bool.and_false, Bool.false_and, Bool.not_true, Bool.not_false, Bool.cond_decide, Bool.cond_not, cond_true, cond_false, Option.bind_some] <;> (repeat' split) <;> first | rfl | (exfalso; omega)
  · have hh2 : headM x = false := by simpa using hh
    rw [hh2, Bool.false_and, if_neg (by decide)]
    unfold headM at hh
    rw [decide_eq_true_eq] at hh
    by_cases b0 : x.snap.seq = 0 <;> by_cases b1 : x.snap.fmt = 0 <;> simp only [b0, b1, decide_true, decide_false, Bool.and_true, Bool.true_and, Bool.and_false, Bool.false_and, Bool.not_true, Bool.not_false, Bool.cond_decide, Bool.cond_not, cond_true, cond_false, Option.bind_some] <;> (repeat' split) <;> first | rfl | (exfalso; omega)
end Go.Proofs.YtofheinbbefbcaaDoor
/- Layer 11: a manifest's bytes, in plain terms. -/
namespace Go.Proofs.YtofheinbbefbcaaDoor
open Go Go.RowKit
set_option maxRecDepth 100000
/-! ### Numbers and their bytes -/
theorem shortL_cons (x : Int) (l : List Int) : shortL (x :: l) = short1 x.toNat ++ shortL l := rfl
theorem shortL_app (l m : List Int) : shortL (l ++ m) = shortL l ++ shortL m := by unfold shortL; rw [List.flatMap_append]
theorem isN_mem {l : List Int} : isN l = true ↔ ∀ x ∈ l, 0 ≤ x ∧ x ≤ 1073741824 := by
  unfold isN
  rw [Bool.not_eq_true', List.any_eq_false]
  exact ⟨fun h x hx => badN_false.1 (by simpa using h x hx), fun h x hx => by rw [badN_false.2 (h x hx)]; decide⟩
theorem isN_cons {x : Int} {l : List Int} (h : isN (x :: l) = true) : (0 ≤ x ∧ x ≤ 1073741824) ∧ isN l = true := by
  rw [isN_mem] at h
  exact ⟨h x (List.mem_cons_self ..), isN_mem.2 fun y hy => h y (List.mem_cons_of_mem _ hy)⟩
theorem shortL_len : ∀ l : List Int, (shortL l).length ≤ 5 * l.length
  | [] => by simp [shortL]
  | x :: l => by rw [shortL_cons, List.length_append, short_len, List.length_cons]; have := shortL_len l; have := topK_le x.toNat; omega
theorem tks_back (r : List UInt8) : ∀ (l acc : List Int), isN l = true → tksGo l.length acc (shortL l ++ r) = (acc ++ l, r, 0)
  | [], acc, _ => by simp [tksGo, shortL]
  | x :: l, acc, h => by
    obtain ⟨hx, hl⟩ := isN_cons h
    have e := tk_short x.toNat (by omega) (shortL l ++ r)
    rw [shortL_cons, List.append_assoc]
    show tksGo (l.length + 1) acc _ = _
    rw [tksGo_more _ _ _ (by rw [e]), e]
    dsimp only
    rw [tks_back r l _ hl, show ((x.toNat : Nat) : Int) = x by omega]
    simp
theorem tks_some (l : List Int) (r : List UInt8) (k : Nat) (hk : k ≤ l.length) (h : isN l = true) : tksN (shortL l ++ r) k = (l.take k, shortL (l.drop k) ++ r, 0) := by
  have h1 : isN (l.take k) = true := isN_mem.2 fun x hx => isN_mem.1 h x (List.mem_of_mem_take hx)
  have := tks_back (shortL (l.drop k) ++ r) (l.take k) [] h1
  rw [List.length_take, Nat.min_eq_left hk, ← List.append_assoc, ← shortL_app, List.take_append_drop, List.nil_append] at this
  exact this
theorem tks_inv : ∀ (k : Nat) (acc : List Int) (b : List UInt8), (tksGo k acc b).2.2 = 0 → ∃ m, m.length = k ∧ isN m = true ∧ (tksGo k acc b).1 = acc ++ m ∧ b = shortL m ++ (tksGo k acc b).2.1
  | 0, acc, b, _ => ⟨[], rfl, rfl, by simp [tksGo], by simp [tksGo, shortL]⟩
  | k + 1, acc, b, h => by
    by_cases he : (tkN b).2.2 = 0
    · rw [tksGo_more k acc b he] at h ⊢
      obtain ⟨m, h1, h2, h3, h4⟩ := tks_inv k _ _ h
      obtain ⟨X, hX, hX2, hb⟩ := tk_inv b (tkN b).1 (tkN b).2.1 (by rw [← he])
      refine ⟨(tkN b).1 :: m, by simp [h1], isN_mem.2 fun x hx => ?_, by rw [h3]; simp, ?_⟩
      · rcases List.mem_cons.1 hx with rfl | hx
        · omega
        · exact isN_mem.1 h2 x hx
      · rw [shortL_cons, List.append_assoc, ← h4, hX, Int.toNat_natCast]
        exact hb
    · rw [tksGo_bad k acc b he] at h
      exact (he h).elim
theorem tksN_inv {b : List UInt8} {k : Nat} (h : (tksN b k).2.2 = 0) : (tksN b k).1.length = k ∧ isN (tksN b k).1 = true ∧ b = shortL (tksN b k).1 ++ (tksN b k).2.1 := by
  obtain ⟨m, h1, h2, h3, h4⟩ := tks_inv k [] b h
  rw [List.nil_append] at h3
  unfold tksN
  rw [h3]
  exact ⟨h1, h2, h4⟩
theorem tksGo_rest : ∀ (q : Nat) (acc : List Int) (r : List UInt8), (tksGo q acc r).2.1.length ≤ r.length
  | 0, acc, r => by simp [tksGo]
  | q + 1, acc, r => by
    by_cases he : (tkN r).2.2 = 0
    · rw [tksGo_more q acc r he]
      exact Nat.le_trans (tksGo_rest q _ _) (tkN_rest r)
    · rw [tksGo_bad q acc r he]; simp
/-! ### A manifest's numbers -/
theorem chk_all (nx sn : Int) : ∀ (l : List Sg) (qs : List Int) (pe : Option Int), chkB nx sn qs pe l = true → ∀ s ∈ l, (1 ≤ s.seq ∧ s.seq ≤ nx - 1) ∧ (1 ≤ s.fmt ∧ s.fmt ≤ 2) ∧ (1 ≤ s.first ∧ s.first ≤ 1073741820) ∧ (-1 ≤ s.count ∧ s.count ≤ 4)
  | [], _, _, _ => fun s hs => by cases hs
  | e :: l, qs, pe, h => fun s hs => by
    rw [chkB, Bool.and_eq_true] at h
    rcases List.mem_cons.1 hs with rfl | hs
    · have := h.1
      unfold segB at this
      rw [decide_eq_true_eq] at this
      obtain ⟨h1, h2, _, _, h5, h6, _⟩ := this
      exact ⟨h1, h2, h5, by omega⟩
    · exact chk_all nx sn l _ _ h.2 s hs
theorem right_iff11 (x : Mf) : rightM x = true ↔ headM x = true ∧ chkB x.next x.snap.seq [] none x.segs = true := by unfold rightM; rw [Bool.and_eq_true]
theorem head_iff (x : Mf) : headM x = true ↔ ((1 ≤ x.next ∧ x.next ≤ 1073741824) ∧ (0 ≤ x.term ∧ x.term ≤ 1073741824) ∧ (0 ≤ x.vote ∧ x.vote ≤ 5) ∧ x.segs.length ≤ 60 ∧ ((x.snap.seq = 0 ∧ x.snap.fmt = 0) ∨ (1 ≤ x.snap.seq ∧ x.snap.seq ≤ x.next - 1) ∧ (1 ≤ x.snap.fmt ∧ x.snap.fmt ≤ 2))) := decide_eq_true_iff
def numsL (x : Mf) : List Int := numsH x ++ x.segs.flatMap numsOf
theorem numsL_len (x : Mf) : (numsL x).length = 6 + 4 * x.segs.length := by
  unfold numsL
  rw [List.length_append, nums_len]
  rfl
theorem numsOf_ok {s : Sg} (h : -1 ≤ s.count ∧ s.count ≤ 4) : numsOf s = [s.seq, s.fmt, s.first, s.count + 1] := by
  unfold numsOf
  rw [w64i (by omega)]
theorem isN_nums {x : Mf} (h : rightM x = true) : isN (numsL x) = true := by
  obtain ⟨h1, h2⟩ := (right_iff11 x).1 h
  obtain ⟨a1, a2, a3, a4, a5⟩ := (head_iff x).1 h1
  refine isN_mem.2 fun y hy => ?_
  unfold numsL at hy
  rcases List.mem_append.1 hy with hy | hy
  · simp only [numsH, List.mem_cons, List.not_mem_nil, or_false] at hy
    rcases hy with rfl | rfl | rfl | rfl | rfl | rfl <;> omega
  · obtain ⟨s, hs, hy⟩ := List.mem_flatMap.1 hy
    obtain ⟨b1, b2, b3, b4⟩ := chk_all _ _ _ _ _ h2 s hs
    rw [numsOf_ok b4] at hy
    simp only [List.mem_cons, List.not_mem_nil, or_false] at hy
    rcases hy with rfl | rfl | rfl | rfl <;> omega
def payM (x : Mf) : List UInt8 := 77 :: shortL (numsL x)
def bytesM (x : Mf) : List UInt8 := putN (payM x)
theorem payM_len (x : Mf) : (payM x).length ≤ 31 + 20 * x.segs.length := by
  unfold payM
  have := shortL_len (numsL x)
  rw [numsL_len] at this
  rw [List.length_cons]
  omega
def putM (x : Mf) : List UInt8 × Int := if rightM x = true then (bytesM x, 0) else ([], 2)
theorem putN_len' (l : List UInt8) : (putN l).length = l.length + 4 := by unfold putN; rw [List.length_append]; rfl
theorem put_r1 : ∀ (l : List Int) (acc : List UInt8), isN l = true → acc.length + 5 * l.length ≤ 100000 → m_manifest_Put_r1 l acc = some (putN (acc ++ shortL l), 0)
  | [], acc, _, ha => by
    have hC : m_crc_Put acc = some (putN acc) := by unfold m_crc_Put; rw [decide_eq_true (by simp at ha; omega)]; rfl
    rw [m_manifest_Put_r1, hC, Option.bind_some]
    simp [shortL]
  | x :: l, acc, h, ha => by
    obtain ⟨hx, hl⟩ := isN_cons h
    have hS : m_num_Short [x] = some (short1 x.toNat, 0) := by
      have h1 : isN [x] = true := isN_mem.2 fun y hy => by rw [List.mem_singleton.1 hy]; exact hx
      unfold m_num_Short shortR errN
      rw [h1, if_pos rfl, if_pos rfl]
      simp [shortL]
    have h5 : (short1 x.toNat).length ≤ 5 := by rw [short_len]; have := topK_le x.toNat; omega
    rw [List.length_cons] at ha
    rw [m_manifest_Put_r1, hS, Option.bind_some]
    dsimp only
    rw [fewI_ok _ (by rw [List.length_append]; omega), Option.bind_some, put_r1 l _ hl (by rw [List.length_append]; omega), shortL_cons, List.append_assoc]
theorem p_Put (x : Mf) : m_manifest_Put x = some (putM x) := by
  unfold m_manifest_Put putM
  rw [p_Check, Option.bind_some]
  unfold errM
  by_cases h : rightM x = true
  · rw [if_pos h, if_pos h, decide_eq_false (by decide), cond_false]
    have hl := ((head_iff x).1 ((right_iff11 x).1 h).1).2.2.2.1
    have hi : m_it_numbers x = some (numsL x) := if_pos (by omega)
    rw [hi, Option.bind_some, put_r1 _ _ (isN_nums h) (by rw [numsL_len]; simp; omega)]
    rfl
  · rw [if_neg h, if_neg h]
    rfl
theorem put11_l1 (x : Mf) (h : rightM x = true) (hl : x.segs.length ≤ 60) : ∀ (q k n : Nat) (v : Int), q + k = x.segs.length → q < n →
    m_ref11_Put_l1 x n (numsH x ++ (x.segs.take k).flatMap numsOf) k = some (bytesM x, 0) := by
  intro q
  induction q with
  | zero =>
    intro k n v hk hq
    obtain ⟨n, rfl⟩ : ∃ n', n = n' + 1 := ⟨n - 1, by omega⟩
    rw [m_ref11_Put_l1, decide_eq_false (show ¬ (k : Int) < (x.segs.length : Int) by omega), cond_false, List.take_of_length_le (by omega)]
    have hS : m_ref01_Short (numsH x ++ x.segs.flatMap numsOf) = some (shortL (numsL x), 0) := by
      show m_ref01_Short (numsL x) = _
      unfold m_ref01_Short shortR errN
      rw [isN_nums h, if_pos rfl, if_pos rfl, decide_eq_true (by rw [numsL_len]; omega)]
      rfl
    have hp := payM_len x
    have hC : m_ref03_Put (payM x) = some (bytesM x) := by unfold m_ref03_Put; rw [decide_eq_true (by omega)]; rfl
    rw [hS, Option.bind_some]
    dsimp only
    have e : ([77] : List UInt8) ++ shortL (numsL x) = payM x := rfl
    rw [e, fewI_ok _ (by omega), Option.bind_some, hC]
    rfl
  | succ q ih =>
    intro k n v hk hq
    obtain ⟨n, rfl⟩ : ∃ n', n = n' + 1 := ⟨n - 1, by omega⟩
    obtain ⟨e, he, hd⟩ := drop_step (show k < x.segs.length by omega)
    have w1 : IntKind.wrap .i64 ((k : Int) + 1) = ((k + 1 : Nat) : Int) := by rw [w64i (by omega)]; omega
    have hx : numsH x ++ (x.segs.take k).flatMap numsOf ++ numsOf e = numsH x ++ (x.segs.take (k + 1)).flatMap numsOf := by rw [List.append_assoc, List.take_add_one, he]; simp
    have hlen : (numsH x ++ (x.segs.take (k + 1)).flatMap numsOf).length ≤ 1000 := by rw [List.length_append, nums_len, List.length_take]; show 6 + _ ≤ 1000; omega
    rw [m_ref11_Put_l1, decide_eq_true (show (k : Int) < (x.segs.length : Int) by omega), cond_true, idx_nat, he, Option.bind_some]
    show (fewI (_ ++ numsOf e)).bind _ = _
    rw [hx, fewI_ok _ (by omega), Option.bind_some, w1, ih (k + 1) n v (by omega) (by omega)]
theorem p_Put11 (x : Mf) : m_ref11_Put x = some (putM x) := by
  unfold m_ref11_Put putM
  rw [p_Check11, Option.bind_some]
  unfold errM
  by_cases h : rightM x = true
  · rw [if_pos h, if_pos h, decide_eq_false (by decide), cond_false]
    have hl := ((head_iff x).1 ((right_iff11 x).1 h).1).2.2.2.1
    have := put11_l1 x h hl x.segs.length 0 fuelN 0 (by omega) (by unfold fuelN; omega)
    rw [List.take_zero, List.flatMap_nil, List.append_nil] at this
    exact this
  · rw [if_neg h, if_neg h]
    rfl
/-! ### What is taken -/
def zeroM : Mf := ⟨0, 0, 0, ⟨0, 0⟩, []⟩
/-- Bytes that are a manifest's. -/
structure IsM (b : List UInt8) (x : Mf) : Prop where
  right : rightM x = true
  eq : b = bytesM x
theorem takeN_inv {b p : List UInt8} (h : takeN b = some p) : b = putN p ∧ b.length = p.length + 4 := by
  unfold takeN at h
  split at h
  · cases h
  · rename_i h4
    split at h
    · rename_i h5
      have h := Option.some.inj h
      have e : b = putN p := by
        unfold putN
        rw [← h, h5, List.take_append_drop]
      exact ⟨e, by rw [e, putN_len']⟩
    · cases h
/-- Segments out of numbers, four each. -/
def segsOf : List Int → List Sg
  | a :: b :: c :: d :: l => ⟨a, b, c, IntKind.wrap .i64 (d - 1)⟩ :: segsOf l
  | _ => []
theorem segs_nums : ∀ l : List Sg, (∀ s ∈ l, -1 ≤ s.count ∧ s.count ≤ 4) → segsOf (l.flatMap numsOf) = l
  | [], _ => rfl
  | s :: l, h => by
    have h1 := h s (List.mem_cons_self ..)
    rw [List.flatMap_cons, numsOf_ok h1]
    show segsOf (s.seq :: s.fmt :: s.first :: (s.count + 1) :: l.flatMap numsOf) = _
    rw [segsOf, segs_nums l fun t ht => h t (List.mem_cons_of_mem _ ht), show s.count + 1 - 1 = s.count by omega, w64i (by omega)]
theorem four_of {k : Nat} {l : List Int} (h : l.length = 4 * (k + 1)) : ∃ a b c d m, l = a :: b :: c :: d :: m ∧ m.length = 4 * k := by
  rcases l with _ | ⟨a, _ | ⟨b, _ | ⟨c, _ | ⟨d, l⟩⟩⟩⟩ <;> simp only [List.length_nil, List.length_cons] at h
  · omega
  · omega
  · omega
  · omega
  · exact ⟨a, b, c, d, l, rfl, by omega⟩
def doneM (b : List UInt8) (m : Mf) : Mf × Int := if rightM m = true ∧ b = bytesM m then (m, 0) else (zeroM, 11)
theorem take_r1 (b : List UInt8) (n1 n2 n3 n4 n5 : Int) (l : List Int) : ∀ (k j q : Nat) (v : List Sg), l.length = 4 * k + j → k ≤ q → v.length + k ≤ 1000000 →
    m_manifest_Take_r1 b n1 n2 n3 n4 n5 (chunksI l q j) v = some (doneM b ⟨n1, n2, n3, ⟨n4, n5⟩, v ++ segsOf (l.drop j)⟩) := by
  intro k
  induction k with
  | zero =>
    intro j q v hj hq hv
    have h0 : chunksI l q j = [] := by
      cases q with
      | zero => rfl
      | succ q => rw [chunksI, if_neg (by omega)]
    rw [h0, m_manifest_Take_r1, p_Put, Option.bind_some, List.drop_eq_nil_of_le (by omega)]
    have e : segsOf [] = [] := rfl
    rw [e, List.append_nil]
    unfold putM doneM
    by_cases h : rightM ⟨n1, n2, n3, ⟨n4, n5⟩, v⟩ = true
    · rw [if_pos h, decide_eq_true rfl, cond_true]
      unfold m_bytes_Equal
      rw [Option.bind_some]
      by_cases h2 : b = bytesM ⟨n1, n2, n3, ⟨n4, n5⟩, v⟩
      · rw [decide_eq_true h2, cond_true, if_pos ⟨h, h2⟩]
      · rw [decide_eq_false h2, cond_false, if_neg fun h' => h2 h'.2]; rfl
    · rw [if_neg h, decide_eq_false (by decide), cond_false, if_neg fun h' => h h'.1]; rfl
  | succ k ih =>
    intro j q v hj hq hv
    obtain ⟨q, rfl⟩ : ∃ q', q = q' + 1 := ⟨q - 1, by omega⟩
    obtain ⟨a, c, d, e, m, hm, hml⟩ := four_of (k := k) (l := l.drop j) (by rw [List.length_drop]; omega)
    have hd : l.drop (j + 4) = m := by rw [← List.drop_drop, hm]; rfl
    rw [chunksI, if_pos (by omega), m_manifest_Take_r1, hm]
    show (some a).bind _ = _
    rw [Option.bind_some]
    show (some c).bind _ = _
    rw [Option.bind_some]
    show (some d).bind _ = _
    rw [Option.bind_some]
    show (some e).bind _ = _
    rw [Option.bind_some, fewI_ok _ (by rw [List.length_append]; simp; omega), Option.bind_some, ih (j + 4) q _ (by omega) (by omega) (by rw [List.length_append]; simp; omega), hd, segsOf, List.append_assoc]
    rfl
theorem six_of {l : List Int} (h : l.length = 6) : ∃ a b c d e f, l = [a, b, c, d, e, f] := by
  rcases l with _ | ⟨a, _ | ⟨b, _ | ⟨c, _ | ⟨d, _ | ⟨e, _ | ⟨f, _ | ⟨g, l⟩⟩⟩⟩⟩⟩⟩ <;> simp only [List.length_nil, List.length_cons] at h
  · omega
  · omega
  · omega
  · omega
  · omega
  · omega
  · exact ⟨a, b, c, d, e, f, rfl⟩
  · omega
theorem tkN_num {b : List UInt8} {k : Nat} (h : b.length ≤ 100000) (hk : k ≤ 1000000) : m_num_Takes b (k : Int) = some (tksN b k) := by
  unfold m_num_Takes
  rw [decide_eq_true ⟨h, by omega⟩, Int.toNat_natCast]
  rfl
theorem tkN_num01 {b : List UInt8} {k : Nat} (h : b.length ≤ 100000) (hk : k ≤ 1000000) : m_ref01_Takes b (k : Int) = some (tksN b k) := by
  unfold m_ref01_Takes
  rw [decide_eq_true ⟨h, by omega⟩, Int.toNat_natCast]
  rfl
/-- What is taken: it may be, and is those bytes; or nothing. -/
def TakesM (b : List UInt8) (r : Option (Mf × Int)) : Prop := (∃ x, r = some (x, 0) ∧ IsM b x) ∨ r = some (zeroM, 11)
theorem TakesM.done (b : List UInt8) (m : Mf) : TakesM b (some (doneM b m)) := by
  unfold doneM
  by_cases h : rightM m = true ∧ b = bytesM m
  · rw [if_pos h]; exact .inl ⟨m, rfl, h.1, h.2⟩
  · rw [if_neg h]; exact .inr rfl
theorem take_ok (b : List UInt8) (hb : b.length ≤ 10000) : TakesM b (m_manifest_Take b) := by
  have hT : m_crc_Take b = some ((takeN b).getD [], (takeN b).isSome) := by unfold m_crc_Take; rw [decide_eq_true (by omega)]; rfl
  unfold m_manifest_Take
  rw [hT, Option.bind_some]
  cases hp : takeN b with
  | none => exact .inr rfl
  | some p =>
    obtain ⟨hbp, hlen⟩ := takeN_inv hp
    dsimp only [Option.isSome_some, Option.getD_some]
    rw [Bool.not_true, cond_false]
    by_cases h0 : p.length = 0
    · rw [decide_eq_true (by omega), cond_true]; exact .inr rfl
    rw [decide_eq_false (by omega), cond_false, show (1 : Int) = ((1 : Nat) : Int) from rfl, dropI_nat _ 1 (by omega), Option.bind_some]
    have hl1 : (p.drop 1).length ≤ 10000 := by rw [List.length_drop]; omega
    generalize p.drop 1 = b1 at hl1
    rw [show (6 : Int) = ((6 : Nat) : Int) from rfl, tkN_num (by omega) (by decide), Option.bind_some]
    by_cases he : (tksN b1 6).2.2 = 0
    case neg => rw [decide_eq_true (by simpa using he), cond_true]; exact .inr rfl
    obtain ⟨h6, hn, hbb⟩ := tksN_inv he
    rw [decide_eq_false (by simpa using he), cond_false]
    obtain ⟨n1, n2, n3, n4, n5, n6, hl6⟩ := six_of h6
    rw [hl6]
    show TakesM b ((some n6).bind _)
    rw [Option.bind_some]
    have hn6 : 0 ≤ n6 ∧ n6 ≤ 1073741824 := isN_mem.1 hn n6 (by rw [hl6]; simp)
    by_cases h60 : 60 < n6
    · rw [decide_eq_true h60, cond_true]; exact .inr rfl
    rw [decide_eq_false h60, cond_false, Option.bind_some]
    show TakesM b ((some n6).bind _)
    rw [Option.bind_some]
    have wn : IntKind.wrap .i64 (((6 : Nat) : Int) + IntKind.wrap .i64 (4 * n6)) = ((6 + 4 * n6.toNat : Nat) : Int) := by rw [w64i (n := 4 * n6) (by omega), w64i (by omega)]; omega
    rw [wn, tkN_num (by omega) (by omega), Option.bind_some]
    by_cases hf : (tksN b1 (6 + 4 * n6.toNat)).2.2 = 0
    case neg => rw [decide_eq_true (by simpa using hf), cond_true]; exact .inr rfl
    obtain ⟨g6, gn, gbb⟩ := tksN_inv hf
    rw [decide_eq_false (by simpa using hf), cond_false]
    show TakesM b ((some n1).bind _)
    rw [Option.bind_some]
    show TakesM b ((some n2).bind _)
    rw [Option.bind_some]
    show TakesM b ((some n3).bind _)
    rw [Option.bind_some]
    show TakesM b ((some n4).bind _)
    rw [Option.bind_some]
    show TakesM b ((some n5).bind _)
    rw [Option.bind_some, dropI_nat _ 6 (by omega), Option.bind_some]
    have hc : m_it_chunk ((tksN b1 (6 + 4 * n6.toNat)).1.drop 6) 4 = some (chunksI ((tksN b1 (6 + 4 * n6.toNat)).1.drop 6) ((tksN b1 (6 + 4 * n6.toNat)).1.drop 6).length 0) := if_pos ⟨rfl, by rw [List.length_drop]; omega⟩
    rw [hc, Option.bind_some, take_r1 b n1 n2 n3 n4 n5 _ n6.toNat 0 _ [] (by rw [List.length_drop]; omega) (by rw [List.length_drop]; omega) (by simp; omega)]
    exact TakesM.done _ _
theorem take_is {b : List UInt8} {x : Mf} (h : IsM b x) : m_manifest_Take b = some (x, 0) := by
  have hr := h.right
  obtain ⟨hh, hc⟩ := (right_iff11 x).1 hr
  have hl := ((head_iff x).1 hh).2.2.2.1
  have hN := isN_nums hr
  have hp := payM_len x
  have hT : m_crc_Take b = some (payM x, true) := by
    unfold m_crc_Take
    rw [h.eq, decide_eq_true (by unfold bytesM; rw [putN_len']; omega)]
    unfold bytesM
    rw [take_put]
    rfl
  have e1 : dropI (payM x) 1 = some (shortL (numsL x)) := dropI_nat _ 1 (by unfold payM; simp)
  have hsl := shortL_len (numsL x)
  rw [numsL_len] at hsl
  have t6 := tks_some (numsL x) [] 6 (by rw [numsL_len]; omega) hN
  have tA := tks_some (numsL x) [] (6 + 4 * x.segs.length) (by rw [numsL_len]; omega) hN
  rw [List.append_nil] at t6 tA
  have e6 : (numsL x).take 6 = numsH x := rfl
  have eA : (numsL x).take (6 + 4 * x.segs.length) = numsL x := List.take_of_length_le (by rw [numsL_len]; omega)
  have wn : IntKind.wrap .i64 (((6 : Nat) : Int) + IntKind.wrap .i64 (4 * (x.segs.length : Int))) = ((6 + 4 * x.segs.length : Nat) : Int) := by rw [w64i (n := 4 * (x.segs.length : Int)) (by omega), w64i (by omega)]; omega
  unfold m_manifest_Take
  rw [hT, Option.bind_some]
  dsimp only
  rw [Bool.not_true, cond_false, decide_eq_false (by unfold payM; simp; omega), cond_false, e1, Option.bind_some, show (6 : Int) = ((6 : Nat) : Int) from rfl, tkN_num (by omega) (by decide), t6, e6, Option.bind_some, decide_eq_false (by simp), cond_false]
  show (some (x.segs.length : Int)).bind _ = _
  rw [Option.bind_some, decide_eq_false (by omega), cond_false, Option.bind_some]
  show (some (x.segs.length : Int)).bind _ = _
  rw [Option.bind_some, wn, tkN_num (by omega) (by omega), tA, eA, Option.bind_some, decide_eq_false (by simp), cond_false]
  show (some x.next).bind _ = _
  rw [Option.bind_some]
  show (some x.term).bind _ = _
  rw [Option.bind_some]
  show (some x.vote).bind _ = _
  rw [Option.bind_some]
  show (some x.snap.seq).bind _ = _
  rw [Option.bind_some]
  show (some x.snap.fmt).bind _ = _
  rw [Option.bind_some, dropI_nat _ 6 (by rw [numsL_len]; omega), Option.bind_some]
  have hd : (numsL x).drop 6 = x.segs.flatMap numsOf := rfl
  have hcI : m_it_chunk (x.segs.flatMap numsOf) 4 = some (chunksI (x.segs.flatMap numsOf) (x.segs.flatMap numsOf).length 0) := if_pos ⟨rfl, by rw [nums_len]; omega⟩
  rw [hd, hcI, Option.bind_some, take_r1 b _ _ _ _ _ _ x.segs.length 0 _ [] (by rw [nums_len]; omega) (by rw [nums_len]; omega) (by simp; omega), List.drop_zero, segs_nums _ fun s hs => (chk_all _ _ _ _ _ hc s hs).2.2.2, List.nil_append]
  unfold doneM
  rw [if_pos ⟨hr, h.eq⟩]
/-! ### The reference -/
theorem take11_l1 (b : List UInt8) (r : List Int × List UInt8 × Int) (n1 n2 n3 n4 n5 n6 : Int) (hr : r.1 = [n1, n2, n3, n4, n5, n6]) (h6 : 0 ≤ n6 ∧ n6 ≤ 60) : ∀ (q k n : Nat) (v : Int) (rest : List UInt8) (l : List Sg), (q : Int) + k = n6 → q < n → rest.length ≤ 10000 → l.length = k →
    TakesM b (m_ref11_Take_l1 b r n1 n2 n3 n4 n5 n v rest k l) ∧ (∀ t : List Sg, (∀ s ∈ t, isN (numsOf s) = true ∧ -1 ≤ s.count ∧ s.count ≤ 4) → t.length = q → rest = shortL (t.flatMap numsOf) → m_ref11_Take_l1 b r n1 n2 n3 n4 n5 n v rest k l = some (doneM b ⟨n1, n2, n3, ⟨n4, n5⟩, l ++ t⟩)) := by
  intro q
  induction q with
  | zero =>
    intro k n v rest l hk hq hrl hll
    obtain ⟨n, rfl⟩ : ∃ n', n = n' + 1 := ⟨n - 1, by omega⟩
    have hX : m_ref11_Take_l1 b r n1 n2 n3 n4 n5 (n + 1) v rest k l = some (doneM b ⟨n1, n2, n3, ⟨n4, n5⟩, l⟩) := by
      rw [m_ref11_Take_l1, hr]
      show (some n6).bind _ = _
      rw [Option.bind_some, decide_eq_false (by omega), cond_false, p_Put11, Option.bind_some]
      unfold putM doneM
      by_cases h : rightM ⟨n1, n2, n3, ⟨n4, n5⟩, l⟩ = true
      · rw [if_pos h, decide_eq_false (fun h => h rfl), cond_false]
        by_cases h2 : b = bytesM ⟨n1, n2, n3, ⟨n4, n5⟩, l⟩
        · rw [decide_eq_false (by simp [h2]), cond_false, if_pos ⟨h, h2⟩]
        · rw [decide_eq_true (by simpa using fun e => h2 e.symm), cond_true, if_neg fun h' => h2 h'.2]; rfl
      · rw [if_neg h, decide_eq_true (by decide), cond_true, if_neg fun h' => h h'.1]; rfl
    refine ⟨by rw [hX]; exact TakesM.done _ _, fun t _ ht _ => ?_⟩
    rw [hX, List.eq_nil_of_length_eq_zero ht, List.append_nil]
  | succ q ih =>
    intro k n v rest l hk hq hrl hll
    obtain ⟨n, rfl⟩ : ∃ n', n = n' + 1 := ⟨n - 1, by omega⟩
    have w1 : IntKind.wrap .i64 ((k : Int) + 1) = ((k + 1 : Nat) : Int) := by rw [w64i (by omega)]; omega
    have hX : m_ref11_Take_l1 b r n1 n2 n3 n4 n5 (n + 1) v rest k l = if (tksN rest 4).2.2 = 0 then (match (tksN rest 4).1 with
        | [a, c, d, e] => m_ref11_Take_l1 b r n1 n2 n3 n4 n5 n v (tksN rest 4).2.1 ((k + 1 : Nat) : Int) (l ++ [⟨a, c, d, IntKind.wrap .i64 (e - 1)⟩])
        | _ => none) else some (zeroM, 11) := by
      rw [m_ref11_Take_l1, hr]
      show (some n6).bind _ = _
      rw [Option.bind_some, decide_eq_true (by omega), cond_true, show (4 : Int) = ((4 : Nat) : Int) from rfl, tkN_num01 (by omega) (by decide), Option.bind_some]
      by_cases he : (tksN rest 4).2.2 = 0
      · rw [if_pos he, decide_eq_false (by simpa using he), cond_false]
        obtain ⟨h4, _, _⟩ := tksN_inv he
        obtain ⟨a, c, d, e, m, hm, hml⟩ := four_of (k := 0) (l := (tksN rest 4).1) (by omega)
        obtain rfl := List.eq_nil_of_length_eq_zero hml
        rw [hm]
        show (some a).bind _ = _
        rw [Option.bind_some]
        show (some c).bind _ = _
        rw [Option.bind_some]
        show (some d).bind _ = _
        rw [Option.bind_some]
        show (some e).bind _ = _
        rw [Option.bind_some, fewI_ok _ (by rw [List.length_append]; simp; omega), Option.bind_some, w1]
      · rw [if_neg he, decide_eq_true (by simpa using he), cond_true]
        rfl
    rw [hX]
    refine ⟨?_, fun t ht htl hrest => ?_⟩
    · by_cases he : (tksN rest 4).2.2 = 0
      · rw [if_pos he]
        obtain ⟨h4, _, _⟩ := tksN_inv he
        obtain ⟨a, c, d, e, m, hm, hml⟩ := four_of (k := 0) (l := (tksN rest 4).1) (by omega)
        obtain rfl := List.eq_nil_of_length_eq_zero hml
        rw [hm]
        exact (ih (k + 1) n v _ _ (by omega) (by omega) (Nat.le_trans (tksGo_rest 4 [] rest) hrl) (by simp [hll])).1
      · rw [if_neg he]; exact .inr rfl
    · cases t with
      | nil => cases htl
      | cons s t =>
        obtain ⟨hs1, hs2⟩ := ht s (List.mem_cons_self ..)
        have hnum := tks_back (shortL (t.flatMap numsOf)) (numsOf s) [] hs1
        rw [← shortL_app, List.nil_append, numsOf_len, ← List.flatMap_cons, ← hrest] at hnum
        have hnum' : tksN rest 4 = (numsOf s, shortL (t.flatMap numsOf), 0) := hnum
        rw [hnum', if_pos rfl, numsOf_ok hs2]
        have := (ih (k + 1) n v (shortL (t.flatMap numsOf)) (l ++ [s]) (by omega) (by omega) (Nat.le_trans (by
          have := tksGo_rest 4 [] rest
          rw [show tksGo 4 [] rest = (numsOf s, shortL (t.flatMap numsOf), 0) from hnum] at this
          exact this) hrl) (by simp [hll])).2 t (fun u hu => ht u (List.mem_cons_of_mem _ hu)) (by simpa using htl) rfl
        rw [List.append_assoc] at this
        dsimp only
        rw [show s.count + 1 - 1 = s.count by omega, w64i (n := s.count) (by omega)]
        exact this
theorem take11_ok (b : List UInt8) (hb : b.length ≤ 10000) : TakesM b (m_ref11_Take b) := by
  have hT : m_ref03_Take b = some ((takeN b).getD [], (takeN b).isSome) := by unfold m_ref03_Take; rw [decide_eq_true (by omega)]; rfl
  unfold m_ref11_Take
  rw [hT, Option.bind_some]
  cases hp : takeN b with
  | none => exact .inr rfl
  | some p =>
    obtain ⟨hbp, hlen⟩ := takeN_inv hp
    dsimp only [Option.isSome_some, Option.getD_some]
    rw [Bool.not_true, cond_false]
    by_cases h0 : p.length = 0
    · rw [decide_eq_true (by omega), cond_true]; exact .inr rfl
    rw [decide_eq_false (by omega), cond_false, show (1 : Int) = ((1 : Nat) : Int) from rfl, dropI_nat _ 1 (by omega), Option.bind_some]
    have hl1 : (p.drop 1).length ≤ 10000 := by rw [List.length_drop]; omega
    generalize p.drop 1 = b1 at hl1
    rw [show (6 : Int) = ((6 : Nat) : Int) from rfl, tkN_num01 (by omega) (by decide), Option.bind_some]
    by_cases he : (tksN b1 6).2.2 = 0
    case neg => rw [decide_eq_true (by simpa using he), cond_true]; exact .inr rfl
    obtain ⟨h6, hn, hbb⟩ := tksN_inv he
    rw [decide_eq_false (by simpa using he), cond_false]
    obtain ⟨n1, n2, n3, n4, n5, n6, hl6⟩ := six_of h6
    have hn6 : 0 ≤ n6 ∧ n6 ≤ 1073741824 := isN_mem.1 hn n6 (by rw [hl6]; simp)
    have hX := fun h => take11_l1 b (tksN b1 6) n1 n2 n3 n4 n5 n6 hl6 h n6.toNat 0 fuelN 0 (tksN b1 6).2.1 [] (by omega) (by unfold fuelN; omega) (Nat.le_trans (tksGo_rest 6 [] b1) hl1) rfl
    have i5 : idx (tksN b1 6).1 5 = some n6 := by rw [hl6]; rfl
    have i0 : idx (tksN b1 6).1 0 = some n1 := by rw [hl6]; rfl
    have i1 : idx (tksN b1 6).1 ((1 : Nat) : Int) = some n2 := by rw [hl6]; rfl
    have i2 : idx (tksN b1 6).1 2 = some n3 := by rw [hl6]; rfl
    have i3 : idx (tksN b1 6).1 3 = some n4 := by rw [hl6]; rfl
    have i4 : idx (tksN b1 6).1 4 = some n5 := by rw [hl6]; rfl
    rw [i5, Option.bind_some]
    by_cases h60 : 60 < n6
    · rw [decide_eq_true h60, cond_true]; exact .inr rfl
    rw [decide_eq_false h60, cond_false, i0, Option.bind_some, i1, Option.bind_some, i2, Option.bind_some, i3, Option.bind_some, i4, Option.bind_some]
    exact (hX (by omega)).1
theorem take11_is {b : List UInt8} {x : Mf} (h : IsM b x) : m_ref11_Take b = some (x, 0) := by
  have hr := h.right
  obtain ⟨hh, hc⟩ := (right_iff11 x).1 hr
  have hl := ((head_iff x).1 hh).2.2.2.1
  have hN := isN_nums hr
  have hp := payM_len x
  have hT : m_ref03_Take b = some (payM x, true) := by
    unfold m_ref03_Take
    rw [h.eq, decide_eq_true (by unfold bytesM; rw [putN_len']; omega)]
    unfold bytesM
    rw [take_put]
    rfl
  have e1 : dropI (payM x) 1 = some (shortL (numsL x)) := dropI_nat _ 1 (by unfold payM; simp)
  have hsl := shortL_len (numsL x)
  rw [numsL_len] at hsl
  have t6 := tks_some (numsL x) [] 6 (by rw [numsL_len]; omega) hN
  rw [List.append_nil, List.append_nil] at t6
  have e6 : (numsL x).take 6 = numsH x := rfl
  have hd : (numsL x).drop 6 = x.segs.flatMap numsOf := rfl
  rw [e6, hd] at t6
  have hX := (take11_l1 b (numsH x, shortL (x.segs.flatMap numsOf), 0) x.next x.term x.vote x.snap.seq x.snap.fmt (x.segs.length : Int) rfl (by omega) x.segs.length 0 fuelN 0 (shortL (x.segs.flatMap numsOf)) [] (by omega) (by unfold fuelN; omega) (by
    have := shortL_len (x.segs.flatMap numsOf)
    rw [nums_len] at this
    omega) rfl).2 x.segs (fun s hs => ⟨isN_mem.2 fun y hy => isN_mem.1 hN y (List.mem_append.2 (.inr (List.mem_flatMap.2 ⟨s, hs, hy⟩))), (chk_all _ _ _ _ _ hc s hs).2.2.2⟩) rfl rfl
  unfold m_ref11_Take
  rw [hT, Option.bind_some]
  dsimp only
  rw [Bool.not_true, cond_false, decide_eq_false (by unfold payM; simp; omega), cond_false, e1, Option.bind_some, show (6 : Int) = ((6 : Nat) : Int) from rfl, tkN_num01 (by omega) (by decide), t6, Option.bind_some, decide_eq_false (by simp), cond_false]
  show (some (x.segs.length : Int)).bind _ = _
  rw [Option.bind_some, decide_eq_false (by omega), cond_false]
  have i0 : idx (numsH x) 0 = some x.next := rfl
  have i1 : idx (numsH x) 1 = some x.term := rfl
  have i2 : idx (numsH x) 2 = some x.vote := rfl
  have i3 : idx (numsH x) 3 = some x.snap.seq := rfl
  have i4 : idx (numsH x) 4 = some x.snap.fmt := rfl
  rw [show ((0 : Nat) : Int) = 0 from rfl] at hX
  dsimp only
  rw [i0, Option.bind_some, i1, Option.bind_some, i2, Option.bind_some, i3, Option.bind_some, i4, Option.bind_some, hX, List.nil_append]
  unfold doneM
  rw [if_pos ⟨hr, h.eq⟩]
end Go.Proofs.YtofheinbbefbcaaDoor
/- Layer 11: its laws, in plain terms. -/
namespace Go.Proofs.YtofheinbbefbcaaDoor
open Go Go.RowKit
set_option maxRecDepth 100000
theorem p_wakes11 : m_law11_wakes = some true := by decide +kernel
theorem sg_eq (a b : Sg) : (decide (a.seq = b.seq) && (decide (a.fmt = b.fmt) && (decide (a.first = b.first) && decide (a.count = b.count)))) = decide (a = b) := by
  obtain ⟨a1, a2, a3, a4⟩ := a; obtain ⟨b1, b2, b3, b4⟩ := b
  rw [Bool.eq_iff_iff]; simp
theorem rf_eq (a b : Rf) : (decide (a.seq = b.seq) && decide (a.fmt = b.fmt)) = decide (a = b) := by
  obtain ⟨a1, a2⟩ := a; obtain ⟨b1, b2⟩ := b
  rw [Bool.eq_iff_iff]; simp
theorem id_eq (a b : Id) : (decide (a.kind = b.kind) && (decide (a.seq = b.seq) && decide (a.fmt = b.fmt))) = decide (a = b) := by
  obtain ⟨a1, a2, a3⟩ := a; obtain ⟨b1, b2, b3⟩ := b
  rw [Bool.eq_iff_iff]; simp
theorem same11_l1 (x y : Mf) (hl : x.segs.length ≤ 1000000) (hab : x.segs.length = y.segs.length) : ∀ (q k n : Nat) (v : Bool), q + k = x.segs.length → q < n → m_ref11_Same_l1 x y n v k = some (decide (x.segs.drop k = y.segs.drop k)) := by
  intro q
  induction q with
  | zero =>
    intro k n v hk hn
    obtain ⟨n, rfl⟩ : ∃ n', n = n' + 1 := ⟨n - 1, by omega⟩
    rw [m_ref11_Same_l1, List.drop_eq_nil_of_le (by omega), List.drop_eq_nil_of_le (by omega), decide_eq_false (show ¬ ((k : Int) < (x.segs.length : Int)) by omega)]
    rfl
  | succ q ih =>
    intro k n v hk hn
    obtain ⟨n, rfl⟩ : ∃ n', n = n' + 1 := ⟨n - 1, by omega⟩
    obtain ⟨e, he, hd⟩ := drop_step (show k < x.segs.length by omega)
    obtain ⟨f, hf, hd2⟩ := drop_step (show k < y.segs.length by omega)
    rw [m_ref11_Same_l1, hd, hd2, decide_eq_true (show ((k : Int) < (x.segs.length : Int)) by omega), cond_true, idx_nat, idx_nat, he, hf, Option.bind_some, Option.bind_some, sg_eq, w64i (by omega), show ((k : Int) + 1) = ((k + 1 : Nat) : Int) by omega, ih (k + 1) n v (by omega) (by omega)]
    by_cases h : e = f
    · subst h
      rw [decide_eq_true rfl, Bool.not_true, cond_false]
      congr 1; rw [Bool.eq_iff_iff]; simp
    · rw [decide_eq_false h, Bool.not_false, cond_true]
      congr 1; rw [Bool.eq_iff_iff]; simp [h]
theorem p_Same11 (x y : Mf) (hl : x.segs.length ≤ 1000000) : m_ref11_Same x y = some (decide (x = y)) := by
  unfold m_ref11_Same
  rw [rf_eq]
  obtain ⟨n, t, v, s, l⟩ := x
  obtain ⟨n2, t2, v2, s2, l2⟩ := y
  simp only [Bool.cond_decide, Mf.mk.injEq, Bool.cond_not]
  by_cases h1 : n = n2
  case neg => rw [if_pos h1, decide_eq_false (fun h => h1 h.1)]
  by_cases h2 : t = t2
  case neg => rw [if_neg (fun h => h h1), if_pos h2, decide_eq_false (fun h => h2 h.2.1)]
  by_cases h3 : v = v2
  case neg => rw [if_neg (fun h => h h1), if_neg (fun h => h h2), if_pos h3, decide_eq_false (fun h => h3 h.2.2.1)]
  by_cases h4 : s = s2
  case neg => rw [if_neg (fun h => h h1), if_neg (fun h => h h2), if_neg (fun h => h h3), if_neg h4, decide_eq_false (fun h => h4 h.2.2.2.1)]
  rw [if_neg (fun h => h h1), if_neg (fun h => h h2), if_neg (fun h => h h3), if_pos h4]
  by_cases h5 : l.length = l2.length
  case neg => rw [if_pos (by omega), decide_eq_false (fun h => h5 (by rw [h.2.2.2.2]))]
  rw [if_neg (by omega)]
  have := same11_l1 ⟨n, t, v, s, l⟩ ⟨n2, t2, v2, s2, l2⟩ hl h5 l.length 0 fuelN false (by simp) (by dsimp only at hl; unfold fuelN; omega)
  rw [show ((0 : Nat) : Int) = 0 from rfl] at this
  rw [this, h1, h2, h3, h4]
  simp
theorem eqsg_l1 (a b : List Sg) (hl : a.length ≤ 1000000) (hab : a.length = b.length) : ∀ (q k n : Nat) (v : Bool), q + k = a.length → q < n → m_slices_Equal___api_Seg_api_Seg__l1 a b n v k = some (decide (a.drop k = b.drop k)) := by
  intro q
  induction q with
  | zero =>
    intro k n v hk hn
    obtain ⟨n, rfl⟩ : ∃ n', n = n' + 1 := ⟨n - 1, by omega⟩
    rw [m_slices_Equal___api_Seg_api_Seg__l1, List.drop_eq_nil_of_le (by omega), List.drop_eq_nil_of_le (by omega), decide_eq_false (show ¬ ((k : Int) < (a.length : Int)) by omega)]
    rfl
  | succ q ih =>
    intro k n v hk hn
    obtain ⟨n, rfl⟩ : ∃ n', n = n' + 1 := ⟨n - 1, by omega⟩
    obtain ⟨e, he, hd⟩ := drop_step (show k < a.length by omega)
    obtain ⟨f, hf, hd2⟩ := drop_step (show k < b.length by omega)
    rw [m_slices_Equal___api_Seg_api_Seg__l1, hd, hd2, decide_eq_true (show ((k : Int) < (a.length : Int)) by omega), cond_true, idx_nat, idx_nat, he, hf, Option.bind_some, Option.bind_some, sg_eq, w64i (by omega), show ((k : Int) + 1) = ((k + 1 : Nat) : Int) by omega, ih (k + 1) n v (by omega) (by omega)]
    by_cases h : e = f
    · subst h
      rw [decide_eq_true rfl, Bool.not_true, cond_false]
      congr 1; rw [Bool.eq_iff_iff]; simp
    · rw [decide_eq_false h, Bool.not_false, cond_true]
      congr 1; rw [Bool.eq_iff_iff]; simp [h]
theorem p_EqSg (a b : List Sg) (hl : a.length ≤ 1000000) : m_slices_Equal___api_Seg_api_Seg_ a b = some (decide (a = b)) := by
  unfold m_slices_Equal___api_Seg_api_Seg_
  by_cases h : a.length = b.length
  · rw [decide_eq_false (by omega), cond_false]
    have := eqsg_l1 a b hl h a.length 0 fuelN false (by omega) (by unfold fuelN; omega)
    simpa using this
  · rw [decide_eq_true (by omega), cond_true, decide_eq_false (fun h' => h (by rw [h']))]
theorem p_SameM (x y : Mf) (hl : x.segs.length ≤ 1000000) : m_manifest_Same x y = some (decide (x = y)) := by
  unfold m_manifest_Same
  rw [p_EqSg _ _ hl, Option.bind_some, rf_eq]
  obtain ⟨n, t, v, s, l⟩ := x
  obtain ⟨n2, t2, v2, s2, l2⟩ := y
  simp only [Bool.cond_decide, Mf.mk.injEq]
  (repeat' split) <;> (refine congrArg some ?_; rw [Bool.eq_iff_iff]) <;> simp_all
/-! ### Files -/
def idS (s : Sg) : Id := ⟨3, s.seq, s.fmt⟩
def keepL (x : Mf) : List Id := ⟨1, 0, 0⟩ :: ((if x.snap.seq ≠ 0 then [⟨4, x.snap.seq, x.snap.fmt⟩] else []) ++ x.segs.map idS)
theorem keep_l1 (x : Mf) (hl : x.segs.length ≤ 1000) : ∀ (q k n : Nat) (l : List Id), q + k = x.segs.length → q < n → l.length + q ≤ 100000 → m_manifest_Keep_l1 x n l k = some (l ++ (x.segs.drop k).map idS) := by
  intro q
  induction q with
  | zero =>
    intro k n l hk hn _
    obtain ⟨n, rfl⟩ : ∃ n', n = n' + 1 := ⟨n - 1, by omega⟩
    rw [m_manifest_Keep_l1, decide_eq_false (show ¬ ((k : Int) < (x.segs.length : Int)) by omega), cond_false, List.drop_eq_nil_of_le (by omega)]
    simp
  | succ q ih =>
    intro k n l hk hn hlen
    obtain ⟨n, rfl⟩ : ∃ n', n = n' + 1 := ⟨n - 1, by omega⟩
    obtain ⟨e, he, hd⟩ := drop_step (show k < x.segs.length by omega)
    rw [m_manifest_Keep_l1, decide_eq_true (show ((k : Int) < (x.segs.length : Int)) by omega), cond_true, idx_nat, he, Option.bind_some, fewI_ok _ (by rw [List.length_append]; simp; omega), Option.bind_some, w64i (by omega), show ((k : Int) + 1) = ((k + 1 : Nat) : Int) by omega, ih (k + 1) n _ (by omega) (by omega) (by rw [List.length_append]; simp; omega), hd]
    simp [idS]
theorem keep_l2 (x : Mf) : ∀ n a b, m_manifest_Keep_l2 x n a b = m_manifest_Keep_l1 x n a b := by
  intro n
  induction n with
  | zero => intros; rfl
  | succ n ih => intro a b; rw [m_manifest_Keep_l2, m_manifest_Keep_l1]; simp only [ih]
theorem keepR_l1 (x : Mf) : ∀ n a b, m_ref11_Keep_l1 x n a b = m_manifest_Keep_l1 x n a b := by
  intro n
  induction n with
  | zero => intros; rfl
  | succ n ih =>
    intro a b
    rw [m_ref11_Keep_l1, m_manifest_Keep_l1]
    simp only [ih]
    cases idx x.segs b <;> rfl
theorem keepR_l2 (x : Mf) : ∀ n a b, m_ref11_Keep_l2 x n a b = m_manifest_Keep_l1 x n a b := by
  intro n
  induction n with
  | zero => intros; rfl
  | succ n ih =>
    intro a b
    rw [m_ref11_Keep_l2, m_manifest_Keep_l1]
    simp only [ih]
    cases idx x.segs b <;> rfl
theorem p_KeepM (x : Mf) (hl : x.segs.length ≤ 1000) : m_manifest_Keep x = some (keepL x) := by
  unfold m_manifest_Keep keepL
  have e0 : ((0 : Nat) : Int) = 0 := rfl
  by_cases h : x.snap.seq = 0
  · rw [decide_eq_false (fun h' => h' h), cond_false, keep_l2, if_neg (fun h' => h' h)]
    have := keep_l1 x hl x.segs.length 0 fuelN [⟨1, 0, 0⟩] (by omega) (by unfold fuelN; omega) (by simp; omega)
    rw [e0, List.drop_zero] at this
    exact this
  · rw [decide_eq_true h, cond_true, if_pos h, fewI_ok _ (by simp), Option.bind_some]
    have := keep_l1 x hl x.segs.length 0 fuelN ([⟨1, 0, 0⟩] ++ [⟨4, x.snap.seq, x.snap.fmt⟩]) (by omega) (by unfold fuelN; omega) (by simp; omega)
    rw [e0, List.drop_zero] at this
    exact this
theorem p_Keep11 (x : Mf) : m_ref11_Keep x = m_manifest_Keep x := by
  unfold m_ref11_Keep m_manifest_Keep
  simp only [keepR_l1, keepR_l2, keep_l2]
theorem idents_l1 (a : List Id) (hl : a.length ≤ 1000000) : ∀ (q k n : Nat) (v : Bool), q + k = a.length → q < n → m_ref05_Idents_l1 a a n v k = some true := by
  intro q
  induction q with
  | zero =>
    intro k n v hk hn
    obtain ⟨n, rfl⟩ : ∃ n', n = n' + 1 := ⟨n - 1, by omega⟩
    rw [m_ref05_Idents_l1, decide_eq_false (show ¬ ((k : Int) < (a.length : Int)) by omega), cond_false]
  | succ q ih =>
    intro k n v hk hn
    obtain ⟨n, rfl⟩ : ∃ n', n = n' + 1 := ⟨n - 1, by omega⟩
    obtain ⟨e, he, hd⟩ := drop_step (show k < a.length by omega)
    rw [m_ref05_Idents_l1, decide_eq_true (show ((k : Int) < (a.length : Int)) by omega), cond_true, idx_nat, he, Option.bind_some, Option.bind_some, id_eq, decide_eq_true rfl, Bool.not_true, cond_false, w64i (by omega), show ((k : Int) + 1) = ((k + 1 : Nat) : Int) by omega, ih (k + 1) n v (by omega) (by omega)]
theorem p_Idents (a : List Id) (hl : a.length ≤ 1000000) : m_ref05_Idents a a = some true := by
  unfold m_ref05_Idents
  rw [decide_eq_false (fun h => h rfl), cond_false]
  exact idents_l1 a hl a.length 0 fuelN false (by omega) (by unfold fuelN; omega)
def twoB (x : Mf) : Bool := decide (x.snap.fmt = 2) || x.segs.any fun s => decide (s.fmt = 2)
theorem two_l1 (x : Mf) (hl : x.segs.length ≤ 1000) : ∀ (q k n : Nat) (v : Int), q + k = x.segs.length → q < n → m_manifest_Two_l1 x n v k = some ((x.segs.drop k).any fun s => decide (s.fmt = 2)) := by
  intro q
  induction q with
  | zero =>
    intro k n v hk hn
    obtain ⟨n, rfl⟩ : ∃ n', n = n' + 1 := ⟨n - 1, by omega⟩
    rw [m_manifest_Two_l1, decide_eq_false (show ¬ ((k : Int) < (x.segs.length : Int)) by omega), cond_false, List.drop_eq_nil_of_le (by omega)]
    rfl
  | succ q ih =>
    intro k n v hk hn
    obtain ⟨n, rfl⟩ : ∃ n', n = n' + 1 := ⟨n - 1, by omega⟩
    obtain ⟨e, he, hd⟩ := drop_step (show k < x.segs.length by omega)
    have hT : m_manifest_Two_1 e = some (decide (e.fmt = 2)) := rfl
    rw [m_manifest_Two_l1, decide_eq_true (show ((k : Int) < (x.segs.length : Int)) by omega), cond_true, idx_nat, he, Option.bind_some, hT, Option.bind_some, w64i (by omega), show ((k : Int) + 1) = ((k + 1 : Nat) : Int) by omega, ih (k + 1) n v (by omega) (by omega), hd, List.any_cons]
    cases decide (e.fmt = 2) with
    | true => rw [cond_true, decide_eq_true (by omega)]; rfl
    | false => rfl
theorem p_Two (x : Mf) (hl : x.segs.length ≤ 1000) : m_manifest_Two x = some (twoB x) := by
  unfold m_manifest_Two twoB
  have := two_l1 x hl x.segs.length 0 fuelN 0 (by omega) (by unfold fuelN; omega)
  rw [show ((0 : Nat) : Int) = 0 from rfl, List.drop_zero] at this
  rw [this]
  cases decide (x.snap.fmt = 2) <;> rfl
theorem two11_l1 (x : Mf) (hl : x.segs.length ≤ 1000) : ∀ (q k n : Nat) (v : Bool), q + k = x.segs.length → q < n → m_ref11_Two_l1 x n v k = some ((x.segs.drop k).any fun s => decide (s.fmt = 2)) := by
  intro q
  induction q with
  | zero =>
    intro k n v hk hn
    obtain ⟨n, rfl⟩ : ∃ n', n = n' + 1 := ⟨n - 1, by omega⟩
    rw [m_ref11_Two_l1, decide_eq_false (show ¬ ((k : Int) < (x.segs.length : Int)) by omega), cond_false, List.drop_eq_nil_of_le (by omega)]
    rfl
  | succ q ih =>
    intro k n v hk hn
    obtain ⟨n, rfl⟩ : ∃ n', n = n' + 1 := ⟨n - 1, by omega⟩
    obtain ⟨e, he, hd⟩ := drop_step (show k < x.segs.length by omega)
    rw [m_ref11_Two_l1, decide_eq_true (show ((k : Int) < (x.segs.length : Int)) by omega), cond_true, idx_nat, he, Option.bind_some, w64i (by omega), show ((k : Int) + 1) = ((k + 1 : Nat) : Int) by omega, ih (k + 1) n v (by omega) (by omega), hd, List.any_cons]
    cases decide (e.fmt = 2) with
    | true => rfl
    | false => rfl
theorem p_Two11 (x : Mf) (hl : x.segs.length ≤ 1000) : m_ref11_Two x = some (twoB x) := by
  unfold m_ref11_Two twoB
  have := two11_l1 x hl x.segs.length 0 fuelN false (by omega) (by unfold fuelN; omega)
  rw [show ((0 : Nat) : Int) = 0 from rfl, List.drop_zero] at this
  rw [this]
  cases decide (x.snap.fmt = 2) <;> rfl
theorem p_OpenEq (x : Mf) : m_ref11_Open x = m_manifest_Open x := rfl
theorem p_OpenM (x : Mf) (hl : x.segs.length ≤ 1000) : m_manifest_Open x = some (match x.segs.getLast? with
    | none => (-1, false)
    | some s => if s.count = -1 then ((x.segs.length : Int) - 1, true) else (-1, false)) := by
  unfold m_manifest_Open
  rw [w64i (n := (x.segs.length : Int) - 1) (by omega)]
  rcases Nat.eq_zero_or_pos x.segs.length with h | h
  · rw [decide_eq_true (by omega), cond_true, List.eq_nil_of_length_eq_zero h]
    rfl
  · obtain ⟨e, he⟩ : ∃ e, x.segs[x.segs.length - 1]? = some e := ⟨_, List.getElem?_eq_getElem (by omega)⟩
    have hi : idx x.segs ((x.segs.length : Int) - 1) = some e := by
      have : (x.segs.length : Int) - 1 = ((x.segs.length - 1 : Nat) : Int) := by omega
      rw [this, idx_nat, he]
    rw [decide_eq_false (by omega), cond_false, hi, Option.bind_some, List.getLast?_eq_getElem?, he]
    by_cases hc : e.count = -1
    · rw [decide_eq_false (fun h' => h' hc), cond_false]; simp [hc]
    · rw [decide_eq_true hc, cond_true]; simp [hc]
theorem p_OwnM (x : Mf) (hl : x.segs.length ≤ 1000) : m_manifest_Own x = some x := by
  have : m_slices_Clone___api_Seg_api_Seg_ x.segs = some x.segs := fewI_ok _ (by omega)
  unfold m_manifest_Own
  rw [this]
  rfl
theorem p_Own11 (x : Mf) (hl : x.segs.length ≤ 1000) : m_ref11_Own x = some x := by
  unfold m_ref11_Own
  rw [List.nil_append, fewI_ok _ (by omega)]
  rfl
theorem p_great (x : Mf) : m_law11_great x = some (decide (70 < x.segs.length)) := by
  unfold m_law11_great
  congr 1
  rw [Bool.eq_iff_iff]
  simp
  omega
/-! ### The laws -/
theorem IsM.few {b : List UInt8} {x : Mf} (h : IsM b x) : x.segs.length ≤ 60 := ((head_iff x).1 ((right_iff11 x).1 h.right).1).2.2.2.1
theorem both_take (b : List UInt8) (hb : b.length ≤ 10000) : m_ref11_Take b = m_manifest_Take b ∧ ∃ r, m_manifest_Take b = some r ∧ r.1.segs.length ≤ 60 := by
  rcases take_ok b hb with ⟨x, hx, hM⟩ | hx
  · exact ⟨by rw [hx, take11_is hM], _, hx, hM.few⟩
  · refine ⟨?_, _, hx, by show (0 : Nat) ≤ 60; omega⟩
    rcases take11_ok b hb with ⟨y, hy, hM⟩ | hy
    · rw [take_is hM] at hx
      cases hx
    · rw [hx, hy]
theorem p_ManifestTells (x y : Mf) (b : List UInt8) : m_law11_ManifestTells x y b = some true := by
  unfold m_law11_ManifestTells
  rw [p_great, Option.bind_some]
  by_cases h1 : 70 < x.segs.length
  · rw [decide_eq_true h1, cond_true, p_wakes11]; rfl
  rw [decide_eq_false h1, cond_false, p_great, Option.bind_some]
  by_cases h2 : 70 < y.segs.length
  · rw [decide_eq_true h2, cond_true, p_wakes11]; rfl
  rw [decide_eq_false h2, cond_false]
  by_cases h3 : (900 : Int) < (b.length : Int)
  · rw [decide_eq_true h3, cond_true, p_wakes11]; rfl
  obtain ⟨e1, r, e2, e3⟩ := both_take b (by omega)
  have hlk : (keepL x).length ≤ 1000000 := by unfold keepL; split <;> simp <;> omega
  have hsame : ∀ l : List UInt8, m_law11_same l l = some true := fun l => by unfold m_law11_same; rw [decide_eq_true rfl]
  rw [decide_eq_false h3, cond_false, p_Put, p_Put11, Option.bind_some, Option.bind_some, e1, e2, Option.bind_some, Option.bind_some, p_OpenEq, p_OpenM x (by omega), Option.bind_some, Option.bind_some, hsame, Option.bind_some, Bool.not_true, cond_false, decide_eq_false (fun h => h rfl), cond_false, p_Same11 _ _ (by omega), Option.bind_some, decide_eq_true rfl, Bool.not_true, cond_false, decide_eq_false (fun h => h rfl), cond_false, decide_eq_false (fun h => h rfl), cond_false, decide_eq_false (fun h => h rfl), cond_false, p_Check, p_Check11, Option.bind_some, Option.bind_some, decide_eq_false (fun h => h rfl), cond_false, p_Keep11, p_KeepM x (by omega), Option.bind_some, Option.bind_some, p_Idents _ hlk, Option.bind_some, Bool.not_true, cond_false, p_Two x (by omega), p_Two11 x (by omega), Option.bind_some, Option.bind_some, decide_eq_true rfl, cond_true, p_SameM x y (by omega), p_Same11 x y (by omega), Option.bind_some, Option.bind_some, decide_eq_true rfl, cond_true, p_OwnM x (by omega), Option.bind_some, p_Same11 x x (by omega), Option.bind_some, decide_eq_true rfl, cond_true, p_wakes11, Option.bind_some]
theorem p_ManifestOnly (b : List UInt8) : m_law11_ManifestOnly b = some true := by
  unfold m_law11_ManifestOnly
  by_cases h3 : (900 : Int) < (b.length : Int)
  · rw [decide_eq_true h3, cond_true, p_wakes11]; rfl
  rw [decide_eq_false h3, cond_false]
  rcases take_ok b (by omega) with ⟨x, hx, hM⟩ | hx
  · rw [hx, Option.bind_some, decide_eq_false (fun h => h rfl), cond_false, p_Put, Option.bind_some]
    unfold putM
    rw [if_pos hM.right, decide_eq_true rfl, cond_true]
    unfold m_law11_same
    rw [← hM.eq, decide_eq_true rfl, Option.bind_some, cond_true, p_Check11, Option.bind_some]
    unfold errM
    rw [if_pos hM.right, decide_eq_true rfl, cond_true, p_wakes11]
    rfl
  · rw [hx, Option.bind_some, decide_eq_true (by decide), cond_true, decide_eq_true rfl, cond_true]
    show (m_ref11_Same zeroM zeroM).bind _ = _
    rw [p_Same11 _ _ (by show (0 : Nat) ≤ _; omega), Option.bind_some, decide_eq_true rfl, cond_true, p_wakes11]
    rfl
/-! ### Bytes that are others -/
theorem byteN_in (s : Nat) (c d : UInt8) (hs : s < 4294967296) (h : byteN s c = byteN s d) : c = d := by
  rw [byteN_eq, byteN_eq] at h
  have hc := c.toNat_lt
  have hd := d.toNat_lt
  have h1 := bit8_inj _ _ (Nat.xor_lt_two_pow (n := 32) hs (by omega)) (Nat.xor_lt_two_pow (n := 32) hs (by omega)) h
  have h2 := congrArg (s ^^^ ·) h1
  rw [← Nat.xor_assoc, ← Nat.xor_assoc, Nat.xor_self, Nat.zero_xor, Nat.zero_xor] at h2
  rw [← ofNat_toNat' c, ← ofNat_toNat' d, h2]
theorem run_set : ∀ (l : List UInt8) (s i : Nat) (c d : UInt8), s < 4294967296 → l[i]? = some c → d ≠ c → runN s (l.set i d) ≠ runN s l := by
  intro l
  induction l with
  | nil => intro s i c d _ h; simp at h
  | cons a l ih =>
    intro s i c d hs h hne
    cases i with
    | zero =>
      obtain rfl : a = c := by simpa using h
      intro e
      exact hne (byteN_in s _ _ hs (runN_inj l _ _ (byteN_lt s d hs) (byteN_lt s a hs) e))
    | succ i =>
      exact ih (byteN s a) i c d (byteN_lt s a hs) (by simpa using h) hne
theorem xor_back (a x : UInt8) (h : x ≠ 0) : a ^^^ x ≠ a := by
  intro e
  have := congrArg (a ^^^ ·) e
  rw [← UInt8.xor_assoc] at this
  exact h (by simpa using this)
theorem not_set {b : List UInt8} {x y : Mf} (h : IsM b x) (i : Nat) (c d : UInt8) (hc : b[i]? = some c) (hd : d ≠ c) : ¬ IsM (b.set i d) y := fun h2 => by
  have h3 := run_set b (inv32 0) i c d (inv32_lt 0) hc hd
  rw [h2.eq] at h3
  rw [h.eq] at h3
  exact h3 ((run_put _).trans (run_put _).symm)
theorem nums_inj {x y : Mf} (hx : rightM x = true) (hy : rightM y = true) (r : List UInt8) (h : shortL (numsL x) = shortL (numsL y) ++ r) : x = y ∧ r = [] := by
  have h6 : 6 ≤ (numsL x).length := by rw [numsL_len]; omega
  have h6' : 6 ≤ (numsL y).length := by rw [numsL_len]; omega
  have a := tks_some (numsL x) [] 6 h6 (isN_nums hx)
  have b := tks_some (numsL y) r 6 h6' (isN_nums hy)
  rw [List.append_nil, h] at a
  rw [b] at a
  have e6 : numsH x = numsH y := (congrArg (·.1) a).symm
  unfold numsH at e6
  simp only [List.cons.injEq, and_true] at e6
  obtain ⟨e1, e2, e3, e4, e5, e7⟩ := e6
  have hl : x.segs.length = y.segs.length := by omega
  have c := tks_some (numsL x) [] (numsL x).length (Nat.le_refl _) (isN_nums hx)
  have d := tks_some (numsL y) r (numsL y).length (Nat.le_refl _) (isN_nums hy)
  have hll : (numsL x).length = (numsL y).length := by rw [numsL_len, numsL_len, hl]
  rw [List.append_nil, h, hll] at c
  rw [d] at c
  have c1 : (numsL y).take (numsL y).length = (numsL x).take (numsL y).length := congrArg (·.1) c
  have c2 : shortL ((numsL y).drop (numsL y).length) ++ r = shortL ((numsL x).drop (numsL y).length) ++ [] := congrArg (·.2.1) c
  rw [List.take_length, ← hll, List.take_length] at c1
  rw [List.drop_length, ← hll, List.drop_length] at c2
  have hr : r = [] := by simpa [shortL] using c2
  refine ⟨?_, hr⟩
  have hs : x.segs.flatMap numsOf = y.segs.flatMap numsOf := by
    have := congrArg (List.drop 6) c1
    exact this.symm
  have hcx := (right_iff11 x).1 hx
  have hcy := (right_iff11 y).1 hy
  have s1 := segs_nums x.segs fun s hs => (chk_all _ _ _ _ _ hcx.2 s hs).2.2.2
  have s2 := segs_nums y.segs fun s hs => (chk_all _ _ _ _ _ hcy.2 s hs).2.2.2
  rw [hs, s2] at s1
  obtain ⟨n, t, v, ⟨s, f⟩, l⟩ := x
  obtain ⟨n2, t2, v2, ⟨s2', f2⟩, l2⟩ := y
  dsimp only at e1 e2 e3 e4 e5 s1
  rw [e1, e2, e3, e4, e5, s1]
/-- No manifest's bytes begin another one's. -/
theorem no_more {b : List UInt8} {x y : Mf} {c : UInt8} (h : IsM (b ++ [c]) x) (h2 : IsM b y) : False := by
  have e1 := h.eq
  have e2 := h2.eq
  have l1 := congrArg List.length e1
  have l2 := congrArg List.length e2
  unfold bytesM at e1 e2 l1 l2
  rw [putN_len'] at l1 l2
  rw [List.length_append] at l1
  unfold putN at e1 e2
  rw [e2] at e1
  have hp := congrArg (List.take (payM y).length) e1
  rw [List.append_assoc, List.take_left, List.take_append_of_le_length (by simp at l1; omega)] at hp
  have hp2 : payM x = payM y ++ (payM x).drop (payM y).length := by conv => lhs; rw [← List.take_append_drop (payM y).length (payM x), ← hp]
  unfold payM at hp2
  rw [List.cons_append, List.cons.injEq] at hp2
  obtain ⟨rfl, _⟩ := nums_inj h.right h2.right _ hp2.2
  simp at l1
  omega
theorem rem_len (a : Int) (n : Nat) (h0 : 0 < n) (hn : n ≤ 1000000000) : ∃ k : Nat, k < n ∧ (∃ q, remI a (n : Int) = some q) ∧ (∃ q, remI (IntKind.wrap .i64 (Int.tmod a (n : Int) + (n : Int))) (n : Int) = some q) ∧ Int.tmod (IntKind.wrap .i64 (Int.tmod a (n : Int) + (n : Int))) (n : Int) = (k : Int) := by
  have hp : (0 : Int) < (n : Int) := by omega
  have h1 := Int.tmod_lt_of_pos a hp
  have h2 := Int.tmod_lt_of_pos (-a) hp
  rw [Int.neg_tmod] at h2
  rw [w64i (n := a.tmod (n : Int) + (n : Int)) (by omega)]
  have h3 : 0 ≤ a.tmod (n : Int) + (n : Int) := by omega
  have h4 := Int.emod_nonneg (a.tmod (n : Int) + (n : Int)) (by omega : (n : Int) ≠ 0)
  have h5 := Int.emod_lt_of_pos (a.tmod (n : Int) + (n : Int)) hp
  refine ⟨((a.tmod (n : Int) + (n : Int)) % (n : Int)).toNat, by omega, ⟨_, remI_ok _ _ (by omega)⟩, ⟨_, remI_ok _ _ (by omega)⟩, ?_⟩
  rw [Int.tmod_eq_emod_of_nonneg h3]; omega
theorem p_ManifestBack (x : Mf) (a : Int) (c : UInt8) : m_law11_ManifestBack x a c = some true := by
  unfold m_law11_ManifestBack
  rw [p_great, Option.bind_some]
  by_cases h1 : 70 < x.segs.length
  · rw [decide_eq_true h1, cond_true, p_wakes11]; rfl
  rw [decide_eq_false h1, cond_false, p_Put, Option.bind_some, p_Check11, Option.bind_some]
  by_cases hr : rightM x = true
  case neg =>
    have e1 : putM x = ([], 2) := if_neg hr
    have e2 : errM x = 2 := if_neg hr
    rw [e1, e2, decide_eq_true (show (2 : Int) ≠ 0 by decide), cond_true]
    dsimp only
    rw [decide_eq_true (show (2 : Int) = 2 from rfl), cond_true, decide_eq_true (show ((([] : List UInt8).length : Nat) : Int) = 0 from rfl), cond_true, p_Check, Option.bind_some, e2, decide_eq_true (show (2 : Int) = 2 from rfl), cond_true, p_wakes11]
    rfl
  have e1 : putM x = (bytesM x, 0) := if_pos hr
  have e2 : errM x = 0 := if_pos hr
  have hM : IsM (bytesM x) x := ⟨hr, rfl⟩
  have hlen : (bytesM x).length ≤ 2000 ∧ 5 ≤ (bytesM x).length := by
    have := payM_len x
    unfold bytesM
    rw [putN_len']
    refine ⟨by omega, ?_⟩
    unfold payM
    rw [List.length_cons]
    omega
  rw [e1, e2, decide_eq_false (show ¬ ((0 : Int) ≠ 0) from fun h => h rfl), cond_false]
  dsimp only
  rw [take_is hM, Option.bind_some, decide_eq_false (show ¬ ((0 : Int) ≠ 0) from fun h => h rfl), cond_false]
  dsimp only
  rw [cond_false, p_Same11 x x (by omega), Option.bind_some, decide_eq_true (show x = x from rfl), Bool.not_true, cond_false, decide_eq_false (show ¬ ((bytesM x).length : Int) = 0 by omega), cond_false]
  generalize hb : bytesM x = b at hM hlen
  obtain ⟨k, hk, ⟨q1, hq1⟩, ⟨q2, hq2⟩, hq3⟩ := rem_len a b.length (by omega) (by omega)
  obtain ⟨d, hd, _⟩ := drop_step hk
  rw [hq1, Option.bind_some, hq2, Option.bind_some, List.nil_append, fewI_ok _ (by omega), Option.bind_some, hq3, idx_nat, hd, Option.bind_some, Option.bind_some]
  have e3 : setI b (k : Int) (d ^^^ c) = b.set k (d ^^^ c) := by unfold setI; rw [Int.toNat_natCast]
  have hT : ∃ y, m_manifest_Take (b.set k (d ^^^ c)) = some (y, if c = 0 then 0 else 11) := by
    by_cases h0 : c = 0
    · subst h0
      have : b.set k (d ^^^ 0) = b := by
        have : d ^^^ 0 = d := by simp
        rw [this]
        obtain ⟨g1, g2⟩ := List.getElem?_eq_some_iff.1 hd
        rw [← g2]
        exact List.set_getElem_self g1
      rw [this, take_is hM, if_pos rfl]
      exact ⟨_, rfl⟩
    · rw [if_neg h0]
      rcases take_ok (b.set k (d ^^^ c)) (by rw [List.length_set]; omega) with ⟨y, hy, hM2⟩ | hy
      · exact (not_set hM k d (d ^^^ c) hd (xor_back d c h0) hM2).elim
      · exact ⟨_, hy⟩
  obtain ⟨y, hy⟩ := hT
  have hA : ∃ y, m_manifest_Take (b ++ [c]) = some (y, 11) := by
    rcases take_ok (b ++ [c]) (by rw [List.length_append]; simp; omega) with ⟨y, hy, hM2⟩ | hy
    · exact (no_more hM2 hM).elim
    · exact ⟨_, hy⟩
  have hF : ∃ y, m_manifest_Take (b.take (b.length - 1)) = some (y, 11) := by
    rcases take_ok (b.take (b.length - 1)) (by rw [List.length_take]; omega) with ⟨y, hy, hM2⟩ | hy
    · obtain ⟨f, hf, hf2⟩ := drop_step (l := b) (k := b.length - 1) (by omega)
      have : b.take (b.length - 1) ++ [f] = b := by
        conv => rhs; rw [← List.take_append_drop (b.length - 1) b, hf2, List.drop_eq_nil_of_le (by omega)]
      exact (no_more (b := b.take (b.length - 1)) (c := f) (by rw [this]; exact hM) hM2).elim
    · exact ⟨_, hy⟩
  obtain ⟨y2, hA⟩ := hA
  obtain ⟨y3, hF⟩ := hF
  have w1 : IntKind.wrap .i64 ((b.length : Int) - 1) = ((b.length - 1 : Nat) : Int) := by rw [w64i (by omega)]; omega
  have hz : decide ((c.toNat : Int) = 0) = decide (c = 0) := by
    rw [Bool.eq_iff_iff, decide_eq_true_eq, decide_eq_true_eq]
    constructor
    · intro h
      have : c.toNat = 0 := by omega
      rw [← ofNat_toNat' c, this]
      rfl
    · intro h; rw [h]; rfl
  rw [e3, hy, Option.bind_some, Option.bind_some, fewI_ok _ (by rw [List.length_append]; simp; omega), Option.bind_some, hA, Option.bind_some, w1, takeI_nat _ _ (by omega), Option.bind_some, hF, Option.bind_some, hz]
  dsimp only
  have : decide (decide ((if c = 0 then (0 : Int) else 11) = 0) = decide (c = 0)) = true := by
    by_cases h0 : c = 0 <;> simp [h0]
  rw [this, cond_true, decide_eq_true (show (11 : Int) = 11 from rfl), cond_true, cond_true, p_wakes11]
  rfl
/-! ### Names -/
def mayB (x : Id) : Bool := decide ((x.kind = 1 ∧ x.seq = 0 ∧ x.fmt = 0) ∨ ((x.kind = 3 ∨ x.kind = 4) ∧ (1 ≤ x.seq ∧ x.seq ≤ 1073741824) ∧ (1 ≤ x.fmt ∧ x.fmt ≤ 2)))
theorem p_May {x : Id} (h : mayB x = true) : m_ref05_May x = some true := by
  unfold mayB at h
  rw [decide_eq_true_eq] at h
  unfold m_ref05_May
  simp only [Bool.cond_decide]
  (repeat' split) <;> first | rfl | (exfalso; omega) | (refine congrArg some (decide_eq_true ?_); omega)
theorem names_l2 (kk : Bool → Int → Option Bool) (l : List Id) (hl : l.length ≤ 1000) (k : Nat) (e : Id) (he : l[k]? = some e) (hne : ∀ j f, j < k → l[j]? = some f → f ≠ e) : ∀ (q j n : Nat) (v : Bool), q + j = k → q < n → m_ref11_Names_l2 kk l k n v j = kk v ((k + 1 : Nat) : Int) := by
  intro q
  have hk : k < l.length := (List.getElem?_eq_some_iff.1 he).1
  induction q with
  | zero =>
    intro j n v hj hn
    obtain ⟨n, rfl⟩ : ∃ n', n = n' + 1 := ⟨n - 1, by omega⟩
    rw [m_ref11_Names_l2, decide_eq_false (show ¬ ((j : Int) < (k : Int)) by omega), cond_false, w64i (by omega)]
    rfl
  | succ q ih =>
    intro j n v hj hn
    obtain ⟨n, rfl⟩ : ∃ n', n = n' + 1 := ⟨n - 1, by omega⟩
    obtain ⟨f, hf, _⟩ := drop_step (show j < l.length by omega)
    rw [m_ref11_Names_l2, decide_eq_true (show ((j : Int) < (k : Int)) by omega), cond_true, idx_nat, idx_nat, hf, he, Option.bind_some, Option.bind_some, id_eq, decide_eq_false (hne j f (by omega) hf), cond_false, w64i (by omega), show ((j : Int) + 1) = ((j + 1 : Nat) : Int) by omega, ih (j + 1) n v (by omega) (by omega)]
theorem names_l1 (l : List Id) (hl : l.length ≤ 1000) (hm : ∀ x ∈ l, mayB x = true) (hd : l.Nodup) : ∀ (q k n : Nat) (v : Bool), q + k = l.length → q < n → m_ref11_Names_l1 l n v k = some true := by
  intro q
  induction q with
  | zero =>
    intro k n v hk hn
    obtain ⟨n, rfl⟩ : ∃ n', n = n' + 1 := ⟨n - 1, by omega⟩
    rw [m_ref11_Names_l1, decide_eq_false (show ¬ ((k : Int) < (l.length : Int)) by omega), cond_false]
  | succ q ih =>
    intro k n v hk hn
    obtain ⟨n, rfl⟩ : ∃ n', n = n' + 1 := ⟨n - 1, by omega⟩
    obtain ⟨e, he, _⟩ := drop_step (show k < l.length by omega)
    rw [m_ref11_Names_l1, decide_eq_true (show ((k : Int) < (l.length : Int)) by omega), cond_true, idx_nat, he, Option.bind_some, p_May (hm e (List.mem_of_getElem? he)), Option.bind_some, Bool.not_true, cond_false, show (0 : Int) = ((0 : Nat) : Int) from rfl, names_l2 _ l hl k e he (fun j f hj hf h => by
      subst h
      have h1 := (List.getElem?_eq_some_iff.1 hf)
      have h2 := (List.getElem?_eq_some_iff.1 he)
      exact (List.pairwise_iff_getElem.1 hd) j k h1.1 h2.1 hj (h1.2.trans h2.2.symm)) k 0 fuelN v (by omega) (by unfold fuelN; omega), ih (k + 1) n v (by omega) (by omega)]
theorem p_Names (l : List Id) (hl : l.length ≤ 1000) (hm : ∀ x ∈ l, mayB x = true) (hd : l.Nodup) : m_ref11_Names l = some true := by
  unfold m_ref11_Names
  exact names_l1 l hl hm hd l.length 0 fuelN false (by omega) (by unfold fuelN; omega)
theorem chk_nodup (nx sn : Int) : ∀ (l : List Sg) (qs : List Int) (pe : Option Int), chkB nx sn qs pe l = true → (l.map Sg.seq).Nodup ∧ ∀ s ∈ l, s.seq ∉ qs
  | [], _, _, _ => ⟨List.nodup_nil, fun s hs => by cases hs⟩
  | e :: l, qs, pe, h => by
    rw [chkB, Bool.and_eq_true] at h
    obtain ⟨h1, h2⟩ := chk_nodup nx sn l _ _ h.2
    have h0 := h.1
    unfold segB at h0
    rw [decide_eq_true_eq] at h0
    refine ⟨List.nodup_cons.2 ⟨fun hm => ?_, h1⟩, fun s hs => ?_⟩
    · obtain ⟨s, hs, he⟩ := List.mem_map.1 hm
      exact h2 s hs (List.mem_append.2 (.inr (by rw [he]; exact List.mem_singleton.2 rfl)))
    · rcases List.mem_cons.1 hs with rfl | hs
      · exact h0.2.2.2.1
      · exact fun hq => h2 s hs (List.mem_append.2 (.inl hq))
theorem chk_open (nx sn : Int) : ∀ (l : List Sg) (qs : List Int) (pe : Option Int), chkB nx sn qs pe l = true → ∀ k s, l[k]? = some s → s.count = -1 → k + 1 = l.length
  | [], _, _, _ => fun k s hs => by simp at hs
  | e :: l, qs, pe, h => fun k s hs hc => by
    rw [chkB, Bool.and_eq_true] at h
    cases k with
    | zero =>
      obtain rfl : e = s := by simpa using hs
      have h0 := h.1
      unfold segB at h0
      rw [decide_eq_true_eq] at h0
      rcases h0.2.2.2.2.2.1 with h1 | h1
      · omega
      · rw [h1.2]; rfl
    | succ k =>
      have := chk_open nx sn l _ _ h.2 k s (by simpa using hs) hc
      rw [List.length_cons]
      omega
theorem keep_len (x : Mf) : (keepL x).length = 1 + (if x.snap.seq ≠ 0 then 1 else 0) + x.segs.length := by
  unfold keepL
  split <;> simp <;> omega
theorem keep_may {x : Mf} (h : rightM x = true) : ∀ y ∈ keepL x, mayB y = true := by
  obtain ⟨h1, h2⟩ := (right_iff11 x).1 h
  obtain ⟨a1, a2, a3, a4, a5⟩ := (head_iff x).1 h1
  intro y hy
  unfold mayB
  rw [decide_eq_true_eq]
  unfold keepL at hy
  rcases List.mem_cons.1 hy with rfl | hy
  · exact .inl ⟨rfl, rfl, rfl⟩
  rcases List.mem_append.1 hy with hy | hy
  · split at hy
    · rw [List.mem_singleton.1 hy]
      refine .inr ⟨.inr rfl, ?_⟩
      dsimp only
      omega
    · cases hy
  · obtain ⟨s, hs, rfl⟩ := List.mem_map.1 hy
    obtain ⟨b1, b2, b3, b4⟩ := chk_all _ _ _ _ _ h2 s hs
    refine .inr ⟨.inl rfl, ?_⟩
    show (1 ≤ s.seq ∧ s.seq ≤ 1073741824) ∧ (1 ≤ s.fmt ∧ s.fmt ≤ 2)
    omega
theorem keep_nodup {x : Mf} (h : rightM x = true) : (keepL x).Nodup := by
  obtain ⟨h1, h2⟩ := (right_iff11 x).1 h
  obtain ⟨n1, _⟩ := chk_nodup _ _ _ _ _ h2
  have n2 : (x.segs.map idS).Nodup := by
    have : (x.segs.map idS).map Id.seq = x.segs.map Sg.seq := by rw [List.map_map]; rfl
    exact List.Pairwise.of_map (S := fun a b : Int => a ≠ b) Id.seq (fun a b hab e => hab (by rw [e])) (by rw [this]; exact n1)
  have h3 : ∀ y ∈ x.segs.map idS, y.kind = 3 := fun y hy => by obtain ⟨s, _, rfl⟩ := List.mem_map.1 hy; rfl
  unfold keepL
  split
  · refine List.nodup_cons.2 ⟨fun hm => ?_, List.nodup_cons.2 ⟨fun hm => ?_, n2⟩⟩
    · rcases List.mem_cons.1 hm with e | hm
      · cases e
      · have := h3 _ hm; cases this
    · have := h3 _ hm; cases this
  · refine List.nodup_cons.2 ⟨fun hm => ?_, n2⟩
    have := h3 _ hm; cases this
def openR (x : Mf) : Int × Bool := match x.segs.getLast? with
    | none => (-1, false)
    | some s => if s.count = -1 then ((x.segs.length : Int) - 1, true) else (-1, false)
theorem open_at {x : Mf} (h : rightM x = true) (k : Nat) (s : Sg) (hs : x.segs[k]? = some s) : decide (s.count = -1) = ((openR x).2 && decide ((k : Int) = (openR x).1)) := by
  have h2 := ((right_iff11 x).1 h).2
  have hk : k < x.segs.length := (List.getElem?_eq_some_iff.1 hs).1
  obtain ⟨e, he⟩ : ∃ e, x.segs[x.segs.length - 1]? = some e := ⟨_, List.getElem?_eq_getElem (by omega)⟩
  have ho : openR x = if e.count = -1 then ((x.segs.length : Int) - 1, true) else (-1, false) := by
    unfold openR
    rw [List.getLast?_eq_getElem?, he]
  by_cases hc : s.count = -1
  · have := chk_open _ _ _ _ _ h2 k s hs hc
    have hk2 : x.segs.length - 1 = k := by omega
    rw [hk2, hs] at he
    cases he
    rw [if_pos hc] at ho
    rw [ho, decide_eq_true hc]
    dsimp only
    rw [decide_eq_true (show (k : Int) = (x.segs.length : Int) - 1 by omega)]
    rfl
  · rw [decide_eq_false hc]
    by_cases he1 : e.count = -1
    · rw [if_pos he1] at ho
      rw [ho]
      dsimp only
      rw [decide_eq_false (show ¬ (k : Int) = (x.segs.length : Int) - 1 from fun h' => hc (by
        have : x.segs.length - 1 = k := by omega
        rw [this, hs] at he
        cases he
        exact he1))]
      rfl
    · rw [if_neg he1] at ho
      rw [ho]
      rfl
theorem namesM_l2 (x : Mf) (hx : rightM x = true) (hT : twoB x = ((keepL x).drop 1).any fun e => decide (e.fmt = 2)) : ∀ (q k n : Nat) (v : Bool), q + k = (keepL x).length → q < n → (v || ((keepL x).drop k).any fun e => decide (e.fmt = 2)) = twoB x → m_law11_ManifestNames_l2 x (keepL x) (openR x) n v k = some true := by
  have hl := ((head_iff x).1 ((right_iff11 x).1 hx).1).2.2.2.1
  have hkl : (keepL x).length ≤ 100 := by rw [keep_len]; split <;> omega
  intro q
  induction q with
  | zero =>
    intro k n v hk hn hv
    obtain ⟨n, rfl⟩ : ∃ n', n = n' + 1 := ⟨n - 1, by omega⟩
    have e2 : errM x = 0 := if_pos hx
    rw [List.drop_eq_nil_of_le (by omega), List.any_nil, Bool.or_false] at hv
    have hrest : ((m_manifest_Check x).bind fun r91 => cond (decide (r91 = 0)) ((m_law11_wakes).bind fun r94 => some r94) (some false)) = some true := by
      rw [p_Check, Option.bind_some, e2, decide_eq_true rfl, cond_true, p_wakes11]; rfl
    rw [m_law11_ManifestNames_l2, decide_eq_false (show ¬ ((k : Int) < ((keepL x).length : Int)) by omega), cond_false, p_Two x (by omega), Option.bind_some, ← hv, decide_eq_true rfl, cond_true, hrest]
    have ho : (openR x).2 = false → (openR x).1 = -1 := by
      unfold openR
      cases x.segs.getLast? with
      | none => intro _; rfl
      | some s => dsimp only; split <;> simp
    cases h : (openR x).2 with
    | true => rfl
    | false => rw [cond_false, ho h, decide_eq_true rfl, cond_true]
  | succ q ih =>
    intro k n v hk hn hv
    obtain ⟨n, rfl⟩ : ∃ n', n = n' + 1 := ⟨n - 1, by omega⟩
    obtain ⟨e, he, hd⟩ := drop_step (show k < (keepL x).length by omega)
    rw [hd, List.any_cons] at hv
    rw [m_law11_ManifestNames_l2, decide_eq_true (show ((k : Int) < ((keepL x).length : Int)) by omega), cond_true, w64i (by omega), show ((k : Int) + 1) = ((k + 1 : Nat) : Int) by omega]
    cases v with
    | true => rw [cond_true]; exact ih (k + 1) n true (by omega) (by omega) (by rw [Bool.true_or] at hv ⊢; exact hv)
    | false =>
      rw [cond_false, idx_nat, he, Option.bind_some]
      exact ih (k + 1) n _ (by omega) (by omega) (by rw [Bool.false_or] at hv; exact hv)
theorem namesM_l1 (x : Mf) (hx : rightM x = true) (hT : twoB x = ((keepL x).drop 1).any fun e => decide (e.fmt = 2)) : ∀ (q k n : Nat) (v : Bool), q + k = x.segs.length → q < n → m_law11_ManifestNames_l1 x (keepL x) (openR x) n v k = some true := by
  have hl := ((head_iff x).1 ((right_iff11 x).1 hx).1).2.2.2.1
  intro q
  induction q with
  | zero =>
    intro k n v hk hn
    obtain ⟨n, rfl⟩ : ∃ n', n = n' + 1 := ⟨n - 1, by omega⟩
    rw [m_law11_ManifestNames_l1, decide_eq_false (show ¬ ((k : Int) < (x.segs.length : Int)) by omega), cond_false, show (1 : Int) = ((1 : Nat) : Int) from rfl]
    have h1 : 1 ≤ (keepL x).length := by rw [keep_len]; omega
    exact namesM_l2 x hx hT ((keepL x).length - 1) 1 fuelN false (by omega) (by have := keep_len x; unfold fuelN; split at this <;> omega) (by rw [Bool.false_or]; exact hT.symm)
  | succ q ih =>
    intro k n v hk hn
    obtain ⟨n, rfl⟩ : ∃ n', n = n' + 1 := ⟨n - 1, by omega⟩
    obtain ⟨e, he, hd⟩ := drop_step (show k < x.segs.length by omega)
    have ho := open_at hx k e he
    rw [m_law11_ManifestNames_l1, decide_eq_true (show ((k : Int) < (x.segs.length : Int)) by omega), cond_true, idx_nat, he, Option.bind_some, w64i (by omega), show ((k : Int) + 1) = ((k + 1 : Nat) : Int) by omega, ih (k + 1) n v (by omega) (by omega), ho]
    cases h : (openR x).2 with
    | true => rw [Bool.true_and, cond_true, decide_eq_false (fun h => h rfl), cond_false]
    | false => rw [Bool.false_and, cond_false, decide_eq_false (fun h => h rfl), cond_false]
theorem namesM_l4 (x : Mf) (r : List Id) (o : Int × Bool) : ∀ n a b, m_law11_ManifestNames_l4 x r o n a b = m_law11_ManifestNames_l2 x r o n a b := by
  intro n
  induction n with
  | zero => intros; rfl
  | succ n ih => intro a b; rw [m_law11_ManifestNames_l4, m_law11_ManifestNames_l2]; simp only [ih]
theorem namesM_l3 (x : Mf) (r : List Id) (o : Int × Bool) : ∀ n a b, m_law11_ManifestNames_l3 x r o n a b = m_law11_ManifestNames_l1 x r o n a b := by
  intro n
  induction n with
  | zero => intros; rfl
  | succ n ih => intro a b; rw [m_law11_ManifestNames_l3, m_law11_ManifestNames_l1]; simp only [ih, namesM_l4]
theorem p_ManifestNames (x : Mf) : m_law11_ManifestNames x = some true := by
  unfold m_law11_ManifestNames
  rw [p_great, Option.bind_some]
  by_cases h1 : 70 < x.segs.length
  · rw [decide_eq_true h1, cond_true, p_wakes11]; rfl
  rw [decide_eq_false h1, cond_false, p_Check11, Option.bind_some]
  by_cases hr : rightM x = true
  case neg =>
    have e2 : errM x = 2 := if_neg hr
    rw [e2, decide_eq_true (by decide), cond_true, p_wakes11]; rfl
  have e2 : errM x = 0 := if_pos hr
  have hT : twoB x = ((keepL x).drop 1).any fun e => decide (e.fmt = 2) := by
    obtain ⟨h2, _⟩ := (right_iff11 x).1 hr
    have a5 := ((head_iff x).1 h2).2.2.2.2
    unfold twoB keepL
    rw [List.drop_succ_cons, List.drop_zero, List.any_append, List.any_map]
    by_cases h0 : x.snap.seq = 0
    · rw [if_neg (fun h => h h0), decide_eq_false (by omega), List.any_nil]
      rfl
    · rw [if_pos h0, List.any_cons, List.any_nil, Bool.or_false]
      rfl
  have hlen := keep_len x
  have hN := p_Names (keepL x) (by rw [hlen]; split <;> omega) (keep_may hr) (keep_nodup hr)
  have hO : m_manifest_Open x = some (openR x) := p_OpenM x (by omega)
  have hi : idx (keepL x) 0 = some ⟨1, 0, 0⟩ := rfl
  have hw : ∀ v, m_law11_ManifestNames_l1 x (keepL x) (openR x) fuelN v 0 = some true := fun v => namesM_l1 x hr hT x.segs.length 0 fuelN v (by omega) (by unfold fuelN; omega)
  rw [e2, decide_eq_false (fun h => h rfl), cond_false, p_KeepM x (by omega), Option.bind_some, w64i (n := 1 + (x.segs.length : Int)) (by omega), w64i (n := 1 + (x.segs.length : Int) + 1) (by omega), hN, hO, hi]
  simp only [Option.bind_some, namesM_l3, hw]
  by_cases h0 : x.snap.seq = 0
  · rw [if_neg (fun h => h h0)] at hlen
    rw [decide_eq_false (fun h => h h0), cond_false, decide_eq_false (by omega)]
    rfl
  · rw [if_pos h0] at hlen
    rw [decide_eq_true h0, cond_true, decide_eq_false (by omega)]
    rfl
/-! ### One number that may not be -/
theorem not_right_seg {x : Mf} {s : Sg} (hs : s ∈ x.segs) (hb : ¬ ((1 ≤ s.seq ∧ s.seq ≤ x.next - 1) ∧ (1 ≤ s.fmt ∧ s.fmt ≤ 2) ∧ (1 ≤ s.first ∧ s.first ≤ 1073741820) ∧ (-1 ≤ s.count ∧ s.count ≤ 4))) : errM x = 2 :=
  if_neg fun h => hb (chk_all _ _ _ _ _ ((right_iff11 x).1 h).2 s hs)
theorem not_head {x : Mf} (h : ¬ ((1 ≤ x.next ∧ x.next ≤ 1073741824) ∧ (0 ≤ x.term ∧ x.term ≤ 1073741824) ∧ (0 ≤ x.vote ∧ x.vote ≤ 5) ∧ x.segs.length ≤ 60 ∧ ((x.snap.seq = 0 ∧ x.snap.fmt = 0) ∨ (1 ≤ x.snap.seq ∧ x.snap.seq ≤ x.next - 1) ∧ (1 ≤ x.snap.fmt ∧ x.snap.fmt ≤ 2)))) : errM x = 2 :=
  if_neg fun h' => h ((head_iff x).1 ((right_iff11 x).1 h').1)
theorem err_ne {o x : Mf} (h : errM o = 2) (hx : rightM x = true) : o ≠ x := fun e => by
  rw [e] at h
  have : errM x = 0 := if_pos hx
  rw [this] at h
  cases h
/-- A segment that may not be is found, and the manifest is another one. -/
theorem one_step {x o : Mf} {R : Option Bool} (hx : rightM x = true) (hl : o.segs.length ≤ 1000) (h : errM o = 2) (hR : R = some true) :
    ((m_manifest_Check o).bind fun r => cond (decide (r ≠ 2)) (some false) ((m_manifest_Same o x).bind fun r2 => cond r2 (some false) R)) = some true := by
  rw [p_Check, Option.bind_some, h, decide_eq_false (fun h => h rfl), cond_false, p_SameM o x (by omega), Option.bind_some, decide_eq_false (err_ne h hx), cond_false, hR]
theorem p_ManifestOne (x : Mf) (a n : Int) : m_law11_ManifestOne x a n = some true := by
  unfold m_law11_ManifestOne
  by_cases h1 : (59 : Int) < (x.segs.length : Int)
  · rw [decide_eq_true h1, cond_true, p_wakes11]; rfl
  rw [decide_eq_false h1, cond_false, p_Check11, Option.bind_some]
  by_cases hr : rightM x = true
  case neg =>
    have e2 : errM x = 2 := if_neg hr
    rw [e2, decide_eq_true (by decide), cond_true, p_wakes11]; rfl
  have e2 : errM x = 0 := if_pos hr
  rw [e2, decide_eq_false (fun h => h rfl), cond_false]
  by_cases h2 : n < 1
  · rw [decide_eq_true h2, cond_true, p_wakes11]; rfl
  rw [decide_eq_false h2, cond_false]
  by_cases h3 : 1073741824 < n
  · rw [decide_eq_true h3, cond_true, p_wakes11]; rfl
  obtain ⟨hh, hc⟩ := (right_iff11 x).1 hr
  obtain ⟨a1, a2, a3, a4, a5⟩ := (head_iff x).1 hh
  have w1 : IntKind.wrap .i64 (0 - n) = -n := by rw [w64i (by omega)]; omega
  have w2 : IntKind.wrap .i64 (5 + n) = 5 + n := w64i (by omega)
  have w3 : IntKind.wrap .i64 (IntKind.wrap .i64 (x.next - 1) + n) = x.next - 1 + n := by rw [w64i (n := x.next - 1) (by omega), w64i (by omega)]
  have w4 : IntKind.wrap .i64 (2 + n) = 2 + n := w64i (by omega)
  have w5 : IntKind.wrap .i64 (4 + n) = 4 + n := w64i (by omega)
  have w6 : IntKind.wrap .i64 ((-1) - n) = -1 - n := w64i (by omega)
  have k1 : errM ⟨-n, x.term, x.vote, x.snap, x.segs⟩ = 2 := not_head fun h => by have := h.1; (try dsimp only at this); omega
  have k2 : errM ⟨x.next, -n, x.vote, x.snap, x.segs⟩ = 2 := not_head fun h => by have := h.2.1; (try dsimp only at this); omega
  have k3 : errM ⟨x.next, x.term, 5 + n, x.snap, x.segs⟩ = 2 := not_head fun h => by have := h.2.2.1; (try dsimp only at this); omega
  have k4 : errM ⟨x.next, x.term, x.vote, ⟨x.next - 1 + n, 1⟩, x.segs⟩ = 2 := not_head fun h => by have := h.2.2.2.2; (try dsimp only at this); omega
  rw [decide_eq_false h3, cond_false, p_Own11 x (by omega), Option.bind_some, Option.bind_some, Option.bind_some, Option.bind_some, w1, w2, w3, w4, w5, w6, p_Check, Option.bind_some, k1, decide_eq_false (fun h => h rfl), cond_false, p_Check, Option.bind_some, k2, decide_eq_false (fun h => h rfl), cond_false, p_Check, Option.bind_some, k3, decide_eq_false (fun h => h rfl), cond_false, p_Check, Option.bind_some, k4, decide_eq_false (fun h => h rfl), cond_false]
  rcases Nat.eq_zero_or_pos x.segs.length with h0 | h0
  · rw [decide_eq_true (by omega), cond_true, p_wakes11]; rfl
  obtain ⟨k, hk, ⟨q1, hq1⟩, ⟨q2, hq2⟩, hq3⟩ := rem_len a x.segs.length h0 (by omega)
  obtain ⟨s, hs, _⟩ := drop_step hk
  rw [decide_eq_false (by omega), cond_false, hq1, Option.bind_some, hq2, Option.bind_some, hq3, Option.bind_some, idx_nat, hs, Option.bind_some]
  have hset : ∀ t : Sg, setI x.segs (k : Int) t = x.segs.set k t := fun t => by unfold setI; rw [Int.toNat_natCast]
  have hmem : ∀ t : Sg, t ∈ x.segs.set k t := fun t => List.mem_iff_getElem?.2 ⟨k, by rw [List.getElem?_set_self hk]⟩
  have hls : ∀ t : Sg, (x.segs.set k t).length ≤ 1000 := fun t => by rw [List.length_set]; omega
  have hseg : ∀ t : Sg, ¬ ((1 ≤ t.seq ∧ t.seq ≤ x.next - 1) ∧ (1 ≤ t.fmt ∧ t.fmt ≤ 2) ∧ (1 ≤ t.first ∧ t.first ≤ 1073741820) ∧ (-1 ≤ t.count ∧ t.count ≤ 4)) → errM ⟨x.next, x.term, x.vote, x.snap, x.segs.set k t⟩ = 2 := fun t hb => not_right_seg (x := ⟨x.next, x.term, x.vote, x.snap, x.segs.set k t⟩) (s := t) (hmem t) hb
  simp only [hset, idx_nat, hs, Option.bind_some]
  refine one_step hr (hls _) (hseg ⟨x.next - 1 + n, s.fmt, s.first, s.count⟩ (by dsimp only; omega)) ?_
  refine one_step hr (hls _) (hseg ⟨s.seq, 2 + n, s.first, s.count⟩ (by dsimp only; omega)) ?_
  refine one_step hr (hls _) (hseg ⟨s.seq, s.fmt, -n, s.count⟩ (by dsimp only; omega)) ?_
  refine one_step hr (hls _) (hseg ⟨s.seq, s.fmt, s.first, 4 + n⟩ (by dsimp only; omega)) ?_
  refine one_step hr (hls _) (hseg ⟨s.seq, s.fmt, s.first, -1 - n⟩ (by dsimp only; omega)) ?_
  rw [fewI_ok _ (by rw [List.length_append]; simp; omega), Option.bind_some]
  refine one_step hr (by rw [List.length_append]; simp; omega) ?_ ?_
  · refine if_neg fun h => ?_
    have := (chk_nodup _ _ _ _ _ ((right_iff11 _).1 h).2).1
    rw [List.map_append] at this
    have h5 := (List.nodup_append.1 this).2.2 s.seq (List.mem_map.2 ⟨s, List.mem_of_getElem? hs, rfl⟩) s.seq (by simp)
    exact h5 rfl
  · rw [p_SameM x x (by omega), Option.bind_some, decide_eq_true rfl, cond_true, p_wakes11]; rfl
end Go.Proofs.YtofheinbbefbcaaDoor
