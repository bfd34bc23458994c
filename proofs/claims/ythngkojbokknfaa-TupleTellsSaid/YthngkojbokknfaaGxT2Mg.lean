/- What functions compute, in plain terms, and that they do; printed. -/
import Derived.Test.YthngkojbokknfaaGxTFMg
import Derived.Test.YthngkojbokknfaaGxTDMg
import Derived.Test.YthngkojbokknfaaGxT1Mg
namespace Go.Proofs.Ythngkojbokknfaa
open Go Go.RowKit
set_option maxRecDepth 10000
set_option maxHeartbeats 4000000
theorem c_ref12_State (x0 : Tu) (x1 : Int) (A0_ : Option Addr) (c0_ : Nat) (w0 : World) (s0_ : SlI w0 enE A0_ c0_ x0.log) {r : St × Bool} (H : m_ref12_State x0 x1 = some r) : Calls Try.prog 31 #[.agg #[.int .i64 x0.snap.index, .int .i64 x0.snap.term, .int .i64 x0.snap.sum, .int .i64 x0.snap.level, .bool x0.snap.final, .slice A0_ x0.log.length c0_, .int .i64 x0.term, .int .i64 x0.vote], .int .i64 x1] w0 fun e w' => e = .returned (.tuple #[.agg #[.int .i64 r.1.index, .int .i64 r.1.term, .int .i64 r.1.sum, .int .i64 r.1.level, .bool r.1.final], .bool r.2]) ∧ St0 All w0 w' [] := by
  unfold m_ref12_State at H
  refine gw_enter2 Try.func31 rfl Try.ntmps31 rfl ?_
  have hS := St0.start All w0
  refine wpC_seq_k (fun K hK1 => ?_)
  refine wpC_region ?_
  refine wpS_box rfl rfl rfl CellsOf.agg hS (fun b2 w hS hB => ?_)
  refine wpS_alloc rfl rfl zc_23 hS (fun b4 w hS hB => ?_)
  refine wpS_quick 1 rfl ?_
  refine wpS_nil ?_
  refine QH_seq_k hK1 ?_
  refine wpC_seq_k (fun K hK6 => ?_)
  refine wpC_seq_k (fun K hK7 => ?_)
  refine wpC_region ?_
  refine wpS_quick 1 rfl ?_
  refine wpS_put rfl rfl rfl (yv_fieldAddr fo_26_0 rfl) ?_
  refine wpS_put rfl rfl rfl (yv_fieldAddr fo_23_0 rfl) ?_
  refine wpS_put rfl rfl rfl (yv_load_box sc_3 rfl (RW.here _) hS hs1 trivial sg0_1) ?_
  refine wpS_put rfl rfl rfl (yv_lss rfl rfl) ?_
  refine wpS_quick 1 rfl ?_
  refine wpS_case 11 rfl (fun hb => ?_) (fun hb => ?_)
  · replace H := cond_t H hb
    refine wpS_quick 5 rfl ?_
    refine wpS_nil ?_
    refine QH_seq_k hK7 ?_
    refine wpC_cond_t rfl rfl ?_
    refine wpC_seq_k (fun K hK8 => ?_)
    refine wpC_region ?_
    refine wpS_put rfl rfl rfl (yv_build (cells := [.int .i64 0, .int .i64 0, .int .i64 0, .int .i64 0, .bool false]) rfl (by kernel_rfl)) ?_
    refine wpS_store rfl rfl rfl CellsOf.agg hS ps0 st0_5 (by kernel_rfl) rfl (fun w hS hB => ?_)
    refine wpS_quick 1 rfl ?_
    refine wpS_nil ?_
    refine QH_seq_k hK8 ?_
    refine wpC_ret ?_
    refine QH_then_ret ?_
    refine QH_ret rfl (RV.cell rfl (load_boxA ag_23 hS hs0 sg0_5) (RV.tmp rfl RV.nil)) rfl ?_
    obtain rfl := Option.some.inj H
    replace hS := hS.cut 0
    exact ⟨rfl, hS⟩
  · replace H := cond_f H hb
    refine wpS_quick 1 rfl ?_
    refine wpS_put rfl rfl rfl (yv_load_boxA ag_26 rfl (RW.here _) hS hs1 trivial sg0_8) ?_
    obtain ⟨r9, hm10, H⟩ := bind_some H
    refine wpS_call rfl rfl rfl rfl (by kernel_rfl) rfl (c_ref12_Last x0 A0_ c0_ _ (SlI.of_rd s0_.k (hS.rd0 s0_.rd) (hS.blk0 s0_.blk)) hm10) ?_
    rintro e w ⟨rfl, hN⟩; refine ⟨_, rfl, ?_⟩; have hB := hN.pure; have hS := hS.join hN; clear hN
    refine wpS_put rfl rfl rfl (yv_gtr rfl rfl) ?_
    refine wpS_quick 1 rfl ?_
    refine wpS_nil ?_
    refine QH_seq_k hK7 ?_
    refine wpC_cond rfl (fun hb => ?_) (fun hb => ?_)
    · replace H := cond_t H hb
      refine wpC_seq_k (fun K hK11 => ?_)
      refine wpC_region ?_
      refine wpS_put rfl rfl rfl (yv_build (cells := [.int .i64 0, .int .i64 0, .int .i64 0, .int .i64 0, .bool false]) rfl (by kernel_rfl)) ?_
      refine wpS_store rfl rfl rfl CellsOf.agg hS ps0 st0_5 (by kernel_rfl) rfl (fun w hS hB => ?_)
      refine wpS_quick 1 rfl ?_
      refine wpS_nil ?_
      refine QH_seq_k hK11 ?_
      refine wpC_ret ?_
      refine QH_then_ret ?_
      refine QH_ret rfl (RV.cell rfl (load_boxA ag_23 hS hs0 sg0_5) (RV.tmp rfl RV.nil)) rfl ?_
      obtain rfl := Option.some.inj H
      replace hS := hS.cut 0
      exact ⟨rfl, hS⟩
    · replace H := cond_f H hb
      refine wpC_skip ?_
      refine QH_seq_k hK6 ?_
      refine wpC_seq_k (fun K hK12 => ?_)
      refine wpC_draw 13 [11] (fun i b => (i = 11 → b ≠ b4)) ⟨by kernel_rfl, by kernel_rfl⟩ hS (fun w hS hB => ?_)
      refine wpR_batch [true, true, true, true, true, true, true, true, true, true] (by decide +kernel) (by repeat (first | exact PF.body | exact PF.round | apply PF.then | apply PF.inBlock | apply PF.jump)) ?_
      refine LtK.put rfl rfl rfl (yv_fieldAddr fo_26_0 rfl) ?_
      refine LtK.put rfl rfl rfl (yv_load_boxA ag_23 rfl (RW.below _) hS hs1 trivial sg0_5) ?_
      refine LtK.put rfl rfl rfl (yv_fieldAddr fo_26_1 rfl) ?_
      refine LtK.put rfl rfl rfl (yv_load_box sc_24 rfl (RW.below _) hS hs1 trivial sg5_1) ?_
      refine LtK.put rfl rfl rfl (yv_move rfl) ?_
      refine LtK.put rfl rfl rfl (yv_fieldAddr fo_26_0 rfl) ?_
      refine LtK.put rfl rfl rfl (yv_fieldAddr fo_23_0 rfl) ?_
      refine LtK.put rfl rfl rfl (yv_load_box sc_3 rfl (RW.below _) hS hs1 trivial sg0_1) ?_
      refine LtK.put rfl rfl rfl (yx_sub rfl rfl) ?_
      obtain ⟨l13, ht14, H⟩ := bind_some H
      refine LtK.put rfl rfl rfl (yx_slice_h el_24 rfl rfl s0_.k.1 ht14) ?_
      refine LtK.nil ?_
      refine wpR_call [false, false, false, false, false, false, false, false, false, false, true] 10 ⟨by decide, by kernel_rfl, by kernel_rfl⟩ rfl rfl ?_
      dsimp only [pickL]
      obtain ⟨r15, hm16, H⟩ := bind_some H
      refine wpS_call rfl rfl rfl rfl (by kernel_rfl) rfl (c_ref06_All x0.snap l13 A0_ c0_ _ (SlI.of_rd (k_take s0_.k ht14) (Rd.takeI he_enE (hS.rd0 s0_.rd) ht14) (hS.blk0 s0_.blk)) hm16) ?_
      rintro e w ⟨rfl, hN⟩; refine ⟨_, rfl, ?_⟩; have hB := hN.pure; have hS := hS.join hN; clear hN
      refine wpS_nil ?_
      refine QH_step hB ?_
      refine wpR_seal [false, false, false, false, false, false, false, false, false, false, false, true] 11 ⟨by decide, by kernel_rfl, by kernel_rfl⟩ rfl rfl ?_
      dsimp only [pickL]
      refine wpS_store rfl rfl rfl CellsOf.agg hS ps0 st0_5 (by kernel_rfl) rfl (fun w hS hB => ?_)
      refine wpS_nil ?_
      refine QH_stepG (hB.sub (fun _ _ h => by simpa using h)) ?_
      refine wpR_batch [false, false, false, false, false, false, false, false, false, false, false, false, true] (by decide +kernel) (by repeat (first | exact PF.body | exact PF.round | apply PF.then | apply PF.inBlock | apply PF.jump)) ?_
      refine LtK.put rfl rfl rfl (yv_assign rfl) ?_
      refine LtK.nil ?_
      refine wpR_end (by kernel_rfl) ?_
      refine QH_seq_k hK12 ?_
      refine wpC_ret ?_
      refine QH_ret rfl (RV.cell rfl (load_boxA ag_23 hS hs0 sg0_5) (RV.tmp rfl RV.nil)) rfl ?_
      obtain rfl := Option.some.inj H
      replace hS := hS.cut 0
      exact ⟨rfl, hS⟩
theorem c_ref12_First (w0 : World) {r : Tu} (H : m_ref12_First = some r) : Calls Try.prog 35 #[] w0 fun e w' => ∃ (A0 : Option Addr) (c0 : Nat), e = .returned (.agg #[.int .i64 r.snap.index, .int .i64 r.snap.term, .int .i64 r.snap.sum, .int .i64 r.snap.level, .bool r.snap.final, .slice A0 r.log.length c0, .int .i64 r.term, .int .i64 r.vote]) ∧ (r.log.length ≤ c0 ∧ c0 ≤ maxLen) ∧ St0 All w0 w' [.rd A0 (encs enE r.log)] := by
  unfold m_ref12_First at H
  refine gw_enter0 Try.func35 rfl Try.ntmps35 rfl ?_
  have hS := St0.start All w0
  refine wpC_seq_k (fun K hK1 => ?_)
  refine wpC_region ?_
  refine wpS_alloc rfl rfl zc_26 hS (fun b2 w hS hB => ?_)
  refine wpS_nil ?_
  refine QH_seq_k hK1 ?_
  refine wpC_seq_k (fun K hK4 => ?_)
  refine wpC_region ?_
  obtain ⟨r5, hm6, H⟩ := bind_some H
  refine wpS_call rfl rfl rfl rfl (by kernel_rfl) rfl (c_ref06_First _ hm6) ?_
  rintro e w ⟨rfl, hN⟩; refine ⟨_, rfl, ?_⟩; have hB := hN.pure; have hS := hS.join hN; clear hN
  refine wpS_put rfl rfl rfl (yv_build (cells := [.int .i64 r5.index, .int .i64 r5.term, .int .i64 r5.sum, .int .i64 r5.level, .bool r5.final, .slice none 0 0, .int .i64 0, .int .i64 0]) rfl (by kernel_rfl)) ?_
  refine wpS_store rfl rfl rfl CellsOf.agg hS ps0 st0_8 (by kernel_rfl) rfl (fun w hS hB => ?_)
  refine wpS_nil ?_
  refine QH_seq_k hK4 ?_
  refine wpC_ret ?_
  refine QH_ret rfl (RV.cell rfl (load_boxA ag_26 hS hs0 sg0_8) RV.nil) rfl ?_
  obtain rfl := Option.some.inj H
  have hS := hS.nilRd
  replace hS := hS.cut 1
  exact ⟨none, 0, rfl, ⟨Nat.le_refl _, Nat.zero_le _⟩, hS⟩
theorem c_slices_Equal___api_Entry_api_Entry_ (x0 : List En) (x1 : List En) (A0_ : Option Addr) (c0_ : Nat) (A1_ : Option Addr) (c1_ : Nat) (w0 : World) (s0_ : SlI w0 enE A0_ c0_ x0) (s1_ : SlI w0 enE A1_ c1_ x1) {r : Bool} (H : m_slices_Equal___api_Entry_api_Entry_ x0 x1 = some r) : Calls Try.prog 59 #[.slice A0_ x0.length c0_, .slice A1_ x1.length c1_] w0 fun e w' => e = .returned (.bool r) ∧ St0 All w0 w' [] := by
  unfold m_slices_Equal___api_Entry_api_Entry_ at H
  refine gw_enter2 Try.func59 rfl Try.ntmps59 rfl ?_
  have hS := St0.start All w0
  refine wpC_seq_k (fun K hK1 => ?_)
  refine wpC_region ?_
  refine wpS_quick 1 rfl ?_
  refine wpS_nil ?_
  refine QH_seq_k hK1 ?_
  refine wpC_seq_k (fun K hK2 => ?_)
  refine wpC_seq_k (fun K hK3 => ?_)
  refine wpC_region ?_
  refine wpS_quick 1 rfl ?_
  refine wpS_put rfl rfl rfl (yv_len el_24 rfl) ?_
  refine wpS_quick 1 rfl ?_
  refine wpS_put rfl rfl rfl (yv_len el_24 rfl) ?_
  refine wpS_put rfl rfl rfl (yv_neq rfl rfl) ?_
  refine wpS_nil ?_
  refine QH_seq_k hK3 ?_
  refine wpC_cond rfl (fun hb => ?_) (fun hb => ?_)
  · replace H := cond_t H hb
    refine wpC_seq_k (fun K hK4 => ?_)
    refine wpC_region ?_
    refine wpS_quick 1 rfl ?_
    refine wpS_nil ?_
    refine QH_seq_k hK4 ?_
    refine wpC_ret ?_
    refine QH_then_ret ?_
    refine QH_ret rfl (RV.tmp rfl RV.nil) rfl ?_
    obtain rfl := Option.some.inj H
    replace hS := hS.cut 0
    exact ⟨rfl, hS⟩
  · replace H := cond_f H hb
    refine wpC_skip ?_
    refine QH_seq_k hK2 ?_
    refine wpC_seq_k (fun K hK5 => ?_)
    refine wpC_seq_k (fun K hK6 => ?_)
    refine wpC_region ?_
    refine wpS_quick 1 rfl ?_
    refine wpS_put rfl rfl rfl (yv_len el_24 rfl) ?_
    refine wpS_quick 1 rfl ?_
    refine wpS_nil ?_
    refine QH_seq_k hK6 ?_
    refine wpC_block ?_
    refine wpC_loop (X := Nat × Bool × Int) (fun x => [(0, .slice A0_ x0.length c0_), (1, .slice A1_ x1.length c1_), (4, .bool x.2.1), (12, .int .i64 (x0.length : Int)), (13, .int .i64 x.2.2)]) (fun x w => St0 All w0 w [] ∧ m_slices_Equal___api_Entry_api_Entry__l1 x0 x1 x.1 x.2.1 x.2.2 = some r) (fun x => x.1) (fuelN, false, 0) (by repeat (first | exact Sub.nil | refine Sub.cons rfl ?_)) ⟨hS, H⟩ ?_
    rintro ⟨n, v7, v8⟩ w ⟨hS, H⟩
    dsimp only at hS H ⊢
    obtain _ | n := n
    · have H0 : none = some r := H
      cases H0
    rw [m_slices_Equal___api_Entry_api_Entry__l1] at H
    refine wpC_seq_k (fun K hK9 => ?_)
    refine wpC_region ?_
    refine wpS_put rfl rfl rfl (yv_lss rfl rfl) ?_
    refine wpS_nil ?_
    refine QH_seq_k hK9 ?_
    refine wpC_seq_k (fun K hK10 => ?_)
    refine wpC_cond rfl (fun hb => ?_) (fun hb => ?_)
    · replace H := cond_t H hb
      refine wpC_skip ?_
      refine QH_seq_k hK10 ?_
      refine wpC_seq_k (fun K hK11 => ?_)
      refine wpC_block ?_
      refine wpC_seq_k (fun K hK12 => ?_)
      refine wpC_region ?_
      refine wpS_quick 2 rfl ?_
      refine wpS_nil ?_
      refine QH_seq_k hK12 ?_
      refine wpC_seq_k (fun K hK13 => ?_)
      refine wpC_draw 9 [] (fun _ _ => True) ⟨by kernel_rfl, by kernel_rfl⟩ hS (fun w hS hB => ?_)
      refine wpR_batch [true, true, true, true, true, true, true, true, true] (by decide +kernel) (by repeat (first | exact PF.body | exact PF.round | apply PF.then | apply PF.inBlock | apply PF.jump)) ?_
      refine LtK.put rfl rfl rfl (yv_move rfl) ?_
      refine LtK.put rfl rfl rfl (yv_move rfl) ?_
      obtain ⟨e14, hi16, H⟩ := bind_some H
      obtain ⟨j15, hi16a, hi16b, hi16c⟩ := idx_some hi16
      refine LtK.put rfl rfl rfl (yx_idx el_24 rfl rfl hi16a hi16c (Rd.el (hS.rd0 s0_.rd) he_enE hi16b)) ?_
      refine LtK.put rfl rfl rfl (yx_ldA0 ag_50 rfl (RW.below _) (Rd.el (hS.rd0 s0_.rd) he_enE hi16b) sg0_3) ?_
      refine LtK.put rfl rfl rfl (yv_move rfl) ?_
      refine LtK.put rfl rfl rfl (yv_move rfl) ?_
      obtain ⟨e17, hi19, H⟩ := bind_some H
      obtain ⟨j18, hi19a, hi19b, hi19c⟩ := idx_some hi19
      refine LtK.put rfl rfl rfl (yx_idx el_24 rfl rfl hi19a hi19c (Rd.el (hS.rd0 s1_.rd) he_enE hi19b)) ?_
      refine LtK.put rfl rfl rfl (yx_ldA0 ag_50 rfl (RW.below _) (Rd.el (hS.rd0 s1_.rd) he_enE hi19b) sg0_3) ?_
      refine LtK.put rfl rfl rfl (yv_neqS (by kernel_rfl) rfl rfl (eqT_50 _ _ _ _ _ _)) ?_
      refine LtK.nil ?_
      refine wpR_end (by kernel_rfl) ?_
      refine QH_seq_k hK13 ?_
      refine wpC_cond rfl (fun hb => ?_) (fun hb => ?_)
      · replace H := cond_t H hb
        refine wpC_seq_k (fun K hK20 => ?_)
        refine wpC_region ?_
        refine wpS_quick 1 rfl ?_
        refine wpS_nil ?_
        refine QH_seq_k hK20 ?_
        refine wpC_ret ?_
        refine QH_block_ret ?_
        refine QH_then_ret ?_
        refine QH_then_ret ?_
        refine QH_block_ret ?_
        refine QH_then_ret ?_
        refine QH_ret rfl (RV.tmp rfl RV.nil) rfl ?_
        obtain rfl := Option.some.inj H
        replace hS := hS.cut 0
        exact ⟨rfl, hS⟩
      · replace H := cond_f H hb
        refine wpC_skip ?_
        refine QH_block_normal ?_
        refine QH_seq_k hK11 ?_
        refine wpC_region ?_
        refine wpS_put rfl rfl rfl (yx_add rfl rfl) ?_
        refine wpS_quick 1 rfl ?_
        refine wpS_nil ?_
        exact QH_again (n, v7, (IntKind.wrap .i64 (v8 + 1))) (by repeat (first | exact Sub.nil | refine Sub.cons rfl ?_)) ⟨hS, H⟩ (Nat.lt_succ_self _)
    · replace H := cond_f H hb
      refine wpC_exit ?_
      refine QH_then_exit ?_
      refine QH_then_exit ?_
      refine QH_block_hit ?_
      refine QH_seq_k hK5 ?_
      refine wpC_seq_k (fun K hK21 => ?_)
      refine wpC_region ?_
      refine wpS_quick 1 rfl ?_
      refine wpS_nil ?_
      refine QH_seq_k hK21 ?_
      refine wpC_ret ?_
      refine QH_ret rfl (RV.tmp rfl RV.nil) rfl ?_
      obtain rfl := Option.some.inj H
      replace hS := hS.cut 0
      exact ⟨rfl, hS⟩
theorem c_tuple_Same (x0 : Tu) (x1 : Tu) (A0_ : Option Addr) (c0_ : Nat) (A1_ : Option Addr) (c1_ : Nat) (w0 : World) (s0_ : SlI w0 enE A0_ c0_ x0.log) (s1_ : SlI w0 enE A1_ c1_ x1.log) {r : Bool} (H : m_tuple_Same x0 x1 = some r) : Calls Try.prog 36 #[.agg #[.int .i64 x0.snap.index, .int .i64 x0.snap.term, .int .i64 x0.snap.sum, .int .i64 x0.snap.level, .bool x0.snap.final, .slice A0_ x0.log.length c0_, .int .i64 x0.term, .int .i64 x0.vote], .agg #[.int .i64 x1.snap.index, .int .i64 x1.snap.term, .int .i64 x1.snap.sum, .int .i64 x1.snap.level, .bool x1.snap.final, .slice A1_ x1.log.length c1_, .int .i64 x1.term, .int .i64 x1.vote]] w0 fun e w' => e = .returned (.bool r) ∧ St0 All w0 w' [] := by
  unfold m_tuple_Same at H
  refine gw_enter2 Try.func36 rfl Try.ntmps36 rfl ?_
  have hS := St0.start All w0
  refine wpC_seq_k (fun K hK1 => ?_)
  refine wpC_region ?_
  refine wpS_box rfl rfl rfl CellsOf.agg hS (fun b2 w hS hB => ?_)
  refine wpS_box rfl rfl rfl CellsOf.agg hS (fun b4 w hS hB => ?_)
  refine wpS_quick 1 rfl ?_
  refine wpS_nil ?_
  refine QH_seq_k hK1 ?_
  refine wpC_seq_k (fun K hK6 => ?_)
  refine wpC_region ?_
  refine wpS_put rfl rfl rfl (yv_fieldAddr fo_26_0 rfl) ?_
  refine wpS_put rfl rfl rfl (yv_load_boxA ag_23 rfl (RW.here _) hS hs1 trivial sg0_5) ?_
  refine wpS_put rfl rfl rfl (yv_fieldAddr fo_26_0 rfl) ?_
  refine wpS_put rfl rfl rfl (yv_load_boxA ag_23 rfl (RW.here _) hS hs0 trivial sg0_5) ?_
  refine wpS_put rfl rfl rfl (yv_eqlS (by kernel_rfl) rfl rfl (eqT_23 _ _ _ _ _ _ _ _ _ _)) ?_
  refine wpS_quick 1 rfl ?_
  refine wpS_case 10 rfl (fun hb => ?_) (fun hb => ?_)
  · replace H := cond_t H hb
    refine wpS_put rfl rfl rfl (yv_fieldAddr fo_26_2 rfl) ?_
    refine wpS_put rfl rfl rfl (yv_load_box sc_3 rfl (RW.here _) hS hs1 trivial sg6_1) ?_
    refine wpS_put rfl rfl rfl (yv_fieldAddr fo_26_2 rfl) ?_
    refine wpS_put rfl rfl rfl (yv_load_box sc_3 rfl (RW.here _) hS hs0 trivial sg6_1) ?_
    refine wpS_put rfl rfl rfl (yv_eql rfl rfl) ?_
    refine wpS_quick 2 rfl ?_
    refine wpS_case 17 rfl (fun hb => ?_) (fun hb => ?_)
    · replace H := cond_t H hb
      refine wpS_put rfl rfl rfl (yv_fieldAddr fo_26_3 rfl) ?_
      refine wpS_put rfl rfl rfl (yv_load_box sc_3 rfl (RW.here _) hS hs1 trivial sg7_1) ?_
      refine wpS_put rfl rfl rfl (yv_fieldAddr fo_26_3 rfl) ?_
      refine wpS_put rfl rfl rfl (yv_load_box sc_3 rfl (RW.here _) hS hs0 trivial sg7_1) ?_
      refine wpS_put rfl rfl rfl (yv_eql rfl rfl) ?_
      refine wpS_quick 2 rfl ?_
      refine wpS_case 24 rfl (fun hb => ?_) (fun hb => ?_)
      · replace H := cond_t H hb
        refine wpS_put rfl rfl rfl (yv_fieldAddr fo_26_1 rfl) ?_
        refine wpS_put rfl rfl rfl (yv_load_box sc_24 rfl (RW.here _) hS hs1 trivial sg5_1) ?_
        refine wpS_put rfl rfl rfl (yv_fieldAddr fo_26_1 rfl) ?_
        refine wpS_put rfl rfl rfl (yv_load_box sc_24 rfl (RW.here _) hS hs0 trivial sg5_1) ?_
        obtain ⟨r7, hm8, H⟩ := bind_some H
        refine wpS_call rfl rfl rfl rfl (by kernel_rfl) rfl (c_slices_Equal___api_Entry_api_Entry_ x0.log x1.log A0_ c0_ A1_ c1_ _ (SlI.of_rd s0_.k (hS.rd0 s0_.rd) (hS.blk0 s0_.blk)) (SlI.of_rd s1_.k (hS.rd0 s1_.rd) (hS.blk0 s1_.blk)) hm8) ?_
        rintro e w ⟨rfl, hN⟩; refine ⟨_, rfl, ?_⟩; have hB := hN.pure; have hS := hS.join hN; clear hN
        refine wpS_quick 2 rfl ?_
        refine wpS_nil ?_
        refine QH_seq_k hK6 ?_
        refine wpC_ret ?_
        refine QH_ret rfl (RV.tmp rfl RV.nil) rfl ?_
        obtain rfl := Option.some.inj H
        replace hS := hS.cut 0
        exact ⟨rfl, hS⟩
      · replace H := cond_f H hb
        refine wpS_quick 7 rfl ?_
        refine wpS_nil ?_
        refine QH_seq_k hK6 ?_
        refine wpC_ret ?_
        refine QH_ret rfl (RV.tmp rfl RV.nil) rfl ?_
        obtain rfl := Option.some.inj H
        replace hS := hS.cut 0
        exact ⟨rfl, hS⟩
    · replace H := cond_f H hb
      refine wpS_quick 14 rfl ?_
      refine wpS_nil ?_
      refine QH_seq_k hK6 ?_
      refine wpC_ret ?_
      refine QH_ret rfl (RV.tmp rfl RV.nil) rfl ?_
      obtain rfl := Option.some.inj H
      replace hS := hS.cut 0
      exact ⟨rfl, hS⟩
  · replace H := cond_f H hb
    refine wpS_quick 21 rfl ?_
    refine wpS_nil ?_
    refine QH_seq_k hK6 ?_
    refine wpC_ret ?_
    refine QH_ret rfl (RV.tmp rfl RV.nil) rfl ?_
    obtain rfl := Option.some.inj H
    replace hS := hS.cut 0
    exact ⟨rfl, hS⟩
theorem c_law12_TupleTells (x0 : Tu) (x1 : Tu) (x2 : List En) (x3 : St) (x4 : Int) (x5 : Int) (x6 : Int) (A0_ : Option Addr) (c0_ : Nat) (A1_ : Option Addr) (c1_ : Nat) (A2_ : Option Addr) (c2_ : Nat) (w0 : World) (s0_ : SlI w0 enE A0_ c0_ x0.log) (s1_ : SlI w0 enE A1_ c1_ x1.log) (s2_ : SlI w0 enE A2_ c2_ x2) {r : Bool} (H : m_law12_TupleTells x0 x1 x2 x3 x4 x5 x6 = some r) : Calls Try.prog 7 #[.agg #[.int .i64 x0.snap.index, .int .i64 x0.snap.term, .int .i64 x0.snap.sum, .int .i64 x0.snap.level, .bool x0.snap.final, .slice A0_ x0.log.length c0_, .int .i64 x0.term, .int .i64 x0.vote], .agg #[.int .i64 x1.snap.index, .int .i64 x1.snap.term, .int .i64 x1.snap.sum, .int .i64 x1.snap.level, .bool x1.snap.final, .slice A1_ x1.log.length c1_, .int .i64 x1.term, .int .i64 x1.vote], .slice A2_ x2.length c2_, .agg #[.int .i64 x3.index, .int .i64 x3.term, .int .i64 x3.sum, .int .i64 x3.level, .bool x3.final], .int .i64 x4, .int .i64 x5, .int .i64 x6] w0 fun e w' => e = .returned (.bool r) ∧ St0 All w0 w' [] := by
  unfold m_law12_TupleTells at H
  refine gw_enter7 Try.func7 rfl Try.ntmps7 rfl ?_
  have hS := St0.start All w0
  refine wpC_seq_k (fun K hK1 => ?_)
  refine wpC_region ?_
  refine wpS_box rfl rfl rfl CellsOf.agg hS (fun b2 w hS hB => ?_)
  refine wpS_box rfl rfl rfl CellsOf.agg hS (fun b4 w hS hB => ?_)
  refine wpS_box rfl rfl rfl CellsOf.agg hS (fun b6 w hS hB => ?_)
  refine wpS_quick 1 rfl ?_
  refine wpS_nil ?_
  refine QH_seq_k hK1 ?_
  refine wpC_seq_k (fun K hK8 => ?_)
  refine wpC_seq_k (fun K hK9 => ?_)
  refine wpC_region ?_
  refine wpS_put rfl rfl rfl (yv_load_boxA ag_26 rfl (RW.here _) hS hs2 trivial sg0_8) ?_
  obtain ⟨r10, hm11, H⟩ := bind_some H
  refine wpS_call rfl rfl rfl rfl (by kernel_rfl) rfl (c_ref12_Great x0 A0_ c0_ _ (SlI.of_rd s0_.k (hS.rd0 s0_.rd) (hS.blk0 s0_.blk)) hm11) ?_
  rintro e w ⟨rfl, hN⟩; refine ⟨_, rfl, ?_⟩; have hB := hN.pure; have hS := hS.join hN; clear hN
  refine wpS_quick 1 rfl ?_
  refine wpS_case 37 rfl (fun hb => ?_) (fun hb => ?_)
  · replace H := cond_t H hb
    refine wpS_quick 38 rfl ?_
    refine wpS_nil ?_
    refine QH_seq_k hK9 ?_
    refine wpC_cond_t rfl rfl ?_
    refine wpC_seq_k (fun K hK12 => ?_)
    refine wpC_region ?_
    obtain ⟨r13, hm14, H⟩ := bind_some H
    refine wpS_call rfl rfl rfl rfl (by kernel_rfl) rfl (c_law12_wakes _ hm14) ?_
    rintro e w ⟨rfl, hN⟩; refine ⟨_, rfl, ?_⟩; have hB := hN.pure; have hS := hS.join hN; clear hN
    refine wpS_quick 1 rfl ?_
    refine wpS_nil ?_
    refine QH_seq_k hK12 ?_
    refine wpC_ret ?_
    refine QH_then_ret ?_
    refine QH_ret rfl (RV.tmp rfl RV.nil) rfl ?_
    obtain rfl := Option.some.inj H
    replace hS := hS.cut 0
    exact ⟨rfl, hS⟩
  · replace H := cond_f H hb
    refine wpS_put rfl rfl rfl (yv_load_boxA ag_26 rfl (RW.here _) hS hs1 trivial sg0_8) ?_
    obtain ⟨r15, hm16, H⟩ := bind_some H
    refine wpS_call rfl rfl rfl rfl (by kernel_rfl) rfl (c_ref12_Great x1 A1_ c1_ _ (SlI.of_rd s1_.k (hS.rd0 s1_.rd) (hS.blk0 s1_.blk)) hm16) ?_
    rintro e w ⟨rfl, hN⟩; refine ⟨_, rfl, ?_⟩; have hB := hN.pure; have hS := hS.join hN; clear hN
    refine wpS_quick 2 rfl ?_
    refine wpS_case 41 rfl (fun hb => ?_) (fun hb => ?_)
    · replace H := cond_t H hb
      refine wpS_quick 34 rfl ?_
      refine wpS_nil ?_
      refine QH_seq_k hK9 ?_
      refine wpC_cond_t rfl rfl ?_
      refine wpC_seq_k (fun K hK17 => ?_)
      refine wpC_region ?_
      obtain ⟨r18, hm19, H⟩ := bind_some H
      refine wpS_call rfl rfl rfl rfl (by kernel_rfl) rfl (c_law12_wakes _ hm19) ?_
      rintro e w ⟨rfl, hN⟩; refine ⟨_, rfl, ?_⟩; have hB := hN.pure; have hS := hS.join hN; clear hN
      refine wpS_quick 1 rfl ?_
      refine wpS_nil ?_
      refine QH_seq_k hK17 ?_
      refine wpC_ret ?_
      refine QH_then_ret ?_
      refine QH_ret rfl (RV.tmp rfl RV.nil) rfl ?_
      obtain rfl := Option.some.inj H
      replace hS := hS.cut 0
      exact ⟨rfl, hS⟩
    · replace H := cond_f H hb
      refine wpS_quick 1 rfl ?_
      refine wpS_put rfl rfl rfl (yv_len el_24 rfl) ?_
      refine wpS_put rfl rfl rfl (yv_gtr rfl rfl) ?_
      refine wpS_quick 2 rfl ?_
      refine wpS_case 46 rfl (fun hb => ?_) (fun hb => ?_)
      · replace H := cond_t H hb
        refine wpS_quick 29 rfl ?_
        refine wpS_nil ?_
        refine QH_seq_k hK9 ?_
        refine wpC_cond_t rfl rfl ?_
        refine wpC_seq_k (fun K hK20 => ?_)
        refine wpC_region ?_
        obtain ⟨r21, hm22, H⟩ := bind_some H
        refine wpS_call rfl rfl rfl rfl (by kernel_rfl) rfl (c_law12_wakes _ hm22) ?_
        rintro e w ⟨rfl, hN⟩; refine ⟨_, rfl, ?_⟩; have hB := hN.pure; have hS := hS.join hN; clear hN
        refine wpS_quick 1 rfl ?_
        refine wpS_nil ?_
        refine QH_seq_k hK20 ?_
        refine wpC_ret ?_
        refine QH_then_ret ?_
        refine QH_ret rfl (RV.tmp rfl RV.nil) rfl ?_
        obtain rfl := Option.some.inj H
        replace hS := hS.cut 0
        exact ⟨rfl, hS⟩
      · replace H := cond_f H hb
        refine wpS_put rfl rfl rfl (yv_fieldAddr fo_26_0 rfl) ?_
        refine wpS_put rfl rfl rfl (yv_fieldAddr fo_23_0 rfl) ?_
        refine wpS_put rfl rfl rfl (yv_load_box sc_3 rfl (RW.here _) hS hs2 trivial sg0_1) ?_
        refine wpS_put rfl rfl rfl (yv_gtr rfl rfl) ?_
        refine wpS_quick 2 rfl ?_
        refine wpS_case 52 rfl (fun hb => ?_) (fun hb => ?_)
        · replace H := cond_t H hb
          refine wpS_quick 23 rfl ?_
          refine wpS_nil ?_
          refine QH_seq_k hK9 ?_
          refine wpC_cond_t rfl rfl ?_
          refine wpC_seq_k (fun K hK23 => ?_)
          refine wpC_region ?_
          obtain ⟨r24, hm25, H⟩ := bind_some H
          refine wpS_call rfl rfl rfl rfl (by kernel_rfl) rfl (c_law12_wakes _ hm25) ?_
          rintro e w ⟨rfl, hN⟩; refine ⟨_, rfl, ?_⟩; have hB := hN.pure; have hS := hS.join hN; clear hN
          refine wpS_quick 1 rfl ?_
          refine wpS_nil ?_
          refine QH_seq_k hK23 ?_
          refine wpC_ret ?_
          refine QH_then_ret ?_
          refine QH_ret rfl (RV.tmp rfl RV.nil) rfl ?_
          obtain rfl := Option.some.inj H
          replace hS := hS.cut 0
          exact ⟨rfl, hS⟩
        · replace H := cond_f H hb
          refine wpS_put rfl rfl rfl (yv_fieldAddr fo_26_0 rfl) ?_
          refine wpS_put rfl rfl rfl (yv_fieldAddr fo_23_0 rfl) ?_
          refine wpS_put rfl rfl rfl (yv_load_box sc_3 rfl (RW.here _) hS hs2 trivial sg0_1) ?_
          refine wpS_put rfl rfl rfl (yv_lss rfl rfl) ?_
          refine wpS_quick 2 rfl ?_
          refine wpS_case 58 rfl (fun hb => ?_) (fun hb => ?_)
          · replace H := cond_t H hb
            refine wpS_quick 17 rfl ?_
            refine wpS_nil ?_
            refine QH_seq_k hK9 ?_
            refine wpC_cond_t rfl rfl ?_
            refine wpC_seq_k (fun K hK26 => ?_)
            refine wpC_region ?_
            obtain ⟨r27, hm28, H⟩ := bind_some H
            refine wpS_call rfl rfl rfl rfl (by kernel_rfl) rfl (c_law12_wakes _ hm28) ?_
            rintro e w ⟨rfl, hN⟩; refine ⟨_, rfl, ?_⟩; have hB := hN.pure; have hS := hS.join hN; clear hN
            refine wpS_quick 1 rfl ?_
            refine wpS_nil ?_
            refine QH_seq_k hK26 ?_
            refine wpC_ret ?_
            refine QH_then_ret ?_
            refine QH_ret rfl (RV.tmp rfl RV.nil) rfl ?_
            obtain rfl := Option.some.inj H
            replace hS := hS.cut 0
            exact ⟨rfl, hS⟩
          · replace H := cond_f H hb
            refine wpS_quick 1 rfl ?_
            refine wpS_put rfl rfl rfl (yv_gtr rfl rfl) ?_
            refine wpS_quick 2 rfl ?_
            refine wpS_case 62 rfl (fun hb => ?_) (fun hb => ?_)
            · replace H := cond_t H hb
              refine wpS_quick 13 rfl ?_
              refine wpS_nil ?_
              refine QH_seq_k hK9 ?_
              refine wpC_cond_t rfl rfl ?_
              refine wpC_seq_k (fun K hK29 => ?_)
              refine wpC_region ?_
              obtain ⟨r30, hm31, H⟩ := bind_some H
              refine wpS_call rfl rfl rfl rfl (by kernel_rfl) rfl (c_law12_wakes _ hm31) ?_
              rintro e w ⟨rfl, hN⟩; refine ⟨_, rfl, ?_⟩; have hB := hN.pure; have hS := hS.join hN; clear hN
              refine wpS_quick 1 rfl ?_
              refine wpS_nil ?_
              refine QH_seq_k hK29 ?_
              refine wpC_ret ?_
              refine QH_then_ret ?_
              refine QH_ret rfl (RV.tmp rfl RV.nil) rfl ?_
              obtain rfl := Option.some.inj H
              replace hS := hS.cut 0
              exact ⟨rfl, hS⟩
            · replace H := cond_f H hb
              refine wpS_quick 1 rfl ?_
              refine wpS_put rfl rfl rfl (yv_lss rfl rfl) ?_
              refine wpS_quick 2 rfl ?_
              refine wpS_case 66 rfl (fun hb => ?_) (fun hb => ?_)
              · replace H := cond_t H hb
                refine wpS_quick 9 rfl ?_
                refine wpS_nil ?_
                refine QH_seq_k hK9 ?_
                refine wpC_cond_t rfl rfl ?_
                refine wpC_seq_k (fun K hK32 => ?_)
                refine wpC_region ?_
                obtain ⟨r33, hm34, H⟩ := bind_some H
                refine wpS_call rfl rfl rfl rfl (by kernel_rfl) rfl (c_law12_wakes _ hm34) ?_
                rintro e w ⟨rfl, hN⟩; refine ⟨_, rfl, ?_⟩; have hB := hN.pure; have hS := hS.join hN; clear hN
                refine wpS_quick 1 rfl ?_
                refine wpS_nil ?_
                refine QH_seq_k hK32 ?_
                refine wpC_ret ?_
                refine QH_then_ret ?_
                refine QH_ret rfl (RV.tmp rfl RV.nil) rfl ?_
                obtain rfl := Option.some.inj H
                replace hS := hS.cut 0
                exact ⟨rfl, hS⟩
              · replace H := cond_f H hb
                refine wpS_put rfl rfl rfl (yv_fieldAddr fo_23_0 rfl) ?_
                refine wpS_put rfl rfl rfl (yv_load_box sc_3 rfl (RW.here _) hS hs0 trivial sg0_1) ?_
                refine wpS_put rfl rfl rfl (yv_gtr rfl rfl) ?_
                refine wpS_quick 2 rfl ?_
                refine wpS_case 71 rfl (fun hb => ?_) (fun hb => ?_)
                · replace H := cond_t H hb
                  refine wpS_quick 4 rfl ?_
                  refine wpS_nil ?_
                  refine QH_seq_k hK9 ?_
                  refine wpC_cond_t rfl rfl ?_
                  refine wpC_seq_k (fun K hK35 => ?_)
                  refine wpC_region ?_
                  obtain ⟨r36, hm37, H⟩ := bind_some H
                  refine wpS_call rfl rfl rfl rfl (by kernel_rfl) rfl (c_law12_wakes _ hm37) ?_
                  rintro e w ⟨rfl, hN⟩; refine ⟨_, rfl, ?_⟩; have hB := hN.pure; have hS := hS.join hN; clear hN
                  refine wpS_quick 1 rfl ?_
                  refine wpS_nil ?_
                  refine QH_seq_k hK35 ?_
                  refine wpC_ret ?_
                  refine QH_then_ret ?_
                  refine QH_ret rfl (RV.tmp rfl RV.nil) rfl ?_
                  obtain rfl := Option.some.inj H
                  replace hS := hS.cut 0
                  exact ⟨rfl, hS⟩
                · replace H := cond_f H hb
                  refine wpS_put rfl rfl rfl (yv_fieldAddr fo_23_0 rfl) ?_
                  refine wpS_put rfl rfl rfl (yv_load_box sc_3 rfl (RW.here _) hS hs0 trivial sg0_1) ?_
                  refine wpS_put rfl rfl rfl (yv_lss rfl rfl) ?_
                  refine wpS_quick 1 rfl ?_
                  refine wpS_nil ?_
                  refine QH_seq_k hK9 ?_
                  refine wpC_cond rfl (fun hb => ?_) (fun hb => ?_)
                  · replace H := cond_t H hb
                    refine wpC_seq_k (fun K hK38 => ?_)
                    refine wpC_region ?_
                    obtain ⟨r39, hm40, H⟩ := bind_some H
                    refine wpS_call rfl rfl rfl rfl (by kernel_rfl) rfl (c_law12_wakes _ hm40) ?_
                    rintro e w ⟨rfl, hN⟩; refine ⟨_, rfl, ?_⟩; have hB := hN.pure; have hS := hS.join hN; clear hN
                    refine wpS_quick 1 rfl ?_
                    refine wpS_nil ?_
                    refine QH_seq_k hK38 ?_
                    refine wpC_ret ?_
                    refine QH_then_ret ?_
                    refine QH_ret rfl (RV.tmp rfl RV.nil) rfl ?_
                    obtain rfl := Option.some.inj H
                    replace hS := hS.cut 0
                    exact ⟨rfl, hS⟩
                  · replace H := cond_f H hb
                    refine wpC_skip ?_
                    refine QH_seq_k hK8 ?_
                    refine wpC_seq_k (fun K hK41 => ?_)
                    refine wpC_region ?_
                    refine wpS_put rfl rfl rfl (yv_load_boxA ag_26 rfl (RW.here _) hS hs2 trivial sg0_8) ?_
                    refine wpS_quick 1 rfl ?_
                    obtain ⟨r42, hm43, H⟩ := bind_some H
                    refine wpS_call rfl rfl rfl rfl (by kernel_rfl) rfl (c_tuple_Append x0 x2 A0_ c0_ A2_ c2_ _ (SlI.of_rd s0_.k (hS.rd0 s0_.rd) (hS.blk0 s0_.blk)) (SlI.of_rd s2_.k (hS.rd0 s2_.rd) (hS.blk0 s2_.blk)) hm43) ?_
                    rintro e w ⟨A44, c45, rfl, k46, hN⟩; refine ⟨_, rfl, ?_⟩; have hB := hN.pure; have hS := hS.join hN; clear hN
                    refine wpS_quick 1 rfl ?_
                    refine wpS_put rfl rfl rfl (yv_extract rfl rfl) ?_
                    refine wpS_put rfl rfl rfl (yv_extract rfl rfl) ?_
                    refine wpS_alloc rfl rfl zc_26 hS (fun b48 w hS hB => ?_)
                    refine wpS_store rfl rfl rfl CellsOf.agg hS ps0 st0_8 (by kernel_rfl) rfl (fun w hS hB => ?_)
                    refine wpS_quick 1 rfl ?_
                    refine wpS_nil ?_
                    refine QH_seq_k hK41 ?_
                    refine wpC_seq_k (fun K hK50 => ?_)
                    refine wpC_region ?_
                    refine wpS_put rfl rfl rfl (yv_load_boxA ag_26 rfl (RW.here _) hS hs4 trivial sg0_8) ?_
                    refine wpS_quick 1 rfl ?_
                    obtain ⟨r51, hm52, H⟩ := bind_some H
                    refine wpS_call rfl rfl rfl rfl (by kernel_rfl) rfl (c_ref12_Append x0 x2 A0_ c0_ A2_ c2_ _ (SlI.of_rd s0_.k (hS.rd0 s0_.rd) (hS.blk0 s0_.blk)) (SlI.of_rd s2_.k (hS.rd0 s2_.rd) (hS.blk0 s2_.blk)) hm52) ?_
                    rintro e w ⟨A53, c54, rfl, k55, hN⟩; refine ⟨_, rfl, ?_⟩; have hB := hN.pure; have hS := hS.join hN; clear hN
                    refine wpS_quick 1 rfl ?_
                    refine wpS_put rfl rfl rfl (yv_extract rfl rfl) ?_
                    refine wpS_put rfl rfl rfl (yv_extract rfl rfl) ?_
                    refine wpS_alloc rfl rfl zc_26 hS (fun b57 w hS hB => ?_)
                    refine wpS_store rfl rfl rfl CellsOf.agg hS ps0 st0_8 (by kernel_rfl) rfl (fun w hS hB => ?_)
                    refine wpS_quick 1 rfl ?_
                    refine wpS_nil ?_
                    refine QH_seq_k hK50 ?_
                    refine wpC_seq_k (fun K hK59 => ?_)
                    refine wpC_region ?_
                    refine wpS_put rfl rfl rfl (yv_load_boxA ag_26 rfl (RW.here _) hS hs6 trivial sg0_8) ?_
                    refine wpS_quick 1 rfl ?_
                    obtain ⟨r60, hm61, H⟩ := bind_some H
                    refine wpS_call rfl rfl rfl rfl (by kernel_rfl) rfl (c_tuple_Cut x0 x4 A0_ c0_ _ (SlI.of_rd s0_.k (hS.rd0 s0_.rd) (hS.blk0 s0_.blk)) hm61) ?_
                    rintro e w ⟨A62, c63, rfl, k64, hN⟩; refine ⟨_, rfl, ?_⟩; have hB := hN.pure; have hS := hS.join hN; clear hN
                    refine wpS_quick 1 rfl ?_
                    refine wpS_put rfl rfl rfl (yv_extract rfl rfl) ?_
                    refine wpS_put rfl rfl rfl (yv_extract rfl rfl) ?_
                    refine wpS_alloc rfl rfl zc_26 hS (fun b66 w hS hB => ?_)
                    refine wpS_store rfl rfl rfl CellsOf.agg hS ps0 st0_8 (by kernel_rfl) rfl (fun w hS hB => ?_)
                    refine wpS_quick 1 rfl ?_
                    refine wpS_nil ?_
                    refine QH_seq_k hK59 ?_
                    refine wpC_seq_k (fun K hK68 => ?_)
                    refine wpC_region ?_
                    refine wpS_put rfl rfl rfl (yv_load_boxA ag_26 rfl (RW.here _) hS hs8 trivial sg0_8) ?_
                    refine wpS_quick 1 rfl ?_
                    obtain ⟨r69, hm70, H⟩ := bind_some H
                    refine wpS_call rfl rfl rfl rfl (by kernel_rfl) rfl (c_ref12_Cut x0 x4 A0_ c0_ _ (SlI.of_rd s0_.k (hS.rd0 s0_.rd) (hS.blk0 s0_.blk)) hm70) ?_
                    rintro e w ⟨A71, c72, rfl, k73, hN⟩; refine ⟨_, rfl, ?_⟩; have hB := hN.pure; have hS := hS.join hN; clear hN
                    refine wpS_quick 1 rfl ?_
                    refine wpS_put rfl rfl rfl (yv_extract rfl rfl) ?_
                    refine wpS_put rfl rfl rfl (yv_extract rfl rfl) ?_
                    refine wpS_alloc rfl rfl zc_26 hS (fun b75 w hS hB => ?_)
                    refine wpS_store rfl rfl rfl CellsOf.agg hS ps0 st0_8 (by kernel_rfl) rfl (fun w hS hB => ?_)
                    refine wpS_quick 1 rfl ?_
                    refine wpS_nil ?_
                    refine QH_seq_k hK68 ?_
                    refine wpC_seq_k (fun K hK77 => ?_)
                    refine wpC_seq_k (fun K hK78 => ?_)
                    refine wpC_region ?_
                    refine wpS_put rfl rfl rfl (yv_load_boxA ag_26 rfl (RW.here _) hS hs6 trivial sg0_8) ?_
                    refine wpS_put rfl rfl rfl (yv_load_boxA ag_26 rfl (RW.here _) hS hs4 trivial sg0_8) ?_
                    obtain ⟨r79, hm80, H⟩ := bind_some H
                    refine wpS_call rfl rfl rfl rfl (by kernel_rfl) rfl (c_ref12_Same r42.1 r51.1 A44 c45 A53 c54 _ (SlI.of_rd k46 (hS.rd hs7) (hS.rd_blk hs7)) (SlI.of_rd k55 (hS.row_rd hs5) (hS.row_blk hs5)) hm80) ?_
                    rintro e w ⟨rfl, hN⟩; refine ⟨_, rfl, ?_⟩; have hB := hN.pure; have hS := hS.join hN; clear hN
                    refine wpS_put rfl rfl rfl (yv_not rfl) ?_
                    refine wpS_quick 1 rfl ?_
                    refine wpS_case 105 rfl (fun hb => ?_) (fun hb => ?_)
                    · replace H := cond_t H hb
                      refine wpS_quick 15 rfl ?_
                      refine wpS_nil ?_
                      refine QH_seq_k hK78 ?_
                      refine wpC_cond_t rfl rfl ?_
                      refine wpC_seq_k (fun K hK81 => ?_)
                      refine wpC_region ?_
                      refine wpS_quick 1 rfl ?_
                      refine wpS_nil ?_
                      refine QH_seq_k hK81 ?_
                      refine wpC_ret ?_
                      refine QH_then_ret ?_
                      refine QH_ret rfl (RV.tmp rfl RV.nil) rfl ?_
                      obtain rfl := Option.some.inj H
                      replace hS := hS.cut 0
                      exact ⟨rfl, hS⟩
                    · replace H := cond_f H hb
                      refine wpS_quick 2 rfl ?_
                      refine wpS_put rfl rfl rfl (yv_neq rfl rfl) ?_
                      refine wpS_quick 2 rfl ?_
                      refine wpS_case 110 rfl (fun hb => ?_) (fun hb => ?_)
                      · replace H := cond_t H hb
                        refine wpS_quick 10 rfl ?_
                        refine wpS_nil ?_
                        refine QH_seq_k hK78 ?_
                        refine wpC_cond_t rfl rfl ?_
                        refine wpC_seq_k (fun K hK82 => ?_)
                        refine wpC_region ?_
                        refine wpS_quick 1 rfl ?_
                        refine wpS_nil ?_
                        refine QH_seq_k hK82 ?_
                        refine wpC_ret ?_
                        refine QH_then_ret ?_
                        refine QH_ret rfl (RV.tmp rfl RV.nil) rfl ?_
                        obtain rfl := Option.some.inj H
                        replace hS := hS.cut 0
                        exact ⟨rfl, hS⟩
                      · replace H := cond_f H hb
                        refine wpS_put rfl rfl rfl (yv_load_boxA ag_26 rfl (RW.here _) hS hs2 trivial sg0_8) ?_
                        refine wpS_put rfl rfl rfl (yv_load_boxA ag_26 rfl (RW.here _) hS hs0 trivial sg0_8) ?_
                        obtain ⟨r83, hm84, H⟩ := bind_some H
                        refine wpS_call rfl rfl rfl rfl (by kernel_rfl) rfl (c_ref12_Same r60.1 r69.1 A62 c63 A71 c72 _ (SlI.of_rd k64 (hS.rd hs3) (hS.rd_blk hs3)) (SlI.of_rd k73 (hS.rd hs1) (hS.rd_blk hs1)) hm84) ?_
                        rintro e w ⟨rfl, hN⟩; refine ⟨_, rfl, ?_⟩; have hB := hN.pure; have hS := hS.join hN; clear hN
                        refine wpS_put rfl rfl rfl (yv_not rfl) ?_
                        refine wpS_quick 2 rfl ?_
                        refine wpS_case 116 rfl (fun hb => ?_) (fun hb => ?_)
                        · replace H := cond_t H hb
                          refine wpS_quick 4 rfl ?_
                          refine wpS_nil ?_
                          refine QH_seq_k hK78 ?_
                          refine wpC_cond_t rfl rfl ?_
                          refine wpC_seq_k (fun K hK85 => ?_)
                          refine wpC_region ?_
                          refine wpS_quick 1 rfl ?_
                          refine wpS_nil ?_
                          refine QH_seq_k hK85 ?_
                          refine wpC_ret ?_
                          refine QH_then_ret ?_
                          refine QH_ret rfl (RV.tmp rfl RV.nil) rfl ?_
                          obtain rfl := Option.some.inj H
                          replace hS := hS.cut 0
                          exact ⟨rfl, hS⟩
                        · replace H := cond_f H hb
                          refine wpS_quick 2 rfl ?_
                          refine wpS_put rfl rfl rfl (yv_neq rfl rfl) ?_
                          refine wpS_quick 1 rfl ?_
                          refine wpS_nil ?_
                          refine QH_seq_k hK78 ?_
                          refine wpC_cond rfl (fun hb => ?_) (fun hb => ?_)
                          · replace H := cond_t H hb
                            refine wpC_seq_k (fun K hK86 => ?_)
                            refine wpC_region ?_
                            refine wpS_quick 1 rfl ?_
                            refine wpS_nil ?_
                            refine QH_seq_k hK86 ?_
                            refine wpC_ret ?_
                            refine QH_then_ret ?_
                            refine QH_ret rfl (RV.tmp rfl RV.nil) rfl ?_
                            obtain rfl := Option.some.inj H
                            replace hS := hS.cut 0
                            exact ⟨rfl, hS⟩
                          · replace H := cond_f H hb
                            refine wpC_skip ?_
                            refine QH_seq_k hK77 ?_
                            refine wpC_seq_k (fun K hK87 => ?_)
                            refine wpC_region ?_
                            refine wpS_put rfl rfl rfl (yv_load_boxA ag_26 rfl (RW.here _) hS hs10 trivial sg0_8) ?_
                            refine wpS_put rfl rfl rfl (yv_load_boxA ag_23 rfl (RW.here _) hS hs8 trivial sg0_5) ?_
                            obtain ⟨r88, hm89, H⟩ := bind_some H
                            refine wpS_call rfl rfl rfl rfl (by kernel_rfl) rfl (c_tuple_Save x0 x3 A0_ c0_ _ (SlI.of_rd s0_.k (hS.rd0 s0_.rd) (hS.blk0 s0_.blk)) hm89) ?_
                            rintro e w ⟨A90, c91, rfl, k92, hN⟩; refine ⟨_, rfl, ?_⟩; have hB := hN.pure; have hS := hS.join hN; clear hN
                            refine wpS_quick 1 rfl ?_
                            refine wpS_put rfl rfl rfl (yv_extract rfl rfl) ?_
                            refine wpS_put rfl rfl rfl (yv_extract rfl rfl) ?_
                            refine wpS_store rfl rfl rfl CellsOf.agg hS ps7 st0_8 (by kernel_rfl) rfl (fun w hS hB => ?_)
                            refine wpS_quick 1 rfl ?_
                            refine wpS_nil ?_
                            refine QH_seq_k hK87 ?_
                            refine wpC_seq_k (fun K hK94 => ?_)
                            refine wpC_region ?_
                            refine wpS_put rfl rfl rfl (yv_load_boxA ag_26 rfl (RW.here _) hS hs11 trivial sg0_8) ?_
                            refine wpS_put rfl rfl rfl (yv_load_boxA ag_23 rfl (RW.here _) hS hs9 trivial sg0_5) ?_
                            obtain ⟨r95, hm96, H⟩ := bind_some H
                            refine wpS_call rfl rfl rfl rfl (by kernel_rfl) rfl (c_ref12_Save x0 x3 A0_ c0_ _ (SlI.of_rd s0_.k (hS.rd0 s0_.rd) (hS.blk0 s0_.blk)) hm96) ?_
                            rintro e w ⟨A97, c98, rfl, k99, hN⟩; refine ⟨_, rfl, ?_⟩; have hB := hN.pure; have hS := hS.join hN; clear hN
                            refine wpS_quick 1 rfl ?_
                            refine wpS_put rfl rfl rfl (yv_extract rfl rfl) ?_
                            refine wpS_put rfl rfl rfl (yv_extract rfl rfl) ?_
                            refine wpS_store rfl rfl rfl CellsOf.agg hS ps6 st0_8 (by kernel_rfl) rfl (fun w hS hB => ?_)
                            refine wpS_quick 1 rfl ?_
                            refine wpS_nil ?_
                            refine QH_seq_k hK94 ?_
                            refine wpC_seq_k (fun K hK101 => ?_)
                            refine wpC_region ?_
                            refine wpS_put rfl rfl rfl (yv_load_boxA ag_26 rfl (RW.here _) hS hs12 trivial sg0_8) ?_
                            refine wpS_put rfl rfl rfl (yv_load_boxA ag_23 rfl (RW.here _) hS hs10 trivial sg0_5) ?_
                            obtain ⟨r102, hm103, H⟩ := bind_some H
                            refine wpS_call rfl rfl rfl rfl (by kernel_rfl) rfl (c_tuple_Install x0 x3 A0_ c0_ _ (SlI.of_rd s0_.k (hS.rd0 s0_.rd) (hS.blk0 s0_.blk)) hm103) ?_
                            rintro e w ⟨A104, c105, rfl, k106, hN⟩; refine ⟨_, rfl, ?_⟩; have hB := hN.pure; have hS := hS.join hN; clear hN
                            refine wpS_quick 1 rfl ?_
                            refine wpS_put rfl rfl rfl (yv_extract rfl rfl) ?_
                            refine wpS_put rfl rfl rfl (yv_extract rfl rfl) ?_
                            refine wpS_store rfl rfl rfl CellsOf.agg hS ps5 st0_8 (by kernel_rfl) rfl (fun w hS hB => ?_)
                            refine wpS_quick 1 rfl ?_
                            refine wpS_nil ?_
                            refine QH_seq_k hK101 ?_
                            refine wpC_seq_k (fun K hK108 => ?_)
                            refine wpC_region ?_
                            refine wpS_put rfl rfl rfl (yv_load_boxA ag_26 rfl (RW.here _) hS hs13 trivial sg0_8) ?_
                            refine wpS_put rfl rfl rfl (yv_load_boxA ag_23 rfl (RW.here _) hS hs11 trivial sg0_5) ?_
                            obtain ⟨r109, hm110, H⟩ := bind_some H
                            refine wpS_call rfl rfl rfl rfl (by kernel_rfl) rfl (c_ref12_Install x0 x3 A0_ c0_ _ (SlI.of_rd s0_.k (hS.rd0 s0_.rd) (hS.blk0 s0_.blk)) hm110) ?_
                            rintro e w ⟨A111, c112, rfl, k113, hN⟩; refine ⟨_, rfl, ?_⟩; have hB := hN.pure; have hS := hS.join hN; clear hN
                            refine wpS_quick 1 rfl ?_
                            refine wpS_put rfl rfl rfl (yv_extract rfl rfl) ?_
                            refine wpS_put rfl rfl rfl (yv_extract rfl rfl) ?_
                            refine wpS_store rfl rfl rfl CellsOf.agg hS ps4 st0_8 (by kernel_rfl) rfl (fun w hS hB => ?_)
                            refine wpS_quick 1 rfl ?_
                            refine wpS_nil ?_
                            refine QH_seq_k hK108 ?_
                            refine wpC_seq_k (fun K hK115 => ?_)
                            refine wpC_seq_k (fun K hK116 => ?_)
                            refine wpC_region ?_
                            refine wpS_put rfl rfl rfl (yv_load_boxA ag_26 rfl (RW.here _) hS hs10 trivial sg0_8) ?_
                            refine wpS_put rfl rfl rfl (yv_load_boxA ag_26 rfl (RW.here _) hS hs8 trivial sg0_8) ?_
                            obtain ⟨r117, hm118, H⟩ := bind_some H
                            refine wpS_call rfl rfl rfl rfl (by kernel_rfl) rfl (c_ref12_Same r88.1 r95.1 A90 c91 A97 c98 _ (SlI.of_rd k92 (hS.rd hs3) (hS.rd_blk hs3)) (SlI.of_rd k99 (hS.row_rd hs2) (hS.row_blk hs2)) hm118) ?_
                            rintro e w ⟨rfl, hN⟩; refine ⟨_, rfl, ?_⟩; have hB := hN.pure; have hS := hS.join hN; clear hN
                            refine wpS_put rfl rfl rfl (yv_not rfl) ?_
                            refine wpS_quick 1 rfl ?_
                            refine wpS_case 149 rfl (fun hb => ?_) (fun hb => ?_)
                            · replace H := cond_t H hb
                              refine wpS_quick 15 rfl ?_
                              refine wpS_nil ?_
                              refine QH_seq_k hK116 ?_
                              refine wpC_cond_t rfl rfl ?_
                              refine wpC_seq_k (fun K hK119 => ?_)
                              refine wpC_region ?_
                              refine wpS_quick 1 rfl ?_
                              refine wpS_nil ?_
                              refine QH_seq_k hK119 ?_
                              refine wpC_ret ?_
                              refine QH_then_ret ?_
                              refine QH_ret rfl (RV.tmp rfl RV.nil) rfl ?_
                              obtain rfl := Option.some.inj H
                              replace hS := hS.cut 0
                              exact ⟨rfl, hS⟩
                            · replace H := cond_f H hb
                              refine wpS_quick 2 rfl ?_
                              refine wpS_put rfl rfl rfl (yv_neq rfl rfl) ?_
                              refine wpS_quick 2 rfl ?_
                              refine wpS_case 154 rfl (fun hb => ?_) (fun hb => ?_)
                              · replace H := cond_t H hb
                                refine wpS_quick 10 rfl ?_
                                refine wpS_nil ?_
                                refine QH_seq_k hK116 ?_
                                refine wpC_cond_t rfl rfl ?_
                                refine wpC_seq_k (fun K hK120 => ?_)
                                refine wpC_region ?_
                                refine wpS_quick 1 rfl ?_
                                refine wpS_nil ?_
                                refine QH_seq_k hK120 ?_
                                refine wpC_ret ?_
                                refine QH_then_ret ?_
                                refine QH_ret rfl (RV.tmp rfl RV.nil) rfl ?_
                                obtain rfl := Option.some.inj H
                                replace hS := hS.cut 0
                                exact ⟨rfl, hS⟩
                              · replace H := cond_f H hb
                                refine wpS_put rfl rfl rfl (yv_load_boxA ag_26 rfl (RW.here _) hS hs6 trivial sg0_8) ?_
                                refine wpS_put rfl rfl rfl (yv_load_boxA ag_26 rfl (RW.here _) hS hs4 trivial sg0_8) ?_
                                obtain ⟨r121, hm122, H⟩ := bind_some H
                                refine wpS_call rfl rfl rfl rfl (by kernel_rfl) rfl (c_ref12_Same r102.1 r109.1 A104 c105 A111 c112 _ (SlI.of_rd k106 (hS.rd hs1) (hS.rd_blk hs1)) (SlI.of_rd k113 (hS.row_rd hs0) (hS.row_blk hs0)) hm122) ?_
                                rintro e w ⟨rfl, hN⟩; refine ⟨_, rfl, ?_⟩; have hB := hN.pure; have hS := hS.join hN; clear hN
                                refine wpS_put rfl rfl rfl (yv_not rfl) ?_
                                refine wpS_quick 2 rfl ?_
                                refine wpS_case 160 rfl (fun hb => ?_) (fun hb => ?_)
                                · replace H := cond_t H hb
                                  refine wpS_quick 4 rfl ?_
                                  refine wpS_nil ?_
                                  refine QH_seq_k hK116 ?_
                                  refine wpC_cond_t rfl rfl ?_
                                  refine wpC_seq_k (fun K hK123 => ?_)
                                  refine wpC_region ?_
                                  refine wpS_quick 1 rfl ?_
                                  refine wpS_nil ?_
                                  refine QH_seq_k hK123 ?_
                                  refine wpC_ret ?_
                                  refine QH_then_ret ?_
                                  refine QH_ret rfl (RV.tmp rfl RV.nil) rfl ?_
                                  obtain rfl := Option.some.inj H
                                  replace hS := hS.cut 0
                                  exact ⟨rfl, hS⟩
                                · replace H := cond_f H hb
                                  refine wpS_quick 2 rfl ?_
                                  refine wpS_put rfl rfl rfl (yv_neq rfl rfl) ?_
                                  refine wpS_quick 1 rfl ?_
                                  refine wpS_nil ?_
                                  refine QH_seq_k hK116 ?_
                                  refine wpC_cond rfl (fun hb => ?_) (fun hb => ?_)
                                  · replace H := cond_t H hb
                                    refine wpC_seq_k (fun K hK124 => ?_)
                                    refine wpC_region ?_
                                    refine wpS_quick 1 rfl ?_
                                    refine wpS_nil ?_
                                    refine QH_seq_k hK124 ?_
                                    refine wpC_ret ?_
                                    refine QH_then_ret ?_
                                    refine QH_ret rfl (RV.tmp rfl RV.nil) rfl ?_
                                    obtain rfl := Option.some.inj H
                                    replace hS := hS.cut 0
                                    exact ⟨rfl, hS⟩
                                  · replace H := cond_f H hb
                                    refine wpC_skip ?_
                                    refine QH_seq_k hK115 ?_
                                    refine wpC_seq_k (fun K hK125 => ?_)
                                    refine wpC_region ?_
                                    refine wpS_put rfl rfl rfl (yv_load_boxA ag_26 rfl (RW.here _) hS hs14 trivial sg0_8) ?_
                                    refine wpS_quick 2 rfl ?_
                                    obtain ⟨r126, hm127, H⟩ := bind_some H
                                    refine wpS_call rfl rfl rfl rfl (by kernel_rfl) rfl (c_tuple_Hard x0 x5 x6 A0_ c0_ _ (SlI.of_rd s0_.k (hS.rd0 s0_.rd) (hS.blk0 s0_.blk)) hm127) ?_
                                    rintro e w ⟨A128, c129, rfl, k130, hN⟩; refine ⟨_, rfl, ?_⟩; have hB := hN.pure; have hS := hS.join hN; clear hN
                                    refine wpS_quick 1 rfl ?_
                                    refine wpS_put rfl rfl rfl (yv_extract rfl rfl) ?_
                                    refine wpS_put rfl rfl rfl (yv_extract rfl rfl) ?_
                                    refine wpS_store rfl rfl rfl CellsOf.agg hS ps11 st0_8 (by kernel_rfl) rfl (fun w hS hB => ?_)
                                    refine wpS_quick 1 rfl ?_
                                    refine wpS_nil ?_
                                    refine QH_seq_k hK125 ?_
                                    refine wpC_seq_k (fun K hK132 => ?_)
                                    refine wpC_region ?_
                                    refine wpS_put rfl rfl rfl (yv_load_boxA ag_26 rfl (RW.here _) hS hs15 trivial sg0_8) ?_
                                    refine wpS_quick 2 rfl ?_
                                    obtain ⟨r133, hm134, H⟩ := bind_some H
                                    refine wpS_call rfl rfl rfl rfl (by kernel_rfl) rfl (c_ref12_Hard x0 x5 x6 A0_ c0_ _ (SlI.of_rd s0_.k (hS.rd0 s0_.rd) (hS.blk0 s0_.blk)) hm134) ?_
                                    rintro e w ⟨A135, c136, rfl, k137, hN⟩; refine ⟨_, rfl, ?_⟩; have hB := hN.pure; have hS := hS.join hN; clear hN
                                    refine wpS_quick 1 rfl ?_
                                    refine wpS_put rfl rfl rfl (yv_extract rfl rfl) ?_
                                    refine wpS_put rfl rfl rfl (yv_extract rfl rfl) ?_
                                    refine wpS_store rfl rfl rfl CellsOf.agg hS ps10 st0_8 (by kernel_rfl) rfl (fun w hS hB => ?_)
                                    refine wpS_quick 1 rfl ?_
                                    refine wpS_nil ?_
                                    refine QH_seq_k hK132 ?_
                                    refine wpC_seq_k (fun K hK139 => ?_)
                                    refine wpC_region ?_
                                    refine wpS_put rfl rfl rfl (yv_load_boxA ag_26 rfl (RW.here _) hS hs16 trivial sg0_8) ?_
                                    refine wpS_quick 1 rfl ?_
                                    obtain ⟨r140, hm141, H⟩ := bind_some H
                                    refine wpS_call rfl rfl rfl rfl (by kernel_rfl) rfl (c_tuple_TermAt x0 x4 A0_ c0_ _ (SlI.of_rd s0_.k (hS.rd0 s0_.rd) (hS.blk0 s0_.blk)) hm141) ?_
                                    rintro e w ⟨rfl, hN⟩; refine ⟨_, rfl, ?_⟩; have hB := hN.pure; have hS := hS.join hN; clear hN
                                    refine wpS_quick 1 rfl ?_
                                    refine wpS_put rfl rfl rfl (yv_extract rfl rfl) ?_
                                    refine wpS_put rfl rfl rfl (yv_extract rfl rfl) ?_
                                    refine wpS_quick 2 rfl ?_
                                    refine wpS_nil ?_
                                    refine QH_seq_k hK139 ?_
                                    refine wpC_seq_k (fun K hK142 => ?_)
                                    refine wpC_region ?_
                                    refine wpS_put rfl rfl rfl (yv_load_boxA ag_26 rfl (RW.here _) hS hs16 trivial sg0_8) ?_
                                    refine wpS_quick 1 rfl ?_
                                    obtain ⟨r143, hm144, H⟩ := bind_some H
                                    refine wpS_call rfl rfl rfl rfl (by kernel_rfl) rfl (c_ref12_TermAt x0 x4 A0_ c0_ _ (SlI.of_rd s0_.k (hS.rd0 s0_.rd) (hS.blk0 s0_.blk)) hm144) ?_
                                    rintro e w ⟨rfl, hN⟩; refine ⟨_, rfl, ?_⟩; have hB := hN.pure; have hS := hS.join hN; clear hN
                                    refine wpS_quick 1 rfl ?_
                                    refine wpS_put rfl rfl rfl (yv_extract rfl rfl) ?_
                                    refine wpS_put rfl rfl rfl (yv_extract rfl rfl) ?_
                                    refine wpS_quick 2 rfl ?_
                                    refine wpS_nil ?_
                                    refine QH_seq_k hK142 ?_
                                    refine wpC_seq_k (fun K hK145 => ?_)
                                    refine wpC_region ?_
                                    refine wpS_put rfl rfl rfl (yv_load_boxA ag_26 rfl (RW.here _) hS hs16 trivial sg0_8) ?_
                                    refine wpS_quick 1 rfl ?_
                                    obtain ⟨r146, hm147, H⟩ := bind_some H
                                    refine wpS_call rfl rfl rfl rfl (by kernel_rfl) rfl (c_tuple_At x0 x4 A0_ c0_ _ (SlI.of_rd s0_.k (hS.rd0 s0_.rd) (hS.blk0 s0_.blk)) hm147) ?_
                                    rintro e w ⟨rfl, hN⟩; refine ⟨_, rfl, ?_⟩; have hB := hN.pure; have hS := hS.join hN; clear hN
                                    refine wpS_quick 1 rfl ?_
                                    refine wpS_put rfl rfl rfl (yv_extract rfl rfl) ?_
                                    refine wpS_put rfl rfl rfl (yv_extract rfl rfl) ?_
                                    refine wpS_alloc rfl rfl zc_50 hS (fun b148 w hS hB => ?_)
                                    refine wpS_store rfl rfl rfl CellsOf.agg hS ps0 st0_3 (by kernel_rfl) rfl (fun w hS hB => ?_)
                                    refine wpS_quick 1 rfl ?_
                                    refine wpS_nil ?_
                                    refine QH_seq_k hK145 ?_
                                    refine wpC_seq_k (fun K hK150 => ?_)
                                    refine wpC_region ?_
                                    refine wpS_put rfl rfl rfl (yv_load_boxA ag_26 rfl (RW.here _) hS hs17 trivial sg0_8) ?_
                                    refine wpS_quick 1 rfl ?_
                                    obtain ⟨r151, hm152, H⟩ := bind_some H
                                    refine wpS_call rfl rfl rfl rfl (by kernel_rfl) rfl (c_ref12_At x0 x4 A0_ c0_ _ (SlI.of_rd s0_.k (hS.rd0 s0_.rd) (hS.blk0 s0_.blk)) hm152) ?_
                                    rintro e w ⟨rfl, hN⟩; refine ⟨_, rfl, ?_⟩; have hB := hN.pure; have hS := hS.join hN; clear hN
                                    refine wpS_quick 1 rfl ?_
                                    refine wpS_put rfl rfl rfl (yv_extract rfl rfl) ?_
                                    refine wpS_put rfl rfl rfl (yv_extract rfl rfl) ?_
                                    refine wpS_alloc rfl rfl zc_50 hS (fun b153 w hS hB => ?_)
                                    refine wpS_store rfl rfl rfl CellsOf.agg hS ps0 st0_3 (by kernel_rfl) rfl (fun w hS hB => ?_)
                                    refine wpS_quick 1 rfl ?_
                                    refine wpS_nil ?_
                                    refine QH_seq_k hK150 ?_
                                    refine wpC_seq_k (fun K hK155 => ?_)
                                    refine wpC_region ?_
                                    refine wpS_put rfl rfl rfl (yv_load_boxA ag_26 rfl (RW.here _) hS hs18 trivial sg0_8) ?_
                                    refine wpS_quick 1 rfl ?_
                                    obtain ⟨r156, hm157, H⟩ := bind_some H
                                    refine wpS_call rfl rfl rfl rfl (by kernel_rfl) rfl (c_tuple_State x0 x4 A0_ c0_ _ (SlI.of_rd s0_.k (hS.rd0 s0_.rd) (hS.blk0 s0_.blk)) hm157) ?_
                                    rintro e w ⟨rfl, hN⟩; refine ⟨_, rfl, ?_⟩; have hB := hN.pure; have hS := hS.join hN; clear hN
                                    refine wpS_quick 1 rfl ?_
                                    refine wpS_put rfl rfl rfl (yv_extract rfl rfl) ?_
                                    refine wpS_put rfl rfl rfl (yv_extract rfl rfl) ?_
                                    refine wpS_alloc rfl rfl zc_23 hS (fun b158 w hS hB => ?_)
                                    refine wpS_store rfl rfl rfl CellsOf.agg hS ps0 st0_5 (by kernel_rfl) rfl (fun w hS hB => ?_)
                                    refine wpS_quick 1 rfl ?_
                                    refine wpS_nil ?_
                                    refine QH_seq_k hK155 ?_
                                    refine wpC_seq_k (fun K hK160 => ?_)
                                    refine wpC_region ?_
                                    refine wpS_put rfl rfl rfl (yv_load_boxA ag_26 rfl (RW.here _) hS hs19 trivial sg0_8) ?_
                                    refine wpS_quick 1 rfl ?_
                                    obtain ⟨r161, hm162, H⟩ := bind_some H
                                    refine wpS_call rfl rfl rfl rfl (by kernel_rfl) rfl (c_ref12_State x0 x4 A0_ c0_ _ (SlI.of_rd s0_.k (hS.rd0 s0_.rd) (hS.blk0 s0_.blk)) hm162) ?_
                                    rintro e w ⟨rfl, hN⟩; refine ⟨_, rfl, ?_⟩; have hB := hN.pure; have hS := hS.join hN; clear hN
                                    refine wpS_quick 1 rfl ?_
                                    refine wpS_put rfl rfl rfl (yv_extract rfl rfl) ?_
                                    refine wpS_put rfl rfl rfl (yv_extract rfl rfl) ?_
                                    refine wpS_alloc rfl rfl zc_23 hS (fun b163 w hS hB => ?_)
                                    refine wpS_store rfl rfl rfl CellsOf.agg hS ps0 st0_5 (by kernel_rfl) rfl (fun w hS hB => ?_)
                                    refine wpS_quick 1 rfl ?_
                                    refine wpS_nil ?_
                                    refine QH_seq_k hK160 ?_
                                    refine wpC_seq_k (fun K hK165 => ?_)
                                    refine wpC_seq_k (fun K hK166 => ?_)
                                    refine wpC_region ?_
                                    refine wpS_put rfl rfl rfl (yv_load_boxA ag_26 rfl (RW.here _) hS hs16 trivial sg0_8) ?_
                                    refine wpS_put rfl rfl rfl (yv_load_boxA ag_26 rfl (RW.here _) hS hs14 trivial sg0_8) ?_
                                    obtain ⟨r167, hm168, H⟩ := bind_some H
                                    refine wpS_call rfl rfl rfl rfl (by kernel_rfl) rfl (c_ref12_Same r126.1 r133.1 A128 c129 A135 c136 _ (SlI.of_rd k130 (hS.rd hs5) (hS.rd_blk hs5)) (SlI.of_rd k137 (hS.row_rd hs4) (hS.row_blk hs4)) hm168) ?_
                                    rintro e w ⟨rfl, hN⟩; refine ⟨_, rfl, ?_⟩; have hB := hN.pure; have hS := hS.join hN; clear hN
                                    refine wpS_put rfl rfl rfl (yv_not rfl) ?_
                                    refine wpS_quick 1 rfl ?_
                                    refine wpS_case 219 rfl (fun hb => ?_) (fun hb => ?_)
                                    · replace H := cond_t H hb
                                      refine wpS_quick 34 rfl ?_
                                      refine wpS_nil ?_
                                      refine QH_seq_k hK166 ?_
                                      refine wpC_cond_t rfl rfl ?_
                                      refine wpC_seq_k (fun K hK169 => ?_)
                                      refine wpC_region ?_
                                      refine wpS_quick 1 rfl ?_
                                      refine wpS_nil ?_
                                      refine QH_seq_k hK169 ?_
                                      refine wpC_ret ?_
                                      refine QH_then_ret ?_
                                      refine QH_ret rfl (RV.tmp rfl RV.nil) rfl ?_
                                      obtain rfl := Option.some.inj H
                                      replace hS := hS.cut 0
                                      exact ⟨rfl, hS⟩
                                    · replace H := cond_f H hb
                                      refine wpS_quick 2 rfl ?_
                                      refine wpS_put rfl rfl rfl (yv_neq rfl rfl) ?_
                                      refine wpS_quick 2 rfl ?_
                                      refine wpS_case 224 rfl (fun hb => ?_) (fun hb => ?_)
                                      · replace H := cond_t H hb
                                        refine wpS_quick 29 rfl ?_
                                        refine wpS_nil ?_
                                        refine QH_seq_k hK166 ?_
                                        refine wpC_cond_t rfl rfl ?_
                                        refine wpC_seq_k (fun K hK170 => ?_)
                                        refine wpC_region ?_
                                        refine wpS_quick 1 rfl ?_
                                        refine wpS_nil ?_
                                        refine QH_seq_k hK170 ?_
                                        refine wpC_ret ?_
                                        refine QH_then_ret ?_
                                        refine QH_ret rfl (RV.tmp rfl RV.nil) rfl ?_
                                        obtain rfl := Option.some.inj H
                                        replace hS := hS.cut 0
                                        exact ⟨rfl, hS⟩
                                      · replace H := cond_f H hb
                                        refine wpS_quick 2 rfl ?_
                                        refine wpS_put rfl rfl rfl (yv_neq rfl rfl) ?_
                                        refine wpS_quick 2 rfl ?_
                                        refine wpS_case 229 rfl (fun hb => ?_) (fun hb => ?_)
                                        · replace H := cond_t H hb
                                          refine wpS_quick 24 rfl ?_
                                          refine wpS_nil ?_
                                          refine QH_seq_k hK166 ?_
                                          refine wpC_cond_t rfl rfl ?_
                                          refine wpC_seq_k (fun K hK171 => ?_)
                                          refine wpC_region ?_
                                          refine wpS_quick 1 rfl ?_
                                          refine wpS_nil ?_
                                          refine QH_seq_k hK171 ?_
                                          refine wpC_ret ?_
                                          refine QH_then_ret ?_
                                          refine QH_ret rfl (RV.tmp rfl RV.nil) rfl ?_
                                          obtain rfl := Option.some.inj H
                                          replace hS := hS.cut 0
                                          exact ⟨rfl, hS⟩
                                        · replace H := cond_f H hb
                                          refine wpS_quick 2 rfl ?_
                                          refine wpS_put rfl rfl rfl (yv_neqB (by kernel_rfl) rfl rfl) ?_
                                          refine wpS_quick 2 rfl ?_
                                          refine wpS_case 234 rfl (fun hb => ?_) (fun hb => ?_)
                                          · replace H := cond_t H hb
                                            refine wpS_quick 19 rfl ?_
                                            refine wpS_nil ?_
                                            refine QH_seq_k hK166 ?_
                                            refine wpC_cond_t rfl rfl ?_
                                            refine wpC_seq_k (fun K hK172 => ?_)
                                            refine wpC_region ?_
                                            refine wpS_quick 1 rfl ?_
                                            refine wpS_nil ?_
                                            refine QH_seq_k hK172 ?_
                                            refine wpC_ret ?_
                                            refine QH_then_ret ?_
                                            refine QH_ret rfl (RV.tmp rfl RV.nil) rfl ?_
                                            obtain rfl := Option.some.inj H
                                            replace hS := hS.cut 0
                                            exact ⟨rfl, hS⟩
                                          · replace H := cond_f H hb
                                            refine wpS_put rfl rfl rfl (yv_load_boxA ag_50 rfl (RW.here _) hS hs3 trivial sg0_3) ?_
                                            refine wpS_put rfl rfl rfl (yv_load_boxA ag_50 rfl (RW.here _) hS hs2 trivial sg0_3) ?_
                                            refine wpS_put rfl rfl rfl (yv_neqS (by kernel_rfl) rfl rfl (eqT_50 _ _ _ _ _ _)) ?_
                                            refine wpS_quick 2 rfl ?_
                                            refine wpS_case 239 rfl (fun hb => ?_) (fun hb => ?_)
                                            · replace H := cond_t H hb
                                              refine wpS_quick 14 rfl ?_
                                              refine wpS_nil ?_
                                              refine QH_seq_k hK166 ?_
                                              refine wpC_cond_t rfl rfl ?_
                                              refine wpC_seq_k (fun K hK173 => ?_)
                                              refine wpC_region ?_
                                              refine wpS_quick 1 rfl ?_
                                              refine wpS_nil ?_
                                              refine QH_seq_k hK173 ?_
                                              refine wpC_ret ?_
                                              refine QH_then_ret ?_
                                              refine QH_ret rfl (RV.tmp rfl RV.nil) rfl ?_
                                              obtain rfl := Option.some.inj H
                                              replace hS := hS.cut 0
                                              exact ⟨rfl, hS⟩
                                            · replace H := cond_f H hb
                                              refine wpS_quick 2 rfl ?_
                                              refine wpS_put rfl rfl rfl (yv_neqB (by kernel_rfl) rfl rfl) ?_
                                              refine wpS_quick 2 rfl ?_
                                              refine wpS_case 244 rfl (fun hb => ?_) (fun hb => ?_)
                                              · replace H := cond_t H hb
                                                refine wpS_quick 9 rfl ?_
                                                refine wpS_nil ?_
                                                refine QH_seq_k hK166 ?_
                                                refine wpC_cond_t rfl rfl ?_
                                                refine wpC_seq_k (fun K hK174 => ?_)
                                                refine wpC_region ?_
                                                refine wpS_quick 1 rfl ?_
                                                refine wpS_nil ?_
                                                refine QH_seq_k hK174 ?_
                                                refine wpC_ret ?_
                                                refine QH_then_ret ?_
                                                refine QH_ret rfl (RV.tmp rfl RV.nil) rfl ?_
                                                obtain rfl := Option.some.inj H
                                                replace hS := hS.cut 0
                                                exact ⟨rfl, hS⟩
                                              · replace H := cond_f H hb
                                                refine wpS_put rfl rfl rfl (yv_load_boxA ag_23 rfl (RW.here _) hS hs1 trivial sg0_5) ?_
                                                refine wpS_put rfl rfl rfl (yv_load_boxA ag_23 rfl (RW.here _) hS hs0 trivial sg0_5) ?_
                                                refine wpS_put rfl rfl rfl (yv_neqS (by kernel_rfl) rfl rfl (eqT_23 _ _ _ _ _ _ _ _ _ _)) ?_
                                                refine wpS_quick 2 rfl ?_
                                                refine wpS_case 249 rfl (fun hb => ?_) (fun hb => ?_)
                                                · replace H := cond_t H hb
                                                  refine wpS_quick 4 rfl ?_
                                                  refine wpS_nil ?_
                                                  refine QH_seq_k hK166 ?_
                                                  refine wpC_cond_t rfl rfl ?_
                                                  refine wpC_seq_k (fun K hK175 => ?_)
                                                  refine wpC_region ?_
                                                  refine wpS_quick 1 rfl ?_
                                                  refine wpS_nil ?_
                                                  refine QH_seq_k hK175 ?_
                                                  refine wpC_ret ?_
                                                  refine QH_then_ret ?_
                                                  refine QH_ret rfl (RV.tmp rfl RV.nil) rfl ?_
                                                  obtain rfl := Option.some.inj H
                                                  replace hS := hS.cut 0
                                                  exact ⟨rfl, hS⟩
                                                · replace H := cond_f H hb
                                                  refine wpS_quick 2 rfl ?_
                                                  refine wpS_put rfl rfl rfl (yv_neqB (by kernel_rfl) rfl rfl) ?_
                                                  refine wpS_quick 1 rfl ?_
                                                  refine wpS_nil ?_
                                                  refine QH_seq_k hK166 ?_
                                                  refine wpC_cond rfl (fun hb => ?_) (fun hb => ?_)
                                                  · replace H := cond_t H hb
                                                    refine wpC_seq_k (fun K hK176 => ?_)
                                                    refine wpC_region ?_
                                                    refine wpS_quick 1 rfl ?_
                                                    refine wpS_nil ?_
                                                    refine QH_seq_k hK176 ?_
                                                    refine wpC_ret ?_
                                                    refine QH_then_ret ?_
                                                    refine QH_ret rfl (RV.tmp rfl RV.nil) rfl ?_
                                                    obtain rfl := Option.some.inj H
                                                    replace hS := hS.cut 0
                                                    exact ⟨rfl, hS⟩
                                                  · replace H := cond_f H hb
                                                    refine wpC_skip ?_
                                                    refine QH_seq_k hK165 ?_
                                                    refine wpC_seq_k (fun K hK177 => ?_)
                                                    refine wpC_draw 36 [] (fun _ _ => True) ⟨by kernel_rfl, by kernel_rfl⟩ hS (fun w hS hB => ?_)
                                                    refine wpR_batch [true, false, true] (by decide +kernel) (by repeat (first | exact PF.body | exact PF.round | apply PF.then | apply PF.inBlock | apply PF.jump)) ?_
                                                    refine LtK.put rfl rfl rfl (yv_load_boxA ag_26 rfl (RW.below _) hS hs20 trivial sg0_8) ?_
                                                    refine LtK.put rfl rfl rfl (yv_load_boxA ag_26 rfl (RW.below _) hS hs20 trivial sg0_8) ?_
                                                    refine LtK.nil ?_
                                                    refine wpR_call [false, true] 1 ⟨by decide, by kernel_rfl, by kernel_rfl⟩ rfl rfl ?_
                                                    dsimp only [pickL]
                                                    obtain ⟨r178, hm179, H⟩ := bind_some H
                                                    refine wpS_call rfl rfl rfl rfl (by kernel_rfl) rfl (c_tuple_Right x0 A0_ c0_ _ (SlI.of_rd s0_.k (hS.rd0 s0_.rd) (hS.blk0 s0_.blk)) hm179) ?_
                                                    rintro e w ⟨rfl, hN⟩; refine ⟨_, rfl, ?_⟩; have hB := hN.pure; have hS := hS.join hN; clear hN
                                                    refine wpS_nil ?_
                                                    refine QH_step hB ?_
                                                    refine wpR_call [false, false, false, true] 3 ⟨by decide, by kernel_rfl, by kernel_rfl⟩ rfl rfl ?_
                                                    dsimp only [pickL]
                                                    obtain ⟨r180, hm181, H⟩ := bind_some H
                                                    refine wpS_call rfl rfl rfl rfl (by kernel_rfl) rfl (c_ref12_Right x0 A0_ c0_ _ (SlI.of_rd s0_.k (hS.rd0 s0_.rd) (hS.blk0 s0_.blk)) hm181) ?_
                                                    rintro e w ⟨rfl, hN⟩; refine ⟨_, rfl, ?_⟩; have hB := hN.pure; have hS := hS.join hN; clear hN
                                                    refine wpS_nil ?_
                                                    refine QH_step hB ?_
                                                    refine wpR_batch [false, false, false, false, true, true] (by decide +kernel) (by repeat (first | exact PF.body | exact PF.round | apply PF.then | apply PF.inBlock | apply PF.jump)) ?_
                                                    refine LtK.put rfl rfl rfl (yv_eqlB (by kernel_rfl) rfl rfl) ?_
                                                    refine LtK.put rfl rfl rfl (yv_move rfl) ?_
                                                    refine LtK.nil ?_
                                                    refine wpR_case 259 rfl (fun hb => ?_) (fun hb => ?_)
                                                    · replace H := cond_t H hb
                                                      refine wpR_batch [false, false, false, false, false, false, true, false, true] (by decide +kernel) (by repeat (first | exact PF.body | exact PF.round | apply PF.then | apply PF.inBlock | apply PF.jump)) ?_
                                                      refine LtK.put rfl rfl rfl (yv_load_boxA ag_26 rfl (RW.below _) hS hs20 trivial sg0_8) ?_
                                                      refine LtK.put rfl rfl rfl (yv_load_boxA ag_26 rfl (RW.below _) hS hs20 trivial sg0_8) ?_
                                                      refine LtK.nil ?_
                                                      refine wpR_call [false, false, false, false, false, false, false, true] 7 ⟨by decide, by kernel_rfl, by kernel_rfl⟩ rfl rfl ?_
                                                      dsimp only [pickL]
                                                      obtain ⟨r182, hm183, H⟩ := bind_some H
                                                      refine wpS_call rfl rfl rfl rfl (by kernel_rfl) rfl (c_tuple_Last x0 A0_ c0_ _ (SlI.of_rd s0_.k (hS.rd0 s0_.rd) (hS.blk0 s0_.blk)) hm183) ?_
                                                      rintro e w ⟨rfl, hN⟩; refine ⟨_, rfl, ?_⟩; have hB := hN.pure; have hS := hS.join hN; clear hN
                                                      refine wpS_nil ?_
                                                      refine QH_step hB ?_
                                                      refine wpR_call [false, false, false, false, false, false, false, false, false, true] 9 ⟨by decide, by kernel_rfl, by kernel_rfl⟩ rfl rfl ?_
                                                      dsimp only [pickL]
                                                      obtain ⟨r184, hm185, H⟩ := bind_some H
                                                      refine wpS_call rfl rfl rfl rfl (by kernel_rfl) rfl (c_ref12_Last x0 A0_ c0_ _ (SlI.of_rd s0_.k (hS.rd0 s0_.rd) (hS.blk0 s0_.blk)) hm185) ?_
                                                      rintro e w ⟨rfl, hN⟩; refine ⟨_, rfl, ?_⟩; have hB := hN.pure; have hS := hS.join hN; clear hN
                                                      refine wpS_nil ?_
                                                      refine QH_step hB ?_
                                                      refine wpR_batch [false, false, false, false, false, false, false, false, false, false, true, true, true] (by decide +kernel) (by repeat (first | exact PF.body | exact PF.round | apply PF.then | apply PF.inBlock | apply PF.jump)) ?_
                                                      refine LtK.put rfl rfl rfl (yv_eql rfl rfl) ?_
                                                      refine LtK.put rfl rfl rfl (yv_pick_t rfl rfl rfl) ?_
                                                      refine LtK.put rfl rfl rfl (yv_move rfl) ?_
                                                      refine LtK.nil ?_
                                                      refine wpR_case 266 rfl (fun hb => ?_) (fun hb => ?_)
                                                      · replace H := cond_t H hb
                                                        refine wpR_call [false, false, false, false, false, false, false, false, false, false, false, false, false, true] 13 ⟨by decide, by kernel_rfl, by kernel_rfl⟩ rfl rfl ?_
                                                        dsimp only [pickL]
                                                        obtain ⟨r186, hm187, H⟩ := bind_some H
                                                        refine wpS_call rfl rfl rfl rfl (by kernel_rfl) rfl (c_tuple_First _ hm187) ?_
                                                        rintro e w ⟨A188, c189, rfl, k190, hN⟩; refine ⟨_, rfl, ?_⟩; have hB := hN.pure; have hS := hS.join hN; clear hN
                                                        refine wpS_nil ?_
                                                        refine QH_step hB ?_
                                                        refine wpR_call [false, false, false, false, false, false, false, false, false, false, false, false, false, false, true] 14 ⟨by decide, by kernel_rfl, by kernel_rfl⟩ rfl rfl ?_
                                                        dsimp only [pickL]
                                                        obtain ⟨r192, hm193, H⟩ := bind_some H
                                                        refine wpS_call rfl rfl rfl rfl (by kernel_rfl) rfl (c_ref12_First _ hm193) ?_
                                                        rintro e w ⟨A194, c195, rfl, k196, hN⟩; refine ⟨_, rfl, ?_⟩; have hB := hN.pure; have hS := hS.join hN; clear hN
                                                        refine wpS_nil ?_
                                                        refine QH_step hB ?_
                                                        refine wpR_call [false, false, false, false, false, false, false, false, false, false, false, false, false, false, false, true] 15 ⟨by decide, by kernel_rfl, by kernel_rfl⟩ rfl rfl ?_
                                                        dsimp only [pickL]
                                                        obtain ⟨r198, hm199, H⟩ := bind_some H
                                                        refine wpS_call rfl rfl rfl rfl (by kernel_rfl) rfl (c_ref12_Same r186 r192 A188 c189 A194 c195 _ (SlI.of_rd k190 (hS.rd hs1) (hS.rd_blk hs1)) (SlI.of_rd k196 (hS.rd hs0) (hS.rd_blk hs0)) hm199) ?_
                                                        rintro e w ⟨rfl, hN⟩; refine ⟨_, rfl, ?_⟩; have hB := hN.pure; have hS := hS.join hN; clear hN
                                                        refine wpS_nil ?_
                                                        refine QH_step hB ?_
                                                        refine wpR_batch [false, false, false, false, false, false, false, false, false, false, false, false, false, false, false, false, true, true] (by decide +kernel) (by repeat (first | exact PF.body | exact PF.round | apply PF.then | apply PF.inBlock | apply PF.jump)) ?_
                                                        refine LtK.put rfl rfl rfl (yv_pick_t rfl rfl rfl) ?_
                                                        refine LtK.put rfl rfl rfl (yv_move rfl) ?_
                                                        refine LtK.nil ?_
                                                        refine wpR_case 271 rfl (fun hb => ?_) (fun hb => ?_)
                                                        · replace H := cond_t H hb
                                                          refine wpR_batch [false, false, false, false, false, false, false, false, false, false, false, false, false, false, false, false, false, false, true, true, false, true, true] (by decide +kernel) (by repeat (first | exact PF.body | exact PF.round | apply PF.then | apply PF.inBlock | apply PF.jump)) ?_
                                                          refine LtK.put rfl rfl rfl (yv_load_boxA ag_26 rfl (RW.below _) hS hs22 trivial sg0_8) ?_
                                                          refine LtK.put rfl rfl rfl (yv_load_boxA ag_26 rfl (RW.below _) hS hs21 trivial sg0_8) ?_
                                                          refine LtK.put rfl rfl rfl (yv_load_boxA ag_26 rfl (RW.below _) hS hs22 trivial sg0_8) ?_
                                                          refine LtK.put rfl rfl rfl (yv_load_boxA ag_26 rfl (RW.below _) hS hs21 trivial sg0_8) ?_
                                                          refine LtK.nil ?_
                                                          refine wpR_call [false, false, false, false, false, false, false, false, false, false, false, false, false, false, false, false, false, false, false, false, true] 20 ⟨by decide, by kernel_rfl, by kernel_rfl⟩ rfl rfl ?_
                                                          dsimp only [pickL]
                                                          obtain ⟨r200, hm201, H⟩ := bind_some H
                                                          refine wpS_call rfl rfl rfl rfl (by kernel_rfl) rfl (c_tuple_Same x0 x1 A0_ c0_ A1_ c1_ _ (SlI.of_rd s0_.k (hS.rd0 s0_.rd) (hS.blk0 s0_.blk)) (SlI.of_rd s1_.k (hS.rd0 s1_.rd) (hS.blk0 s1_.blk)) hm201) ?_
                                                          rintro e w ⟨rfl, hN⟩; refine ⟨_, rfl, ?_⟩; have hB := hN.pure; have hS := hS.join hN; clear hN
                                                          refine wpS_nil ?_
                                                          refine QH_step hB ?_
                                                          refine wpR_call [false, false, false, false, false, false, false, false, false, false, false, false, false, false, false, false, false, false, false, false, false, false, false, true] 23 ⟨by decide, by kernel_rfl, by kernel_rfl⟩ rfl rfl ?_
                                                          dsimp only [pickL]
                                                          obtain ⟨r202, hm203, H⟩ := bind_some H
                                                          refine wpS_call rfl rfl rfl rfl (by kernel_rfl) rfl (c_ref12_Same x0 x1 A0_ c0_ A1_ c1_ _ (SlI.of_rd s0_.k (hS.rd0 s0_.rd) (hS.blk0 s0_.blk)) (SlI.of_rd s1_.k (hS.rd0 s1_.rd) (hS.blk0 s1_.blk)) hm203) ?_
                                                          rintro e w ⟨rfl, hN⟩; refine ⟨_, rfl, ?_⟩; have hB := hN.pure; have hS := hS.join hN; clear hN
                                                          refine wpS_nil ?_
                                                          refine QH_step hB ?_
                                                          refine wpR_batch [false, false, false, false, false, false, false, false, false, false, false, false, false, false, false, false, false, false, false, false, false, false, false, false, true, true, true] (by decide +kernel) (by repeat (first | exact PF.body | exact PF.round | apply PF.then | apply PF.inBlock | apply PF.jump)) ?_
                                                          refine LtK.put rfl rfl rfl (yv_eqlB (by kernel_rfl) rfl rfl) ?_
                                                          refine LtK.put rfl rfl rfl (yv_pick_t rfl rfl rfl) ?_
                                                          refine LtK.put rfl rfl rfl (yv_move rfl) ?_
                                                          refine LtK.nil ?_
                                                          refine wpR_case 280 rfl (fun hb => ?_) (fun hb => ?_)
                                                          · replace H := cond_t H hb
                                                            refine wpR_batch [false, false, false, false, false, false, false, false, false, false, false, false, false, false, false, false, false, false, false, false, false, false, false, false, false, false, false, true, false, true] (by decide +kernel) (by repeat (first | exact PF.body | exact PF.round | apply PF.then | apply PF.inBlock | apply PF.jump)) ?_
                                                            refine LtK.put rfl rfl rfl (yv_load_boxA ag_26 rfl (RW.below _) hS hs22 trivial sg0_8) ?_
                                                            refine LtK.put rfl rfl rfl (yv_load_boxA ag_26 rfl (RW.below _) hS hs22 trivial sg0_8) ?_
                                                            refine LtK.nil ?_
                                                            refine wpR_call [false, false, false, false, false, false, false, false, false, false, false, false, false, false, false, false, false, false, false, false, false, false, false, false, false, false, false, false, true] 28 ⟨by decide, by kernel_rfl, by kernel_rfl⟩ rfl rfl ?_
                                                            dsimp only [pickL]
                                                            obtain ⟨r204, hm205, H⟩ := bind_some H
                                                            refine wpS_call rfl rfl rfl rfl (by kernel_rfl) rfl (c_tuple_Own x0 A0_ c0_ _ (SlI.of_rd s0_.k (hS.rd0 s0_.rd) (hS.blk0 s0_.blk)) hm205) ?_
                                                            rintro e w ⟨A206, c207, rfl, k208, hN⟩; refine ⟨_, rfl, ?_⟩; have hB := hN.pure; have hS := hS.join hN; clear hN
                                                            refine wpS_nil ?_
                                                            refine QH_step hB ?_
                                                            refine wpR_call [false, false, false, false, false, false, false, false, false, false, false, false, false, false, false, false, false, false, false, false, false, false, false, false, false, false, false, false, false, false, true] 30 ⟨by decide, by kernel_rfl, by kernel_rfl⟩ rfl rfl ?_
                                                            dsimp only [pickL]
                                                            obtain ⟨r210, hm211, H⟩ := bind_some H
                                                            refine wpS_call rfl rfl rfl rfl (by kernel_rfl) rfl (c_ref12_Same r204 x0 A206 c207 A0_ c0_ _ (SlI.of_rd k208 (hS.row_rd hs0) (hS.row_blk hs0)) (SlI.of_rd s0_.k (hS.rd0 s0_.rd) (hS.blk0 s0_.blk)) hm211) ?_
                                                            rintro e w ⟨rfl, hN⟩; refine ⟨_, rfl, ?_⟩; have hB := hN.pure; have hS := hS.join hN; clear hN
                                                            refine wpS_nil ?_
                                                            refine QH_step hB ?_
                                                            refine wpR_batch [false, false, false, false, false, false, false, false, false, false, false, false, false, false, false, false, false, false, false, false, false, false, false, false, false, false, false, false, false, false, false, true, true] (by decide +kernel) (by repeat (first | exact PF.body | exact PF.round | apply PF.then | apply PF.inBlock | apply PF.jump)) ?_
                                                            refine LtK.put rfl rfl rfl (yv_pick_t rfl rfl rfl) ?_
                                                            refine LtK.put rfl rfl rfl (yv_move rfl) ?_
                                                            refine LtK.nil ?_
                                                            refine wpR_case 286 rfl (fun hb => ?_) (fun hb => ?_)
                                                            · replace H := cond_t H hb
                                                              refine wpR_call [false, false, false, false, false, false, false, false, false, false, false, false, false, false, false, false, false, false, false, false, false, false, false, false, false, false, false, false, false, false, false, false, false, true] 33 ⟨by decide, by kernel_rfl, by kernel_rfl⟩ rfl rfl ?_
                                                              dsimp only [pickL]
                                                              obtain ⟨r212, hm213, H⟩ := bind_some H
                                                              refine wpS_call rfl rfl rfl rfl (by kernel_rfl) rfl (c_law12_wakes _ hm213) ?_
                                                              rintro e w ⟨rfl, hN⟩; refine ⟨_, rfl, ?_⟩; have hB := hN.pure; have hS := hS.join hN; clear hN
                                                              refine wpS_nil ?_
                                                              refine QH_step hB ?_
                                                              refine wpR_batch [false, false, false, false, false, false, false, false, false, false, false, false, false, false, false, false, false, false, false, false, false, false, false, false, false, false, false, false, false, false, false, false, false, false, true, true] (by decide +kernel) (by repeat (first | exact PF.body | exact PF.round | apply PF.then | apply PF.inBlock | apply PF.jump)) ?_
                                                              refine LtK.put rfl rfl rfl (yv_pick_t rfl rfl rfl) ?_
                                                              refine LtK.put rfl rfl rfl (yv_assign rfl) ?_
                                                              refine LtK.nil ?_
                                                              refine wpR_end (by kernel_rfl) ?_
                                                              refine QH_seq_k hK177 ?_
                                                              refine wpC_ret ?_
                                                              refine QH_ret rfl (RV.tmp rfl RV.nil) rfl ?_
                                                              obtain rfl := Option.some.inj H
                                                              replace hS := hS.cut 0
                                                              exact ⟨rfl, hS⟩
                                                            · replace H := cond_f H hb
                                                              refine wpR_call [false, false, false, false, false, false, false, false, false, false, false, false, false, false, false, false, false, false, false, false, false, false, false, false, false, false, false, false, false, false, false, false, false, true] 33 ⟨by decide, by kernel_rfl, by kernel_rfl⟩ rfl rfl ?_
                                                              dsimp only [pickL]
                                                              refine wpS_skip rfl rfl rfl ?_
                                                              refine wpS_nil ?_
                                                              refine QH_step (Below.refl _ _) ?_
                                                              refine wpR_batch [false, false, false, false, false, false, false, false, false, false, false, false, false, false, false, false, false, false, false, false, false, false, false, false, false, false, false, false, false, false, false, false, false, false, true, true] (by decide +kernel) (by repeat (first | exact PF.body | exact PF.round | apply PF.then | apply PF.inBlock | apply PF.jump)) ?_
                                                              refine LtK.put rfl rfl rfl (yv_pick_f rfl rfl rfl) ?_
                                                              refine LtK.put rfl rfl rfl (yv_assign rfl) ?_
                                                              refine LtK.nil ?_
                                                              refine wpR_end (by kernel_rfl) ?_
                                                              refine QH_seq_k hK177 ?_
                                                              refine wpC_ret ?_
                                                              refine QH_ret rfl (RV.tmp rfl RV.nil) rfl ?_
                                                              obtain rfl := Option.some.inj H
                                                              replace hS := hS.cut 0
                                                              exact ⟨rfl, hS⟩
                                                          · replace H := cond_f H hb
                                                            refine wpR_batch [false, false, false, false, false, false, false, false, false, false, false, false, false, false, false, false, false, false, false, false, false, false, false, false, false, false, false, true, false, true] (by decide +kernel) (by repeat (first | exact PF.body | exact PF.round | apply PF.then | apply PF.inBlock | apply PF.jump)) ?_
                                                            refine LtK.skip rfl rfl rfl ?_
                                                            refine LtK.skip rfl rfl rfl ?_
                                                            refine LtK.nil ?_
                                                            refine wpR_call [false, false, false, false, false, false, false, false, false, false, false, false, false, false, false, false, false, false, false, false, false, false, false, false, false, false, false, false, true] 28 ⟨by decide, by kernel_rfl, by kernel_rfl⟩ rfl rfl ?_
                                                            dsimp only [pickL]
                                                            refine wpS_skip rfl rfl rfl ?_
                                                            refine wpS_nil ?_
                                                            refine QH_step (Below.refl _ _) ?_
                                                            refine wpR_call [false, false, false, false, false, false, false, false, false, false, false, false, false, false, false, false, false, false, false, false, false, false, false, false, false, false, false, false, false, false, true] 30 ⟨by decide, by kernel_rfl, by kernel_rfl⟩ rfl rfl ?_
                                                            dsimp only [pickL]
                                                            refine wpS_skip rfl rfl rfl ?_
                                                            refine wpS_nil ?_
                                                            refine QH_step (Below.refl _ _) ?_
                                                            refine wpR_batch [false, false, false, false, false, false, false, false, false, false, false, false, false, false, false, false, false, false, false, false, false, false, false, false, false, false, false, false, false, false, false, true, true] (by decide +kernel) (by repeat (first | exact PF.body | exact PF.round | apply PF.then | apply PF.inBlock | apply PF.jump)) ?_
                                                            refine LtK.put rfl rfl rfl (yv_pick_f rfl rfl rfl) ?_
                                                            refine LtK.put rfl rfl rfl (yv_move rfl) ?_
                                                            refine LtK.nil ?_
                                                            refine wpR_call [false, false, false, false, false, false, false, false, false, false, false, false, false, false, false, false, false, false, false, false, false, false, false, false, false, false, false, false, false, false, false, false, false, true] 33 ⟨by decide, by kernel_rfl, by kernel_rfl⟩ rfl rfl ?_
                                                            dsimp only [pickL]
                                                            refine wpS_skip rfl rfl rfl ?_
                                                            refine wpS_nil ?_
                                                            refine QH_step (Below.refl _ _) ?_
                                                            refine wpR_batch [false, false, false, false, false, false, false, false, false, false, false, false, false, false, false, false, false, false, false, false, false, false, false, false, false, false, false, false, false, false, false, false, false, false, true, true] (by decide +kernel) (by repeat (first | exact PF.body | exact PF.round | apply PF.then | apply PF.inBlock | apply PF.jump)) ?_
                                                            refine LtK.put rfl rfl rfl (yv_pick_f rfl rfl rfl) ?_
                                                            refine LtK.put rfl rfl rfl (yv_assign rfl) ?_
                                                            refine LtK.nil ?_
                                                            refine wpR_end (by kernel_rfl) ?_
                                                            refine QH_seq_k hK177 ?_
                                                            refine wpC_ret ?_
                                                            refine QH_ret rfl (RV.tmp rfl RV.nil) rfl ?_
                                                            obtain rfl := Option.some.inj H
                                                            replace hS := hS.cut 0
                                                            exact ⟨rfl, hS⟩
                                                        · replace H := cond_f H hb
                                                          refine wpR_batch [false, false, false, false, false, false, false, false, false, false, false, false, false, false, false, false, false, false, true, true, false, true, true] (by decide +kernel) (by repeat (first | exact PF.body | exact PF.round | apply PF.then | apply PF.inBlock | apply PF.jump)) ?_
                                                          refine LtK.skip rfl rfl rfl ?_
                                                          refine LtK.skip rfl rfl rfl ?_
                                                          refine LtK.skip rfl rfl rfl ?_
                                                          refine LtK.skip rfl rfl rfl ?_
                                                          refine LtK.nil ?_
                                                          refine wpR_call [false, false, false, false, false, false, false, false, false, false, false, false, false, false, false, false, false, false, false, false, true] 20 ⟨by decide, by kernel_rfl, by kernel_rfl⟩ rfl rfl ?_
                                                          dsimp only [pickL]
                                                          refine wpS_skip rfl rfl rfl ?_
                                                          refine wpS_nil ?_
                                                          refine QH_step (Below.refl _ _) ?_
                                                          refine wpR_call [false, false, false, false, false, false, false, false, false, false, false, false, false, false, false, false, false, false, false, false, false, false, false, true] 23 ⟨by decide, by kernel_rfl, by kernel_rfl⟩ rfl rfl ?_
                                                          dsimp only [pickL]
                                                          refine wpS_skip rfl rfl rfl ?_
                                                          refine wpS_nil ?_
                                                          refine QH_step (Below.refl _ _) ?_
                                                          refine wpR_batch [false, false, false, false, false, false, false, false, false, false, false, false, false, false, false, false, false, false, false, false, false, false, false, false, true, true, true, true, false, true] (by decide +kernel) (by repeat (first | exact PF.body | exact PF.round | apply PF.then | apply PF.inBlock | apply PF.jump)) ?_
                                                          refine LtK.skip rfl rfl rfl ?_
                                                          refine LtK.put rfl rfl rfl (yv_pick_f rfl rfl rfl) ?_
                                                          refine LtK.put rfl rfl rfl (yv_move rfl) ?_
                                                          refine LtK.skip rfl rfl rfl ?_
                                                          refine LtK.skip rfl rfl rfl ?_
                                                          refine LtK.nil ?_
                                                          refine wpR_call [false, false, false, false, false, false, false, false, false, false, false, false, false, false, false, false, false, false, false, false, false, false, false, false, false, false, false, false, true] 28 ⟨by decide, by kernel_rfl, by kernel_rfl⟩ rfl rfl ?_
                                                          dsimp only [pickL]
                                                          refine wpS_skip rfl rfl rfl ?_
                                                          refine wpS_nil ?_
                                                          refine QH_step (Below.refl _ _) ?_
                                                          refine wpR_call [false, false, false, false, false, false, false, false, false, false, false, false, false, false, false, false, false, false, false, false, false, false, false, false, false, false, false, false, false, false, true] 30 ⟨by decide, by kernel_rfl, by kernel_rfl⟩ rfl rfl ?_
                                                          dsimp only [pickL]
                                                          refine wpS_skip rfl rfl rfl ?_
                                                          refine wpS_nil ?_
                                                          refine QH_step (Below.refl _ _) ?_
                                                          refine wpR_batch [false, false, false, false, false, false, false, false, false, false, false, false, false, false, false, false, false, false, false, false, false, false, false, false, false, false, false, false, false, false, false, true, true] (by decide +kernel) (by repeat (first | exact PF.body | exact PF.round | apply PF.then | apply PF.inBlock | apply PF.jump)) ?_
                                                          refine LtK.put rfl rfl rfl (yv_pick_f rfl rfl rfl) ?_
                                                          refine LtK.put rfl rfl rfl (yv_move rfl) ?_
                                                          refine LtK.nil ?_
                                                          refine wpR_call [false, false, false, false, false, false, false, false, false, false, false, false, false, false, false, false, false, false, false, false, false, false, false, false, false, false, false, false, false, false, false, false, false, true] 33 ⟨by decide, by kernel_rfl, by kernel_rfl⟩ rfl rfl ?_
                                                          dsimp only [pickL]
                                                          refine wpS_skip rfl rfl rfl ?_
                                                          refine wpS_nil ?_
                                                          refine QH_step (Below.refl _ _) ?_
                                                          refine wpR_batch [false, false, false, false, false, false, false, false, false, false, false, false, false, false, false, false, false, false, false, false, false, false, false, false, false, false, false, false, false, false, false, false, false, false, true, true] (by decide +kernel) (by repeat (first | exact PF.body | exact PF.round | apply PF.then | apply PF.inBlock | apply PF.jump)) ?_
                                                          refine LtK.put rfl rfl rfl (yv_pick_f rfl rfl rfl) ?_
                                                          refine LtK.put rfl rfl rfl (yv_assign rfl) ?_
                                                          refine LtK.nil ?_
                                                          refine wpR_end (by kernel_rfl) ?_
                                                          refine QH_seq_k hK177 ?_
                                                          refine wpC_ret ?_
                                                          refine QH_ret rfl (RV.tmp rfl RV.nil) rfl ?_
                                                          obtain rfl := Option.some.inj H
                                                          replace hS := hS.cut 0
                                                          exact ⟨rfl, hS⟩
                                                      · replace H := cond_f H hb
                                                        refine wpR_call [false, false, false, false, false, false, false, false, false, false, false, false, false, true] 13 ⟨by decide, by kernel_rfl, by kernel_rfl⟩ rfl rfl ?_
                                                        dsimp only [pickL]
                                                        refine wpS_skip rfl rfl rfl ?_
                                                        refine wpS_nil ?_
                                                        refine QH_step (Below.refl _ _) ?_
                                                        refine wpR_call [false, false, false, false, false, false, false, false, false, false, false, false, false, false, true] 14 ⟨by decide, by kernel_rfl, by kernel_rfl⟩ rfl rfl ?_
                                                        dsimp only [pickL]
                                                        refine wpS_skip rfl rfl rfl ?_
                                                        refine wpS_nil ?_
                                                        refine QH_step (Below.refl _ _) ?_
                                                        refine wpR_call [false, false, false, false, false, false, false, false, false, false, false, false, false, false, false, true] 15 ⟨by decide, by kernel_rfl, by kernel_rfl⟩ rfl rfl ?_
                                                        dsimp only [pickL]
                                                        refine wpS_skip rfl rfl rfl ?_
                                                        refine wpS_nil ?_
                                                        refine QH_step (Below.refl _ _) ?_
                                                        refine wpR_batch [false, false, false, false, false, false, false, false, false, false, false, false, false, false, false, false, true, true, true, true, false, true, true] (by decide +kernel) (by repeat (first | exact PF.body | exact PF.round | apply PF.then | apply PF.inBlock | apply PF.jump)) ?_
                                                        refine LtK.put rfl rfl rfl (yv_pick_f rfl rfl rfl) ?_
                                                        refine LtK.put rfl rfl rfl (yv_move rfl) ?_
                                                        refine LtK.skip rfl rfl rfl ?_
                                                        refine LtK.skip rfl rfl rfl ?_
                                                        refine LtK.skip rfl rfl rfl ?_
                                                        refine LtK.skip rfl rfl rfl ?_
                                                        refine LtK.nil ?_
                                                        refine wpR_call [false, false, false, false, false, false, false, false, false, false, false, false, false, false, false, false, false, false, false, false, true] 20 ⟨by decide, by kernel_rfl, by kernel_rfl⟩ rfl rfl ?_
                                                        dsimp only [pickL]
                                                        refine wpS_skip rfl rfl rfl ?_
                                                        refine wpS_nil ?_
                                                        refine QH_step (Below.refl _ _) ?_
                                                        refine wpR_call [false, false, false, false, false, false, false, false, false, false, false, false, false, false, false, false, false, false, false, false, false, false, false, true] 23 ⟨by decide, by kernel_rfl, by kernel_rfl⟩ rfl rfl ?_
                                                        dsimp only [pickL]
                                                        refine wpS_skip rfl rfl rfl ?_
                                                        refine wpS_nil ?_
                                                        refine QH_step (Below.refl _ _) ?_
                                                        refine wpR_batch [false, false, false, false, false, false, false, false, false, false, false, false, false, false, false, false, false, false, false, false, false, false, false, false, true, true, true, true, false, true] (by decide +kernel) (by repeat (first | exact PF.body | exact PF.round | apply PF.then | apply PF.inBlock | apply PF.jump)) ?_
                                                        refine LtK.skip rfl rfl rfl ?_
                                                        refine LtK.put rfl rfl rfl (yv_pick_f rfl rfl rfl) ?_
                                                        refine LtK.put rfl rfl rfl (yv_move rfl) ?_
                                                        refine LtK.skip rfl rfl rfl ?_
                                                        refine LtK.skip rfl rfl rfl ?_
                                                        refine LtK.nil ?_
                                                        refine wpR_call [false, false, false, false, false, false, false, false, false, false, false, false, false, false, false, false, false, false, false, false, false, false, false, false, false, false, false, false, true] 28 ⟨by decide, by kernel_rfl, by kernel_rfl⟩ rfl rfl ?_
                                                        dsimp only [pickL]
                                                        refine wpS_skip rfl rfl rfl ?_
                                                        refine wpS_nil ?_
                                                        refine QH_step (Below.refl _ _) ?_
                                                        refine wpR_call [false, false, false, false, false, false, false, false, false, false, false, false, false, false, false, false, false, false, false, false, false, false, false, false, false, false, false, false, false, false, true] 30 ⟨by decide, by kernel_rfl, by kernel_rfl⟩ rfl rfl ?_
                                                        dsimp only [pickL]
                                                        refine wpS_skip rfl rfl rfl ?_
                                                        refine wpS_nil ?_
                                                        refine QH_step (Below.refl _ _) ?_
                                                        refine wpR_batch [false, false, false, false, false, false, false, false, false, false, false, false, false, false, false, false, false, false, false, false, false, false, false, false, false, false, false, false, false, false, false, true, true] (by decide +kernel) (by repeat (first | exact PF.body | exact PF.round | apply PF.then | apply PF.inBlock | apply PF.jump)) ?_
                                                        refine LtK.put rfl rfl rfl (yv_pick_f rfl rfl rfl) ?_
                                                        refine LtK.put rfl rfl rfl (yv_move rfl) ?_
                                                        refine LtK.nil ?_
                                                        refine wpR_call [false, false, false, false, false, false, false, false, false, false, false, false, false, false, false, false, false, false, false, false, false, false, false, false, false, false, false, false, false, false, false, false, false, true] 33 ⟨by decide, by kernel_rfl, by kernel_rfl⟩ rfl rfl ?_
                                                        dsimp only [pickL]
                                                        refine wpS_skip rfl rfl rfl ?_
                                                        refine wpS_nil ?_
                                                        refine QH_step (Below.refl _ _) ?_
                                                        refine wpR_batch [false, false, false, false, false, false, false, false, false, false, false, false, false, false, false, false, false, false, false, false, false, false, false, false, false, false, false, false, false, false, false, false, false, false, true, true] (by decide +kernel) (by repeat (first | exact PF.body | exact PF.round | apply PF.then | apply PF.inBlock | apply PF.jump)) ?_
                                                        refine LtK.put rfl rfl rfl (yv_pick_f rfl rfl rfl) ?_
                                                        refine LtK.put rfl rfl rfl (yv_assign rfl) ?_
                                                        refine LtK.nil ?_
                                                        refine wpR_end (by kernel_rfl) ?_
                                                        refine QH_seq_k hK177 ?_
                                                        refine wpC_ret ?_
                                                        refine QH_ret rfl (RV.tmp rfl RV.nil) rfl ?_
                                                        obtain rfl := Option.some.inj H
                                                        replace hS := hS.cut 0
                                                        exact ⟨rfl, hS⟩
                                                    · replace H := cond_f H hb
                                                      refine wpR_batch [false, false, false, false, false, false, true, false, true] (by decide +kernel) (by repeat (first | exact PF.body | exact PF.round | apply PF.then | apply PF.inBlock | apply PF.jump)) ?_
                                                      refine LtK.skip rfl rfl rfl ?_
                                                      refine LtK.skip rfl rfl rfl ?_
                                                      refine LtK.nil ?_
                                                      refine wpR_call [false, false, false, false, false, false, false, true] 7 ⟨by decide, by kernel_rfl, by kernel_rfl⟩ rfl rfl ?_
                                                      dsimp only [pickL]
                                                      refine wpS_skip rfl rfl rfl ?_
                                                      refine wpS_nil ?_
                                                      refine QH_step (Below.refl _ _) ?_
                                                      refine wpR_call [false, false, false, false, false, false, false, false, false, true] 9 ⟨by decide, by kernel_rfl, by kernel_rfl⟩ rfl rfl ?_
                                                      dsimp only [pickL]
                                                      refine wpS_skip rfl rfl rfl ?_
                                                      refine wpS_nil ?_
                                                      refine QH_step (Below.refl _ _) ?_
                                                      refine wpR_batch [false, false, false, false, false, false, false, false, false, false, true, true, true] (by decide +kernel) (by repeat (first | exact PF.body | exact PF.round | apply PF.then | apply PF.inBlock | apply PF.jump)) ?_
                                                      refine LtK.skip rfl rfl rfl ?_
                                                      refine LtK.put rfl rfl rfl (yv_pick_f rfl rfl rfl) ?_
                                                      refine LtK.put rfl rfl rfl (yv_move rfl) ?_
                                                      refine LtK.nil ?_
                                                      refine wpR_call [false, false, false, false, false, false, false, false, false, false, false, false, false, true] 13 ⟨by decide, by kernel_rfl, by kernel_rfl⟩ rfl rfl ?_
                                                      dsimp only [pickL]
                                                      refine wpS_skip rfl rfl rfl ?_
                                                      refine wpS_nil ?_
                                                      refine QH_step (Below.refl _ _) ?_
                                                      refine wpR_call [false, false, false, false, false, false, false, false, false, false, false, false, false, false, true] 14 ⟨by decide, by kernel_rfl, by kernel_rfl⟩ rfl rfl ?_
                                                      dsimp only [pickL]
                                                      refine wpS_skip rfl rfl rfl ?_
                                                      refine wpS_nil ?_
                                                      refine QH_step (Below.refl _ _) ?_
                                                      refine wpR_call [false, false, false, false, false, false, false, false, false, false, false, false, false, false, false, true] 15 ⟨by decide, by kernel_rfl, by kernel_rfl⟩ rfl rfl ?_
                                                      dsimp only [pickL]
                                                      refine wpS_skip rfl rfl rfl ?_
                                                      refine wpS_nil ?_
                                                      refine QH_step (Below.refl _ _) ?_
                                                      refine wpR_batch [false, false, false, false, false, false, false, false, false, false, false, false, false, false, false, false, true, true, true, true, false, true, true] (by decide +kernel) (by repeat (first | exact PF.body | exact PF.round | apply PF.then | apply PF.inBlock | apply PF.jump)) ?_
                                                      refine LtK.put rfl rfl rfl (yv_pick_f rfl rfl rfl) ?_
                                                      refine LtK.put rfl rfl rfl (yv_move rfl) ?_
                                                      refine LtK.skip rfl rfl rfl ?_
                                                      refine LtK.skip rfl rfl rfl ?_
                                                      refine LtK.skip rfl rfl rfl ?_
                                                      refine LtK.skip rfl rfl rfl ?_
                                                      refine LtK.nil ?_
                                                      refine wpR_call [false, false, false, false, false, false, false, false, false, false, false, false, false, false, false, false, false, false, false, false, true] 20 ⟨by decide, by kernel_rfl, by kernel_rfl⟩ rfl rfl ?_
                                                      dsimp only [pickL]
                                                      refine wpS_skip rfl rfl rfl ?_
                                                      refine wpS_nil ?_
                                                      refine QH_step (Below.refl _ _) ?_
                                                      refine wpR_call [false, false, false, false, false, false, false, false, false, false, false, false, false, false, false, false, false, false, false, false, false, false, false, true] 23 ⟨by decide, by kernel_rfl, by kernel_rfl⟩ rfl rfl ?_
                                                      dsimp only [pickL]
                                                      refine wpS_skip rfl rfl rfl ?_
                                                      refine wpS_nil ?_
                                                      refine QH_step (Below.refl _ _) ?_
                                                      refine wpR_batch [false, false, false, false, false, false, false, false, false, false, false, false, false, false, false, false, false, false, false, false, false, false, false, false, true, true, true, true, false, true] (by decide +kernel) (by repeat (first | exact PF.body | exact PF.round | apply PF.then | apply PF.inBlock | apply PF.jump)) ?_
                                                      refine LtK.skip rfl rfl rfl ?_
                                                      refine LtK.put rfl rfl rfl (yv_pick_f rfl rfl rfl) ?_
                                                      refine LtK.put rfl rfl rfl (yv_move rfl) ?_
                                                      refine LtK.skip rfl rfl rfl ?_
                                                      refine LtK.skip rfl rfl rfl ?_
                                                      refine LtK.nil ?_
                                                      refine wpR_call [false, false, false, false, false, false, false, false, false, false, false, false, false, false, false, false, false, false, false, false, false, false, false, false, false, false, false, false, true] 28 ⟨by decide, by kernel_rfl, by kernel_rfl⟩ rfl rfl ?_
                                                      dsimp only [pickL]
                                                      refine wpS_skip rfl rfl rfl ?_
                                                      refine wpS_nil ?_
                                                      refine QH_step (Below.refl _ _) ?_
                                                      refine wpR_call [false, false, false, false, false, false, false, false, false, false, false, false, false, false, false, false, false, false, false, false, false, false, false, false, false, false, false, false, false, false, true] 30 ⟨by decide, by kernel_rfl, by kernel_rfl⟩ rfl rfl ?_
                                                      dsimp only [pickL]
                                                      refine wpS_skip rfl rfl rfl ?_
                                                      refine wpS_nil ?_
                                                      refine QH_step (Below.refl _ _) ?_
                                                      refine wpR_batch [false, false, false, false, false, false, false, false, false, false, false, false, false, false, false, false, false, false, false, false, false, false, false, false, false, false, false, false, false, false, false, true, true] (by decide +kernel) (by repeat (first | exact PF.body | exact PF.round | apply PF.then | apply PF.inBlock | apply PF.jump)) ?_
                                                      refine LtK.put rfl rfl rfl (yv_pick_f rfl rfl rfl) ?_
                                                      refine LtK.put rfl rfl rfl (yv_move rfl) ?_
                                                      refine LtK.nil ?_
                                                      refine wpR_call [false, false, false, false, false, false, false, false, false, false, false, false, false, false, false, false, false, false, false, false, false, false, false, false, false, false, false, false, false, false, false, false, false, true] 33 ⟨by decide, by kernel_rfl, by kernel_rfl⟩ rfl rfl ?_
                                                      dsimp only [pickL]
                                                      refine wpS_skip rfl rfl rfl ?_
                                                      refine wpS_nil ?_
                                                      refine QH_step (Below.refl _ _) ?_
                                                      refine wpR_batch [false, false, false, false, false, false, false, false, false, false, false, false, false, false, false, false, false, false, false, false, false, false, false, false, false, false, false, false, false, false, false, false, false, false, true, true] (by decide +kernel) (by repeat (first | exact PF.body | exact PF.round | apply PF.then | apply PF.inBlock | apply PF.jump)) ?_
                                                      refine LtK.put rfl rfl rfl (yv_pick_f rfl rfl rfl) ?_
                                                      refine LtK.put rfl rfl rfl (yv_assign rfl) ?_
                                                      refine LtK.nil ?_
                                                      refine wpR_end (by kernel_rfl) ?_
                                                      refine QH_seq_k hK177 ?_
                                                      refine wpC_ret ?_
                                                      refine QH_ret rfl (RV.tmp rfl RV.nil) rfl ?_
                                                      obtain rfl := Option.some.inj H
                                                      replace hS := hS.cut 0
                                                      exact ⟨rfl, hS⟩
end Go.Proofs.Ythngkojbokknfaa
