/- Texts of one claim put together: what its walks share. -/
import Derived.Test.YtamjlcaoieliaaaMo1
import Derived.Test.YtamjlcaoieliaaaMo2
/- What functions compute, in plain terms, and that they do; printed. -/
namespace Go.Proofs.Ytamjlcaoieliaaa
open Go Go.RowKit
set_option maxRecDepth 100000
set_option maxHeartbeats 4000000
theorem c_ref06_First (w0 : World) {r : St} (H : m_ref06_First = some r) : Calls Try.prog 42 #[] w0 fun e w' => e = .returned (.agg #[.int .i64 r.index, .int .i64 r.term, .int .i64 r.sum, .int .i64 r.level, .bool r.final]) ∧ St0 All w0 w' [] := by
  unfold m_ref06_First at H
  refine gw_enter0 Try.func42 rfl Try.ntmps42 rfl ?_
  have hS := St0.start All w0
  refine wpC_seq_k (fun K hK1 => ?_)
  refine wpC_region ?_
  refine wpS_alloc rfl rfl zc_23 hS (fun b2 w hS hB => ?_)
  refine wpS_nil ?_
  refine QH_seq_k hK1 ?_
  refine wpC_seq_k (fun K hK4 => ?_)
  refine wpC_region ?_
  refine wpS_put rfl rfl rfl (yv_build (cells := [.int .i64 0, .int .i64 0, .int .i64 0, .int .i64 1, .bool false]) rfl (by kernel_rfl)) ?_
  refine wpS_store rfl rfl rfl CellsOf.agg hS ps0 st0_5 (by kernel_rfl) rfl (fun w hS hB => ?_)
  refine wpS_nil ?_
  refine QH_seq_k hK4 ?_
  refine wpC_ret ?_
  refine QH_ret rfl (RV.cell rfl (load_boxA ag_23 hS hs0 sg0_5) RV.nil) rfl ?_
  obtain rfl := Option.some.inj H
  replace hS := hS.cut 0
  exact ⟨rfl, hS⟩
theorem c_ref12_Last (x0 : Tu) (A0_ : Option Addr) (c0_ : Nat) (w0 : World) (s0_ : SlI w0 enE A0_ c0_ x0.log) {r : Int} (H : m_ref12_Last x0 = some r) : Calls Try.prog 24 #[.agg #[.int .i64 x0.snap.index, .int .i64 x0.snap.term, .int .i64 x0.snap.sum, .int .i64 x0.snap.level, .bool x0.snap.final, .slice A0_ x0.log.length c0_, .int .i64 x0.term, .int .i64 x0.vote]] w0 fun e w' => e = .returned (.int .i64 r) ∧ St0 All w0 w' [] := by
  unfold m_ref12_Last at H
  refine gw_enter1 Try.func24 rfl Try.ntmps24 rfl ?_
  have hS := St0.start All w0
  refine wpC_seq_k (fun K hK1 => ?_)
  refine wpC_region ?_
  refine wpS_box rfl rfl rfl CellsOf.agg hS (fun b2 w hS hB => ?_)
  refine wpS_quick 1 rfl ?_
  refine wpS_nil ?_
  refine QH_seq_k hK1 ?_
  refine wpC_seq_k (fun K hK4 => ?_)
  refine wpC_region ?_
  refine wpS_put rfl rfl rfl (yv_fieldAddr fo_26_0 rfl) ?_
  refine wpS_put rfl rfl rfl (yv_fieldAddr fo_23_0 rfl) ?_
  refine wpS_put rfl rfl rfl (yv_load_box sc_3 rfl (RW.here _) hS hs0 trivial sg0_1) ?_
  refine wpS_put rfl rfl rfl (yv_fieldAddr fo_26_1 rfl) ?_
  refine wpS_put rfl rfl rfl (yv_load_box sc_24 rfl (RW.here _) hS hs0 trivial sg5_1) ?_
  refine wpS_put rfl rfl rfl (yv_len el_24 rfl) ?_
  refine wpS_put rfl rfl rfl (yx_add rfl rfl) ?_
  refine wpS_quick 1 rfl ?_
  refine wpS_nil ?_
  refine QH_seq_k hK4 ?_
  refine wpC_ret ?_
  refine QH_ret rfl (RV.tmp rfl RV.nil) rfl ?_
  obtain rfl := Option.some.inj H
  replace hS := hS.cut 0
  exact ⟨rfl, hS⟩
theorem c_ref12_First (w0 : World) {r : Tu} (H : m_ref12_First = some r) : Calls Try.prog 16 #[] w0 fun e w' => ∃ (A0 : Option Addr) (c0 : Nat), e = .returned (.agg #[.int .i64 r.snap.index, .int .i64 r.snap.term, .int .i64 r.snap.sum, .int .i64 r.snap.level, .bool r.snap.final, .slice A0 r.log.length c0, .int .i64 r.term, .int .i64 r.vote]) ∧ (r.log.length ≤ c0 ∧ c0 ≤ maxLen) ∧ St0 All w0 w' [.rd A0 (encs enE r.log)] := by
  unfold m_ref12_First at H
  refine gw_enter0 Try.func16 rfl Try.ntmps16 rfl ?_
  have hS := St0.start All w0
  refine wpC_seq_k (fun K hK1 => ?_)
  refine wpC_region ?_
  refine wpS_alloc rfl rfl zc_26 hS (fun b2 w hS hB => ?_)
  refine wpS_nil ?_
  refine QH_seq_k hK1 ?_
  refine wpC_seq_k (fun K hK4 => ?_)
  refine wpC_region ?_
  obtain ⟨r5, hm6, H⟩ := bind_some H
  refine wpS_call rfl rfl rfl rfl (by kernel_rfl) rfl (c_ref06_First _ hm6) ?_
  rintro e w ⟨rfl, hN⟩; refine ⟨_, rfl, ?_⟩; have hB := hN.pure; have hS := hS.join hN; clear hN
  refine wpS_put rfl rfl rfl (yv_build (cells := [.int .i64 r5.index, .int .i64 r5.term, .int .i64 r5.sum, .int .i64 r5.level, .bool r5.final, .slice none 0 0, .int .i64 0, .int .i64 0]) rfl (by kernel_rfl)) ?_
  refine wpS_store rfl rfl rfl CellsOf.agg hS ps0 st0_8 (by kernel_rfl) rfl (fun w hS hB => ?_)
  refine wpS_nil ?_
  refine QH_seq_k hK4 ?_
  refine wpC_ret ?_
  refine QH_ret rfl (RV.cell rfl (load_boxA ag_26 hS hs0 sg0_8) RV.nil) rfl ?_
  obtain rfl := Option.some.inj H
  have hS := hS.nilRd
  replace hS := hS.cut 1
  exact ⟨none, 0, rfl, ⟨Nat.le_refl _, Nat.zero_le _⟩, hS⟩
theorem c_ref12_Own (x0 : Tu) (A0_ : Option Addr) (c0_ : Nat) (w0 : World) (s0_ : SlI w0 enE A0_ c0_ x0.log) {r : Tu} (H : m_ref12_Own x0 = some r) : Calls Try.prog 41 #[.agg #[.int .i64 x0.snap.index, .int .i64 x0.snap.term, .int .i64 x0.snap.sum, .int .i64 x0.snap.level, .bool x0.snap.final, .slice A0_ x0.log.length c0_, .int .i64 x0.term, .int .i64 x0.vote]] w0 fun e w' => ∃ (A0 : Option Addr) (c0 : Nat), e = .returned (.agg #[.int .i64 r.snap.index, .int .i64 r.snap.term, .int .i64 r.snap.sum, .int .i64 r.snap.level, .bool r.snap.final, .slice A0 r.log.length c0, .int .i64 r.term, .int .i64 r.vote]) ∧ (r.log.length ≤ c0 ∧ c0 ≤ maxLen) ∧ St0 All w0 w' [.row (.slice A0 r.log.length c0) 56 3 r.log.length (encs enE r.log)] := by
  unfold m_ref12_Own at H
  refine gw_enter1 Try.func41 rfl Try.ntmps41 rfl ?_
  have hS := St0.start All w0
  refine wpC_seq_k (fun K hK1 => ?_)
  refine wpC_region ?_
  refine wpS_box rfl rfl rfl CellsOf.agg hS (fun b2 w hS hB => ?_)
  refine wpS_alloc rfl rfl zc_26 hS (fun b4 w hS hB => ?_)
  refine wpS_nil ?_
  refine QH_seq_k hK1 ?_
  refine wpC_seq_k (fun K hK6 => ?_)
  refine wpC_region ?_
  refine wpS_slice0 el_24 rfl rfl hS (fun b7 w hS hB => ?_)
  refine wpS_put rfl rfl rfl (yv_fieldAddr fo_26_1 rfl) ?_
  refine wpS_put rfl rfl rfl (yv_load_box sc_24 rfl (RW.here _) hS hs2 trivial sg5_1) ?_
  obtain ⟨l9, hf10, H⟩ := bind_some H
  refine wpX_append (ys := x0.log) he_enE oc_enE em_24 (by decide) rfl rfl rfl rfl hS (fun _ => ps0) (hS.rd0 s0_.rd) hf10 (fun A11 c12 w k13 hS => ?_)
  refine wpS_put rfl rfl rfl (yv_fieldAddr fo_26_1 rfl) ?_
  refine wpS_store rfl rfl rfl CellsOf.slice hS ps2 st5_1 (by kernel_rfl) rfl (fun w hS hB => ?_)
  refine wpS_nil ?_
  refine QH_seq_k hK6 ?_
  refine wpC_seq_k (fun K hK14 => ?_)
  refine wpC_region ?_
  refine wpS_put rfl rfl rfl (yv_load_boxA ag_26 rfl (RW.here _) hS hs2 trivial sg0_8) ?_
  refine wpS_store rfl rfl rfl CellsOf.agg hS ps1 st0_8 (by kernel_rfl) rfl (fun w hS hB => ?_)
  refine wpS_nil ?_
  refine QH_seq_k hK14 ?_
  refine wpC_ret ?_
  refine QH_ret rfl (RV.cell rfl (load_boxA ag_26 hS hs1 sg0_8) RV.nil) rfl ?_
  obtain rfl := Option.some.inj H
  have hS := hS.front 0 rfl
  replace hS := hS.cut 1
  exact ⟨A11, c12, rfl, k13, hS⟩
theorem c_ref20_New (x0 : Int) (x1 : Int) (x2 : Int) (x3 : Tu) (A0_ : Option Addr) (c0_ : Nat) (w0 : World) (s0_ : SlI w0 enE A0_ c0_ x3.log) {r : Co} (H : m_ref20_New x0 x1 x2 x3 = some r) : Calls Try.prog 15 #[.int .i64 x0, .int .i64 x1, .int .i64 x2, .agg #[.int .i64 x3.snap.index, .int .i64 x3.snap.term, .int .i64 x3.snap.sum, .int .i64 x3.snap.level, .bool x3.snap.final, .slice A0_ x3.log.length c0_, .int .i64 x3.term, .int .i64 x3.vote]] w0 fun e w' => ∃ (A0 : Option Addr) (c0 : Nat) (A1 : Option Addr) (c1 : Nat) (A2 : Option Addr) (c2 : Nat) (A3 : Option Addr) (c3 : Nat) (A4 : Option Addr) (c4 : Nat), e = .returned (.agg #[.int .i64 r.id, .int .i64 r.n, .int .u8 r.role, .int .i64 r.binary, .int .i64 r.tuple.snap.index, .int .i64 r.tuple.snap.term, .int .i64 r.tuple.snap.sum, .int .i64 r.tuple.snap.level, .bool r.tuple.snap.final, .slice A0 r.tuple.log.length c0, .int .i64 r.tuple.term, .int .i64 r.tuple.vote, .int .i64 r.commit, .int .i64 r.applied.index, .int .i64 r.applied.term, .int .i64 r.applied.sum, .int .i64 r.applied.level, .bool r.applied.final, .slice A1 r.votes.length c1, .slice A2 r.next.length c2, .slice A3 r.mtch.length c3, .slice A4 r.caps.length c4]) ∧ (r.tuple.log.length ≤ c0 ∧ c0 ≤ maxLen) ∧ (r.votes.length ≤ c1 ∧ c1 ≤ maxLen) ∧ (r.next.length ≤ c2 ∧ c2 ≤ maxLen) ∧ (r.mtch.length ≤ c3 ∧ c3 ≤ maxLen) ∧ (r.caps.length ≤ c4 ∧ c4 ≤ maxLen) ∧ St0 All w0 w' [.row (.slice A0 r.tuple.log.length c0) 56 3 r.tuple.log.length (encs enE r.tuple.log), .row (.slice A1 r.votes.length c1) 4 1 r.votes.length (encs enO r.votes), .row (.slice A2 r.next.length c2) 3 1 r.next.length (encs enI r.next), .row (.slice A3 r.mtch.length c3) 3 1 r.mtch.length (encs enI r.mtch), .row (.slice A4 r.caps.length c4) 3 1 r.caps.length (encs enI r.caps)] := by
  unfold m_ref20_New at H
  refine gw_enter4 Try.func15 rfl Try.ntmps15 rfl ?_
  have hS := St0.start All w0
  refine wpC_seq_k (fun K hK1 => ?_)
  refine wpC_region ?_
  refine wpS_box rfl rfl rfl CellsOf.agg hS (fun b2 w hS hB => ?_)
  refine wpS_alloc rfl rfl zc_30 hS (fun b4 w hS hB => ?_)
  refine wpS_nil ?_
  refine QH_seq_k hK1 ?_
  refine wpC_seq_k (fun K hK6 => ?_)
  refine wpC_seq_k (fun K hK7 => ?_)
  refine wpC_region ?_
  refine wpS_quick 1 rfl ?_
  refine wpS_put rfl rfl rfl (yv_lss rfl rfl) ?_
  refine wpS_quick 1 rfl ?_
  refine wpS_case 13 rfl (fun hb => ?_) (fun hb => ?_)
  · replace H := cond_t H hb
    refine wpS_quick 12 rfl ?_
    refine wpS_nil ?_
    refine QH_seq_k hK7 ?_
    refine wpC_cond_t rfl rfl ?_
    refine wpC_seq_k (fun K hK9 => ?_)
    refine wpC_region ?_
    refine wpS_put rfl rfl rfl (yv_build (cells := [.int .i64 0, .int .i64 0, .int .u8 0, .int .i64 0, .int .i64 0, .int .i64 0, .int .i64 0, .int .i64 0, .bool false, .slice none 0 0, .int .i64 0, .int .i64 0, .int .i64 0, .int .i64 0, .int .i64 0, .int .i64 0, .int .i64 0, .bool false, .slice none 0 0, .slice none 0 0, .slice none 0 0, .slice none 0 0]) rfl (by kernel_rfl)) ?_
    refine wpS_store rfl rfl rfl CellsOf.agg hS ps0 st0_22 (by kernel_rfl) rfl (fun w hS hB => ?_)
    refine wpS_nil ?_
    refine QH_seq_k hK9 ?_
    refine wpC_ret ?_
    refine QH_then_ret ?_
    refine QH_ret rfl (RV.cell rfl (load_boxA ag_30 hS hs0 sg0_22) RV.nil) rfl ?_
    obtain rfl := Option.some.inj H
    have hS := hS.nilRow 3 1
    have hS := hS.nilRow 3 1
    have hS := hS.nilRow 3 1
    have hS := hS.nilRow 4 1
    have hS := hS.nilRow 56 3
    replace hS := hS.cut 5
    exact ⟨none, 0, none, 0, none, 0, none, 0, none, 0, rfl, ⟨Nat.le_refl _, Nat.zero_le _⟩, ⟨Nat.le_refl _, Nat.zero_le _⟩, ⟨Nat.le_refl _, Nat.zero_le _⟩, ⟨Nat.le_refl _, Nat.zero_le _⟩, ⟨Nat.le_refl _, Nat.zero_le _⟩, hS⟩
  replace H := cond_f H hb
  refine wpS_quick 1 rfl ?_
  refine wpS_put rfl rfl rfl (yv_gtr rfl rfl) ?_
  refine wpS_quick 2 rfl ?_
  refine wpS_case 17 rfl (fun hb => ?_) (fun hb => ?_)
  · replace H := cond_t H hb
    refine wpS_quick 8 rfl ?_
    refine wpS_nil ?_
    refine QH_seq_k hK7 ?_
    refine wpC_cond_t rfl rfl ?_
    refine wpC_seq_k (fun K hK12 => ?_)
    refine wpC_region ?_
    refine wpS_put rfl rfl rfl (yv_build (cells := [.int .i64 0, .int .i64 0, .int .u8 0, .int .i64 0, .int .i64 0, .int .i64 0, .int .i64 0, .int .i64 0, .bool false, .slice none 0 0, .int .i64 0, .int .i64 0, .int .i64 0, .int .i64 0, .int .i64 0, .int .i64 0, .int .i64 0, .bool false, .slice none 0 0, .slice none 0 0, .slice none 0 0, .slice none 0 0]) rfl (by kernel_rfl)) ?_
    refine wpS_store rfl rfl rfl CellsOf.agg hS ps0 st0_22 (by kernel_rfl) rfl (fun w hS hB => ?_)
    refine wpS_nil ?_
    refine QH_seq_k hK12 ?_
    refine wpC_ret ?_
    refine QH_then_ret ?_
    refine QH_ret rfl (RV.cell rfl (load_boxA ag_30 hS hs0 sg0_22) RV.nil) rfl ?_
    obtain rfl := Option.some.inj H
    have hS := hS.nilRow 3 1
    have hS := hS.nilRow 3 1
    have hS := hS.nilRow 3 1
    have hS := hS.nilRow 4 1
    have hS := hS.nilRow 56 3
    replace hS := hS.cut 5
    exact ⟨none, 0, none, 0, none, 0, none, 0, none, 0, rfl, ⟨Nat.le_refl _, Nat.zero_le _⟩, ⟨Nat.le_refl _, Nat.zero_le _⟩, ⟨Nat.le_refl _, Nat.zero_le _⟩, ⟨Nat.le_refl _, Nat.zero_le _⟩, ⟨Nat.le_refl _, Nat.zero_le _⟩, hS⟩
  replace H := cond_f H hb
  refine wpS_quick 1 rfl ?_
  refine wpS_put rfl rfl rfl (yv_lss rfl rfl) ?_
  refine wpS_quick 2 rfl ?_
  refine wpS_case 21 rfl (fun hb => ?_) (fun hb => ?_)
  · replace H := cond_t H hb
    refine wpS_quick 4 rfl ?_
    refine wpS_nil ?_
    refine QH_seq_k hK7 ?_
    refine wpC_cond_t rfl rfl ?_
    refine wpC_seq_k (fun K hK15 => ?_)
    refine wpC_region ?_
    refine wpS_put rfl rfl rfl (yv_build (cells := [.int .i64 0, .int .i64 0, .int .u8 0, .int .i64 0, .int .i64 0, .int .i64 0, .int .i64 0, .int .i64 0, .bool false, .slice none 0 0, .int .i64 0, .int .i64 0, .int .i64 0, .int .i64 0, .int .i64 0, .int .i64 0, .int .i64 0, .bool false, .slice none 0 0, .slice none 0 0, .slice none 0 0, .slice none 0 0]) rfl (by kernel_rfl)) ?_
    refine wpS_store rfl rfl rfl CellsOf.agg hS ps0 st0_22 (by kernel_rfl) rfl (fun w hS hB => ?_)
    refine wpS_nil ?_
    refine QH_seq_k hK15 ?_
    refine wpC_ret ?_
    refine QH_then_ret ?_
    refine QH_ret rfl (RV.cell rfl (load_boxA ag_30 hS hs0 sg0_22) RV.nil) rfl ?_
    obtain rfl := Option.some.inj H
    have hS := hS.nilRow 3 1
    have hS := hS.nilRow 3 1
    have hS := hS.nilRow 3 1
    have hS := hS.nilRow 4 1
    have hS := hS.nilRow 56 3
    replace hS := hS.cut 5
    exact ⟨none, 0, none, 0, none, 0, none, 0, none, 0, rfl, ⟨Nat.le_refl _, Nat.zero_le _⟩, ⟨Nat.le_refl _, Nat.zero_le _⟩, ⟨Nat.le_refl _, Nat.zero_le _⟩, ⟨Nat.le_refl _, Nat.zero_le _⟩, ⟨Nat.le_refl _, Nat.zero_le _⟩, hS⟩
  replace H := cond_f H hb
  refine wpS_quick 2 rfl ?_
  refine wpS_put rfl rfl rfl (yv_gtr rfl rfl) ?_
  refine wpS_quick 1 rfl ?_
  refine wpS_nil ?_
  refine QH_seq_k hK7 ?_
  refine wpC_cond rfl (fun hb => ?_) (fun hb => ?_)
  · replace H := cond_t H hb
    refine wpC_seq_k (fun K hK18 => ?_)
    refine wpC_region ?_
    refine wpS_put rfl rfl rfl (yv_build (cells := [.int .i64 0, .int .i64 0, .int .u8 0, .int .i64 0, .int .i64 0, .int .i64 0, .int .i64 0, .int .i64 0, .bool false, .slice none 0 0, .int .i64 0, .int .i64 0, .int .i64 0, .int .i64 0, .int .i64 0, .int .i64 0, .int .i64 0, .bool false, .slice none 0 0, .slice none 0 0, .slice none 0 0, .slice none 0 0]) rfl (by kernel_rfl)) ?_
    refine wpS_store rfl rfl rfl CellsOf.agg hS ps0 st0_22 (by kernel_rfl) rfl (fun w hS hB => ?_)
    refine wpS_nil ?_
    refine QH_seq_k hK18 ?_
    refine wpC_ret ?_
    refine QH_then_ret ?_
    refine QH_ret rfl (RV.cell rfl (load_boxA ag_30 hS hs0 sg0_22) RV.nil) rfl ?_
    obtain rfl := Option.some.inj H
    have hS := hS.nilRow 3 1
    have hS := hS.nilRow 3 1
    have hS := hS.nilRow 3 1
    have hS := hS.nilRow 4 1
    have hS := hS.nilRow 56 3
    replace hS := hS.cut 5
    exact ⟨none, 0, none, 0, none, 0, none, 0, none, 0, rfl, ⟨Nat.le_refl _, Nat.zero_le _⟩, ⟨Nat.le_refl _, Nat.zero_le _⟩, ⟨Nat.le_refl _, Nat.zero_le _⟩, ⟨Nat.le_refl _, Nat.zero_le _⟩, ⟨Nat.le_refl _, Nat.zero_le _⟩, hS⟩
  replace H := cond_f H hb
  refine wpC_skip ?_
  refine QH_seq_k hK6 ?_
  refine wpC_seq_k (fun K hK20 => ?_)
  refine wpC_draw 13 [12] (fun i b => (i = 12 → b = b4 ∨ b = b2)) ⟨by kernel_rfl, by kernel_rfl⟩ hS (fun w hS hB => ?_)
  refine wpRF_start [⟨11, 9, 30, [.int .i64 0, .int .i64 0, .int .u8 0, .int .i64 0, .int .i64 0, .int .i64 0, .int .i64 0, .int .i64 0, .bool false, .slice none 0 0, .int .i64 0, .int .i64 0, .int .i64 0, .int .i64 0, .int .i64 0, .int .i64 0, .int .i64 0, .bool false, .slice none 0 0, .slice none 0 0, .slice none 0 0, .slice none 0 0]⟩] (.cons rfl zc_30 rfl rfl rfl .nil) hS (fun hok => ?_)
  dsimp only [List.cons_append, List.nil_append]
  refine wpRF_batch [true, true, true, true, false, true, true, true, true, true] [] (fun _ => True) (by decide +kernel) (fun _ h => by cases h) (by repeat (first | exact PF.body | exact PF.round | apply PF.then | apply PF.inBlock | apply PF.jump)) (fun X Y tk ht w hS => ?_)
  refine LtK.put rfl rfl rfl (yv_move rfl) ?_
  refine LtK.put rfl rfl rfl (yv_move rfl) ?_
  refine LtK.put rfl rfl rfl (yv_move rfl) ?_
  refine LtK.put rfl rfl rfl (yv_load_boxA ag_26 rfl (RW.keepB _ _) hS hs1 trivial sg0_8) ?_
  refine LtK.put rfl rfl rfl (yv_fieldAddr fo_26_0 rfl) ?_
  refine LtK.put rfl rfl rfl (yv_fieldAddr fo_23_0 rfl) ?_
  refine LtK.put rfl rfl rfl (yv_load_box sc_3 rfl (RW.keepB _ _) hS hs1 trivial sg0_1) ?_
  refine LtK.put rfl rfl rfl (yv_fieldAddr fo_26_0 rfl) ?_
  refine LtK.put rfl rfl rfl (yv_load_boxA ag_23 rfl (RW.keepB _ _) hS hs1 trivial sg0_5) ?_
  refine LtK_F' ht hS (by repeat (first | exact App.nil | apply App.cons)) (by repeat (first | exact App.nil | apply App.cons)) ?_
  dsimp only [List.cons_append, List.nil_append]
  refine wpRF_call [false, false, false, false, true] 4 hok ⟨by decide, by decide +kernel, by decide, by decide⟩ rfl rfl (fun _ => rfl) (fun _ => rfl) rfl (hend_of (by decide +kernel)) (fun X Y tk ht w hS => ?_)
  try dsimp only [pickL]
  obtain ⟨r21, hm22, H⟩ := bind_some H
  refine wpS_call rfl rfl rfl rfl (by kernel_rfl) rfl (c_ref12_Own x3 A0_ c0_ _ (SlI.of_rd s0_.k (hS.rd0 s0_.rd) (hS.blk0 s0_.blk)) hm22) ?_
  rintro e w ⟨A23, c24, rfl, k25, hN⟩; refine ⟨_, rfl, ?_⟩; have hB := hN.pure; have hS := hS.join hN; clear hN
  refine wpS_nil ?_
  refine QH_stepF' ht hS hB (by repeat (first | exact App.nil | apply App.cons)) (by repeat (first | exact App.nil | apply App.cons)) ?_
  dsimp only [List.cons_append, List.nil_append]
  refine wpRF_batch [false, false, false, false, false, false, false, false, false, false, true] [] (fun _ => True) (by decide +kernel) (fun _ h => by cases h) (by repeat (first | exact PF.body | exact PF.round | apply PF.then | apply PF.inBlock | apply PF.jump)) (fun X Y tk ht w hS => ?_)
  refine LtK.put rfl rfl rfl (yv_build (cells := [.int .i64 x0, .int .i64 x1, .int .u8 0, .int .i64 x2, .int .i64 r21.snap.index, .int .i64 r21.snap.term, .int .i64 r21.snap.sum, .int .i64 r21.snap.level, .bool r21.snap.final, .slice A23 r21.log.length c24, .int .i64 r21.term, .int .i64 r21.vote, .int .i64 x3.snap.index, .int .i64 x3.snap.index, .int .i64 x3.snap.term, .int .i64 x3.snap.sum, .int .i64 x3.snap.level, .bool x3.snap.final, .slice none 0 0, .slice none 0 0, .slice none 0 0, .slice none 0 0]) rfl (by kernel_rfl)) ?_
  refine LtK_F' ht hS (by repeat (first | exact App.nil | apply App.cons)) (by repeat (first | exact App.nil | apply App.cons)) ?_
  dsimp only [List.cons_append, List.nil_append]
  refine wpRF_done hok (by decide) (by decide +kernel) (fun _ => rfl) (fun _ => rfl) rfl (fun tk htk w hS => ?_)
  obtain ⟨b27, tkb27, rfl, htk29⟩ := tk_cons htk
  obtain rfl := tk_nil htk29
  dsimp only [tkH, tkL, List.map] at hS ⊢
  refine wpR_seal [false, false, false, false, false, false, false, false, false, false, false, false, true] 12 ⟨by decide, by kernel_rfl, by kernel_rfl⟩ rfl rfl ?_
  try dsimp only [pickL]
  refine wpS_store rfl rfl rfl CellsOf.agg hS ps3 st0_22 (by kernel_rfl) rfl (fun w hS hB => ?_)
  refine wpS_nil ?_
  refine QH_stepG (hB.sub (fun b _ h => by have h0 : b = b4 ∨ b = b2 := (by simpa using h); rcases h0 with h0 | h0; (rw [h0]; exact hS.ne 1 3 rfl rfl rfl); (rw [h0]; exact hS.ne 2 3 rfl rfl rfl))) ?_
  refine wpR_end (by kernel_rfl) ?_
  refine QH_seq_k hK20 ?_
  refine wpC_seq_k (fun K hK30 => ?_)
  refine wpC_seq_k (fun K hK31 => ?_)
  refine wpC_region ?_
  refine wpS_quick 1 rfl ?_
  refine wpS_nil ?_
  refine QH_seq_k hK31 ?_
  refine wpC_block ?_
  replace hS := hS.nilRow 4 1
  replace hS := hS.nilRow 3 1
  replace hS := hS.nilRow 3 1
  replace hS := hS.nilRow 3 1
  refine wpC_loop (X := Nat × Int × List Bool × Option Addr × Nat × List Int × Option Addr × Nat × List Int × Option Addr × Nat × List Int × Option Addr × Nat) (fun x => (0, .int .i64 x0) :: (1, .int .i64 x1) :: (2, .int .i64 x2) :: (7, .pointer (some ⟨b2, 0, none⟩)) :: (8, .pointer (some ⟨b4, 0, none⟩)) :: (9, .pointer (some ⟨b27, 0, none⟩)) :: (10, .int .i64 x.2.1) :: []) (fun x w => St0 All w0 w (.row (.slice x.2.2.2.2.2.2.2.2.2.2.2.2.1 x.2.2.2.2.2.2.2.2.2.2.2.1.length x.2.2.2.2.2.2.2.2.2.2.2.2.2) 3 1 x.2.2.2.2.2.2.2.2.2.2.2.1.length (encs enI x.2.2.2.2.2.2.2.2.2.2.2.1) :: .row (.slice x.2.2.2.2.2.2.2.2.2.1 x.2.2.2.2.2.2.2.2.1.length x.2.2.2.2.2.2.2.2.2.2.1) 3 1 x.2.2.2.2.2.2.2.2.1.length (encs enI x.2.2.2.2.2.2.2.2.1) :: .row (.slice x.2.2.2.2.2.2.1 x.2.2.2.2.2.1.length x.2.2.2.2.2.2.2.1) 3 1 x.2.2.2.2.2.1.length (encs enI x.2.2.2.2.2.1) :: .row (.slice x.2.2.2.1 x.2.2.1.length x.2.2.2.2.1) 4 1 x.2.2.1.length (encs enO x.2.2.1) :: .row (.slice A23 r21.log.length c24) 56 3 r21.log.length (encs enE r21.log) :: .box b4 [.int .i64 0, .int .i64 0, .int .u8 0, .int .i64 0, .int .i64 0, .int .i64 0, .int .i64 0, .int .i64 0, .bool false, .slice none 0 0, .int .i64 0, .int .i64 0, .int .i64 0, .int .i64 0, .int .i64 0, .int .i64 0, .int .i64 0, .bool false, .slice none 0 0, .slice none 0 0, .slice none 0 0, .slice none 0 0] 30 :: .box b2 [.int .i64 x3.snap.index, .int .i64 x3.snap.term, .int .i64 x3.snap.sum, .int .i64 x3.snap.level, .bool x3.snap.final, .slice A0_ x3.log.length c0_, .int .i64 x3.term, .int .i64 x3.vote] 26 :: .box b27 [.int .i64 x0, .int .i64 x1, .int .u8 0, .int .i64 x2, .int .i64 r21.snap.index, .int .i64 r21.snap.term, .int .i64 r21.snap.sum, .int .i64 r21.snap.level, .bool r21.snap.final, .slice A23 r21.log.length c24, .int .i64 r21.term, .int .i64 r21.vote, .int .i64 x3.snap.index, .int .i64 x3.snap.index, .int .i64 x3.snap.term, .int .i64 x3.snap.sum, .int .i64 x3.snap.level, .bool x3.snap.final, .slice x.2.2.2.1 x.2.2.1.length x.2.2.2.2.1, .slice x.2.2.2.2.2.2.1 x.2.2.2.2.2.1.length x.2.2.2.2.2.2.2.1, .slice x.2.2.2.2.2.2.2.2.2.1 x.2.2.2.2.2.2.2.2.1.length x.2.2.2.2.2.2.2.2.2.2.1, .slice x.2.2.2.2.2.2.2.2.2.2.2.2.1 x.2.2.2.2.2.2.2.2.2.2.2.1.length x.2.2.2.2.2.2.2.2.2.2.2.2.2] 30 :: []) ∧ (x.2.2.1.length ≤ x.2.2.2.2.1 ∧ x.2.2.2.2.1 ≤ maxLen) ∧ (x.2.2.2.2.2.1.length ≤ x.2.2.2.2.2.2.2.1 ∧ x.2.2.2.2.2.2.2.1 ≤ maxLen) ∧ (x.2.2.2.2.2.2.2.2.1.length ≤ x.2.2.2.2.2.2.2.2.2.2.1 ∧ x.2.2.2.2.2.2.2.2.2.2.1 ≤ maxLen) ∧ (x.2.2.2.2.2.2.2.2.2.2.2.1.length ≤ x.2.2.2.2.2.2.2.2.2.2.2.2.2 ∧ x.2.2.2.2.2.2.2.2.2.2.2.2.2 ≤ maxLen) ∧ m_ref20_New_l1 x0 x1 x2 x3 r21 x.1 x.2.1 x.2.2.1 x.2.2.2.2.2.1 x.2.2.2.2.2.2.2.2.1 x.2.2.2.2.2.2.2.2.2.2.2.1 = some r) (fun x => x.1) (fuelN, 1, [], none, 0, [], none, 0, [], none, 0, [], none, 0) (by repeat (first | exact Sub.nil | refine Sub.cons rfl ?_)) ⟨hS, ⟨Nat.le_refl _, Nat.zero_le _⟩, ⟨Nat.le_refl _, Nat.zero_le _⟩, ⟨Nat.le_refl _, Nat.zero_le _⟩, ⟨Nat.le_refl _, Nat.zero_le _⟩, H⟩ ?_
  rintro ⟨n, v32, v33, A34, c35, v38, A39, c40, v43, A44, c45, v48, A49, c50⟩ w ⟨hS, k36, k41, k46, k51, H⟩
  dsimp only at hS k36 k41 k46 k51 H ⊢
  obtain _ | n := n
  · have H0 : none = some r := H
    cases H0
  rw [m_ref20_New_l1] at H
  refine wpC_seq_k (fun K hK53 => ?_)
  refine wpC_seq_k (fun K hK54 => ?_)
  refine wpC_region ?_
  refine wpS_quick 2 rfl ?_
  refine wpS_put rfl rfl rfl (yv_leq rfl rfl) ?_
  refine wpS_nil ?_
  refine QH_seq_k hK54 ?_
  refine wpC_cond rfl (fun hb => ?_) (fun hb => ?_)
  rotate_left
  · replace H := cond_f H hb
    refine wpC_exit ?_
    refine QH_then_exit ?_
    refine QH_then_exit ?_
    refine QH_block_hit ?_
    refine QH_seq_k hK30 ?_
    refine wpC_seq_k (fun K hK91 => ?_)
    refine wpC_region ?_
    refine wpS_put rfl rfl rfl (yv_fieldAddr fo_30_10 rfl) ?_
    refine wpS_put rfl rfl rfl (yv_load_box sc_28 rfl (RW.here _) hS hs7 trivial sg21_1) ?_
    refine wpS_quick 1 rfl ?_
    refine wpS_put rfl rfl rfl (yx_sub rfl rfl) ?_
    refine wpS_quick 1 rfl ?_
    obtain ⟨e92, hi94, H⟩ := bind_some H
    obtain ⟨j93, hi94a, hi94b, hi94c⟩ := idx_some hi94
    refine wpS_put rfl rfl rfl (yx_idx el_28 rfl rfl hi94a hi94c (Rd.el (hS.row_rd hs0) he_enI hi94b)) ?_
    refine wpX_storeR (a' := x2) (zs := (setI v48 (IntKind.wrap .i64 (x0 - 1)) x2)) he_enI rfl rfl rfl CellsOf.int hS ps0 (Rd.el (hS.row_rd hs0) he_enI hi94b) hi94a hi94b rfl st0_1 (by kernel_rfl) rfl (fun w hS => ?_)
    have hi95b := setI_at (a := x2) hi94a hi94b
    have hi95a := hi94a
    refine wpS_nil ?_
    refine QH_seq_k hK91 ?_
    refine wpC_seq_k (fun K hK96 => ?_)
    refine wpC_region ?_
    refine wpS_put rfl rfl rfl (yv_load_boxA ag_30 rfl (RW.here _) hS hs7 trivial sg0_22) ?_
    refine wpS_store rfl rfl rfl CellsOf.agg hS ps5 st0_22 (by kernel_rfl) rfl (fun w hS hB => ?_)
    refine wpS_nil ?_
    refine QH_seq_k hK96 ?_
    refine wpC_ret ?_
    refine QH_ret rfl (RV.cell rfl (load_boxA ag_30 hS hs5 sg0_22) RV.nil) rfl ?_
    obtain rfl := Option.some.inj H
    have hS := hS.front 0 rfl
    have hS := hS.front 1 rfl
    have hS := hS.front 2 rfl
    have hS := hS.front 3 rfl
    have hS := hS.front 4 rfl
    replace hS := hS.cut 5
    exact ⟨A23, c24, A34, c35, A39, c40, A44, c45, A49, c50, by (repeat rw [(setI_len rfl)]); rfl, k25, k36, k41, k46, (k_set k51), hS.eqv (by (repeat rw [(setI_len rfl)]); rfl)⟩
  replace H := cond_t H hb
  refine wpC_skip ?_
  refine QH_seq_k hK53 ?_
  refine wpC_seq_k (fun K hK56 => ?_)
  refine wpC_block ?_
  refine wpC_seq_k (fun K hK57 => ?_)
  refine wpC_region ?_
  refine wpS_put rfl rfl rfl (yv_fieldAddr fo_30_7 rfl) ?_
  refine wpS_put rfl rfl rfl (yv_load_box sc_27 rfl (RW.here _) hS hs7 trivial sg18_1) ?_
  refine wpS_sliceM (ps := [(0, .const (.bool false))]) [.bool false] el_27 zc_4 rfl rfl rfl rfl rfl (by kernel_rfl) hS (fun b58 w hS hB => ?_)
  obtain ⟨l60, hf61, H⟩ := bind_some H
  refine wpX_append (ys := ([false] : List Bool)) he_enO oc_enO em_27 (by decide) rfl rfl rfl rfl hS (fun _ => ps4) (hS.box_rd hs0) hf61 (fun A62 c63 w k64 hS => ?_)
  refine wpS_put rfl rfl rfl (yv_fieldAddr fo_30_7 rfl) ?_
  refine wpS_store rfl rfl rfl CellsOf.slice hS ps8 st18_1 (by kernel_rfl) rfl (fun w hS hB => ?_)
  refine wpS_nil ?_
  refine QH_seq_k hK57 ?_
  refine wpC_seq_k (fun K hK65 => ?_)
  refine wpC_draw 9 [6, 8] (fun i b => (i = 6 → False) ∧ (i = 8 → b ≠ b27)) ⟨by kernel_rfl, by kernel_rfl⟩ hS (fun w hS hB => ?_)
  refine wpR_batch [true, true, true] (by decide +kernel) (by repeat (first | exact PF.body | exact PF.round | apply PF.then | apply PF.inBlock | apply PF.jump)) ?_
  refine LtK.put rfl rfl rfl (yv_fieldAddr fo_30_8 rfl) ?_
  refine LtK.put rfl rfl rfl (yv_load_box sc_28 rfl (RW.below _) hS hs8 trivial sg19_1) ?_
  refine LtK.put rfl rfl rfl (yv_load_boxA ag_26 rfl (RW.below _) hS hs7 trivial sg0_8) ?_
  refine LtK.nil ?_
  refine wpR_call [false, false, false, true] 3 ⟨by decide, by kernel_rfl, by kernel_rfl⟩ rfl rfl ?_
  try dsimp only [pickL]
  obtain ⟨r66, hm67, H⟩ := bind_some H
  refine wpS_call rfl rfl rfl rfl (by kernel_rfl) rfl (c_ref12_Last x3 A0_ c0_ _ (SlI.of_rd s0_.k (hS.rd0 s0_.rd) (hS.blk0 s0_.blk)) hm67) ?_
  rintro e w ⟨rfl, hN⟩; refine ⟨_, rfl, ?_⟩; have hB := hN.pure; have hS := hS.join hN; clear hN
  refine wpS_nil ?_
  refine QH_step hB ?_
  refine wpR_batch [false, false, false, false, true] (by decide +kernel) (by repeat (first | exact PF.body | exact PF.round | apply PF.then | apply PF.inBlock | apply PF.jump)) ?_
  refine LtK.put rfl rfl rfl (yx_add rfl rfl) ?_
  refine LtK.nil ?_
  refine wpR_call [false, false, false, false, false, true] 5 ⟨by decide, by kernel_rfl, by kernel_rfl⟩ rfl rfl ?_
  try dsimp only [pickL]
  refine wpS_sliceM (ps := [(0, .tmp 52)]) [.int .i64 (IntKind.wrap .i64 (r66 + 1))] el_28 zc_3 rfl rfl rfl rfl rfl (by kernel_rfl) hS (fun b68 w hS hB => ?_)
  refine wpS_nil ?_
  refine QH_step hB ?_
  refine wpR_seal [false, false, false, false, false, false, true] 6 ⟨by decide, by kernel_rfl, by kernel_rfl⟩ rfl rfl ?_
  try dsimp only [pickL]
  obtain ⟨l70, hf71, H⟩ := bind_some H
  refine wpX_append2 (ys := ([(IntKind.wrap .i64 (r66 + 1))] : List Int)) he_enI oc_enI em_28 (by decide) rfl rfl rfl rfl hS (fun _ => ps4) (hS.box_rd hs0) hf71 (fun A72 c73 w k74 hS hB => ?_)
  refine wpS_nil ?_
  refine QH_stepG (hB.sub (fun _ _ h => by simp at h)) ?_
  refine wpR_batch [false, false, false, false, false, false, false, true] (by decide +kernel) (by repeat (first | exact PF.body | exact PF.round | apply PF.then | apply PF.inBlock | apply PF.jump)) ?_
  refine LtK.put rfl rfl rfl (yv_fieldAddr fo_30_8 rfl) ?_
  refine LtK.nil ?_
  refine wpR_seal [false, false, false, false, false, false, false, false, true] 8 ⟨by decide, by kernel_rfl, by kernel_rfl⟩ rfl rfl ?_
  try dsimp only [pickL]
  refine wpS_store rfl rfl rfl CellsOf.slice hS ps9 st19_1 (by kernel_rfl) rfl (fun w hS hB => ?_)
  refine wpS_nil ?_
  refine QH_stepG (hB.sub (fun _ _ h => by simpa using h)) ?_
  refine wpR_end (by kernel_rfl) ?_
  refine QH_seq_k hK65 ?_
  refine wpC_seq_k (fun K hK75 => ?_)
  refine wpC_region ?_
  refine wpS_put rfl rfl rfl (yv_fieldAddr fo_30_9 rfl) ?_
  refine wpS_put rfl rfl rfl (yv_load_box sc_28 rfl (RW.here _) hS hs9 trivial sg20_1) ?_
  refine wpS_sliceM (ps := [(0, .const (.int .i64 0))]) [.int .i64 0] el_28 zc_3 rfl rfl rfl rfl rfl (by kernel_rfl) hS (fun b76 w hS hB => ?_)
  obtain ⟨l78, hf79, H⟩ := bind_some H
  refine wpX_append (ys := ([0] : List Int)) he_enI oc_enI em_28 (by decide) rfl rfl rfl rfl hS (fun _ => ps4) (hS.box_rd hs0) hf79 (fun A80 c81 w k82 hS => ?_)
  refine wpS_put rfl rfl rfl (yv_fieldAddr fo_30_9 rfl) ?_
  refine wpS_store rfl rfl rfl CellsOf.slice hS ps10 st20_1 (by kernel_rfl) rfl (fun w hS hB => ?_)
  refine wpS_nil ?_
  refine QH_seq_k hK75 ?_
  refine wpC_region ?_
  refine wpS_put rfl rfl rfl (yv_fieldAddr fo_30_10 rfl) ?_
  refine wpS_put rfl rfl rfl (yv_load_box sc_28 rfl (RW.here _) hS hs10 trivial sg21_1) ?_
  refine wpS_sliceM (ps := [(0, .const (.int .i64 0))]) [.int .i64 0] el_28 zc_3 rfl rfl rfl rfl rfl (by kernel_rfl) hS (fun b83 w hS hB => ?_)
  obtain ⟨l85, hf86, H⟩ := bind_some H
  refine wpX_append (ys := ([0] : List Int)) he_enI oc_enI em_28 (by decide) rfl rfl rfl rfl hS (fun _ => ps4) (hS.box_rd hs0) hf86 (fun A87 c88 w k89 hS => ?_)
  refine wpS_put rfl rfl rfl (yv_fieldAddr fo_30_10 rfl) ?_
  refine wpS_store rfl rfl rfl CellsOf.slice hS ps11 st21_1 (by kernel_rfl) rfl (fun w hS hB => ?_)
  refine wpS_nil ?_
  refine QH_block_normal ?_
  refine QH_seq_k hK56 ?_
  refine wpC_region ?_
  refine wpS_quick 1 rfl ?_
  refine wpS_put rfl rfl rfl (yx_add rfl rfl) ?_
  refine wpS_quick 1 rfl ?_
  refine wpS_nil ?_
  exact QH_again (n, (IntKind.wrap .i64 (v32 + 1)), l60, A62, c63, l70, A72, c73, l78, A80, c81, l85, A87, c88) (by repeat (first | exact Sub.nil | refine Sub.cons rfl ?_)) ⟨(hS.sub (List.Sublist.cons _ (List.Sublist.cons _ (List.Sublist.cons _ (List.Sublist.cons _ (List.Sublist.cons_cons _ (List.Sublist.cons_cons _ (List.Sublist.cons_cons _ (List.Sublist.cons_cons _ (List.Sublist.cons_cons _ (List.Sublist.cons_cons _ (List.Sublist.cons_cons _ (List.Sublist.cons_cons _ List.Sublist.slnil))))))))))))), k64, k74, k82, k89, H⟩ (Nat.lt_succ_self _)
theorem c_slices_Clone___api_Entry_api_Entry_ (x0 : List En) (A0_ : Option Addr) (c0_ : Nat) (w0 : World) (s0_ : SlW w0 enE A0_ c0_ x0) {r : List En} (H : m_slices_Clone___api_Entry_api_Entry_ x0 = some r) : Calls Try.prog 83 #[.slice A0_ x0.length c0_] w0 fun e w' => ∃ (A0 : Option Addr) (c0 : Nat), e = .returned (.slice A0 r.length c0) ∧ (r.length ≤ c0 ∧ c0 ≤ maxLen) ∧ St0 All w0 w' [.row (.slice A0 r.length c0) 56 3 r.length (encs enE r)] := by
  unfold m_slices_Clone___api_Entry_api_Entry_ at H
  obtain ⟨rfl, hfew⟩ := fewI_some H
  cases A0_ with
  | none =>
    obtain rfl : r = [] := by
      cases r with
      | nil => rfl
      | cons e l => obtain ⟨b, o, h, _⟩ := s0_.rd 0 _ rfl; cases h
    refine gw_enter1 Try.func83 rfl Try.ntmps83 rfl ?_
    have hS := St0.start All w0
    refine wpC_seq_k (fun K hK1 => ?_)
    refine wpC_region ?_
    refine wpS_quick 1 rfl ?_
    refine wpS_nil ?_
    refine QH_seq_k hK1 ?_
    refine wpC_seq_k (fun K hK2 => ?_)
    refine wpC_seq_k (fun K hK3 => ?_)
    refine wpC_region ?_
    refine wpS_quick 1 rfl ?_
    refine wpS_put rfl rfl rfl (yv_eqlNil (e := 56) (by kernel_rfl) rfl rfl) ?_
    refine wpS_nil ?_
    refine QH_seq_k hK3 ?_
    refine wpC_cond_t rfl rfl ?_
    refine wpC_seq_k (fun K hK4 => ?_)
    refine wpC_region ?_
    refine wpS_quick 1 rfl ?_
    refine wpS_nil ?_
    refine QH_seq_k hK4 ?_
    refine wpC_ret ?_
    refine QH_then_ret ?_
    refine QH_ret rfl (RV.tmp rfl RV.nil) rfl ?_
    have hS := hS.nilRow 56 3
    replace hS := hS.cut 1
    exact ⟨none, 0, rfl, ⟨Nat.le_refl _, Nat.zero_le _⟩, hS⟩
  | some a0 =>
    refine gw_enter1 Try.func83 rfl Try.ntmps83 rfl ?_
    have hS := St0.start All w0
    have H : (fewI ([] ++ r)).bind (fun z => some z) = some r := by rw [List.nil_append, H]; rfl
    refine wpC_seq_k (fun K hK5 => ?_)
    refine wpC_region ?_
    refine wpS_quick 1 rfl ?_
    refine wpS_nil ?_
    refine QH_seq_k hK5 ?_
    refine wpC_seq_k (fun K hK6 => ?_)
    refine wpC_seq_k (fun K hK7 => ?_)
    refine wpC_region ?_
    refine wpS_quick 1 rfl ?_
    refine wpS_put rfl rfl rfl (yv_eqlNil (e := 56) (by kernel_rfl) rfl rfl) ?_
    refine wpS_nil ?_
    refine QH_seq_k hK7 ?_
    refine wpC_cond_f rfl rfl ?_
    refine wpC_skip ?_
    refine QH_seq_k hK6 ?_
    refine wpC_seq_k (fun K hK8 => ?_)
    refine wpC_region ?_
    refine wpS_slice0 el_24 rfl rfl hS (fun b9 w hS hB => ?_)
    refine wpS_quick 1 rfl ?_
    obtain ⟨l11, hf12, H⟩ := bind_some H
    refine wpX_append (ys := r) he_enE oc_enE em_24 (by decide) rfl rfl rfl rfl hS (fun _ => ps0) (hS.rd0 s0_.rd) hf12 (fun A13 c14 w k15 hS => ?_)
    refine wpS_quick 1 rfl ?_
    refine wpS_nil ?_
    refine QH_seq_k hK8 ?_
    refine wpC_ret ?_
    refine QH_ret rfl (RV.tmp rfl RV.nil) rfl ?_
    obtain rfl := Option.some.inj H
    have hS := hS.front 0 rfl
    replace hS := hS.cut 1
    exact ⟨A13, c14, rfl, k15, hS⟩
theorem c_tuple_Own (x0 : Tu) (A0_ : Option Addr) (c0_ : Nat) (w0 : World) (s0_ : SlI w0 enE A0_ c0_ x0.log) {r : Tu} (H : m_tuple_Own x0 = some r) : Calls Try.prog 70 #[.agg #[.int .i64 x0.snap.index, .int .i64 x0.snap.term, .int .i64 x0.snap.sum, .int .i64 x0.snap.level, .bool x0.snap.final, .slice A0_ x0.log.length c0_, .int .i64 x0.term, .int .i64 x0.vote]] w0 fun e w' => ∃ (A0 : Option Addr) (c0 : Nat), e = .returned (.agg #[.int .i64 r.snap.index, .int .i64 r.snap.term, .int .i64 r.snap.sum, .int .i64 r.snap.level, .bool r.snap.final, .slice A0 r.log.length c0, .int .i64 r.term, .int .i64 r.vote]) ∧ (r.log.length ≤ c0 ∧ c0 ≤ maxLen) ∧ St0 All w0 w' [.row (.slice A0 r.log.length c0) 56 3 r.log.length (encs enE r.log)] := by
  unfold m_tuple_Own at H
  refine gw_enter1 Try.func70 rfl Try.ntmps70 rfl ?_
  have hS := St0.start All w0
  refine wpC_seq_k (fun K hK1 => ?_)
  refine wpC_region ?_
  refine wpS_box rfl rfl rfl CellsOf.agg hS (fun b2 w hS hB => ?_)
  refine wpS_alloc rfl rfl zc_26 hS (fun b4 w hS hB => ?_)
  refine wpS_nil ?_
  refine QH_seq_k hK1 ?_
  refine wpC_seq_k (fun K hK6 => ?_)
  refine wpC_region ?_
  refine wpS_put rfl rfl rfl (yv_fieldAddr fo_26_1 rfl) ?_
  refine wpS_put rfl rfl rfl (yv_load_box sc_24 rfl (RW.here _) hS hs1 trivial sg5_1) ?_
  obtain ⟨r7, hm8, H⟩ := bind_some H
  refine wpS_call rfl rfl rfl rfl (by kernel_rfl) rfl (c_slices_Clone___api_Entry_api_Entry_ x0.log A0_ c0_ _ (SlW.of_rd s0_.k (hS.rd0 s0_.rd)) hm8) ?_
  rintro e w ⟨A9, c10, rfl, k11, hN⟩; refine ⟨_, rfl, ?_⟩; have hB := hN.pure; have hS := hS.join hN; clear hN
  refine wpS_put rfl rfl rfl (yv_fieldAddr fo_26_1 rfl) ?_
  refine wpS_store rfl rfl rfl CellsOf.slice hS ps2 st5_1 (by kernel_rfl) rfl (fun w hS hB => ?_)
  refine wpS_nil ?_
  refine QH_seq_k hK6 ?_
  refine wpC_seq_k (fun K hK13 => ?_)
  refine wpC_region ?_
  refine wpS_put rfl rfl rfl (yv_load_boxA ag_26 rfl (RW.here _) hS hs2 trivial sg0_8) ?_
  refine wpS_store rfl rfl rfl CellsOf.agg hS ps1 st0_8 (by kernel_rfl) rfl (fun w hS hB => ?_)
  refine wpS_nil ?_
  refine QH_seq_k hK13 ?_
  refine wpC_ret ?_
  refine QH_ret rfl (RV.cell rfl (load_boxA ag_26 hS hs1 sg0_8) RV.nil) rfl ?_
  obtain rfl := Option.some.inj H
  have hS := hS.front 0 rfl
  replace hS := hS.cut 1
  exact ⟨A9, c10, rfl, k11, hS⟩
theorem c_slices_Clone___bool_bool_ (x0 : List Bool) (A0_ : Option Addr) (c0_ : Nat) (w0 : World) (s0_ : SlW w0 enO A0_ c0_ x0) {r : List Bool} (H : m_slices_Clone___bool_bool_ x0 = some r) : Calls Try.prog 71 #[.slice A0_ x0.length c0_] w0 fun e w' => ∃ (A0 : Option Addr) (c0 : Nat), e = .returned (.slice A0 r.length c0) ∧ (r.length ≤ c0 ∧ c0 ≤ maxLen) ∧ St0 All w0 w' [.row (.slice A0 r.length c0) 4 1 r.length (encs enO r)] := by
  unfold m_slices_Clone___bool_bool_ at H
  obtain ⟨rfl, hfew⟩ := fewI_some H
  cases A0_ with
  | none =>
    obtain rfl : r = [] := by
      cases r with
      | nil => rfl
      | cons e l => obtain ⟨b, o, h, _⟩ := s0_.rd 0 _ rfl; cases h
    refine gw_enter1 Try.func71 rfl Try.ntmps71 rfl ?_
    have hS := St0.start All w0
    refine wpC_seq_k (fun K hK1 => ?_)
    refine wpC_region ?_
    refine wpS_quick 1 rfl ?_
    refine wpS_nil ?_
    refine QH_seq_k hK1 ?_
    refine wpC_seq_k (fun K hK2 => ?_)
    refine wpC_seq_k (fun K hK3 => ?_)
    refine wpC_region ?_
    refine wpS_quick 1 rfl ?_
    refine wpS_put rfl rfl rfl (yv_eqlNil (e := 4) (by kernel_rfl) rfl rfl) ?_
    refine wpS_nil ?_
    refine QH_seq_k hK3 ?_
    refine wpC_cond_t rfl rfl ?_
    refine wpC_seq_k (fun K hK4 => ?_)
    refine wpC_region ?_
    refine wpS_quick 1 rfl ?_
    refine wpS_nil ?_
    refine QH_seq_k hK4 ?_
    refine wpC_ret ?_
    refine QH_then_ret ?_
    refine QH_ret rfl (RV.tmp rfl RV.nil) rfl ?_
    have hS := hS.nilRow 4 1
    replace hS := hS.cut 1
    exact ⟨none, 0, rfl, ⟨Nat.le_refl _, Nat.zero_le _⟩, hS⟩
  | some a0 =>
    refine gw_enter1 Try.func71 rfl Try.ntmps71 rfl ?_
    have hS := St0.start All w0
    have H : (fewI ([] ++ r)).bind (fun z => some z) = some r := by rw [List.nil_append, H]; rfl
    refine wpC_seq_k (fun K hK5 => ?_)
    refine wpC_region ?_
    refine wpS_quick 1 rfl ?_
    refine wpS_nil ?_
    refine QH_seq_k hK5 ?_
    refine wpC_seq_k (fun K hK6 => ?_)
    refine wpC_seq_k (fun K hK7 => ?_)
    refine wpC_region ?_
    refine wpS_quick 1 rfl ?_
    refine wpS_put rfl rfl rfl (yv_eqlNil (e := 4) (by kernel_rfl) rfl rfl) ?_
    refine wpS_nil ?_
    refine QH_seq_k hK7 ?_
    refine wpC_cond_f rfl rfl ?_
    refine wpC_skip ?_
    refine QH_seq_k hK6 ?_
    refine wpC_seq_k (fun K hK8 => ?_)
    refine wpC_region ?_
    refine wpS_slice0 el_27 rfl rfl hS (fun b9 w hS hB => ?_)
    refine wpS_quick 1 rfl ?_
    obtain ⟨l11, hf12, H⟩ := bind_some H
    refine wpX_append (ys := r) he_enO oc_enO em_27 (by decide) rfl rfl rfl rfl hS (fun _ => ps0) (hS.rd0 s0_.rd) hf12 (fun A13 c14 w k15 hS => ?_)
    refine wpS_quick 1 rfl ?_
    refine wpS_nil ?_
    refine QH_seq_k hK8 ?_
    refine wpC_ret ?_
    refine QH_ret rfl (RV.tmp rfl RV.nil) rfl ?_
    obtain rfl := Option.some.inj H
    have hS := hS.front 0 rfl
    replace hS := hS.cut 1
    exact ⟨A13, c14, rfl, k15, hS⟩
theorem c_slices_Clone___int_int_ (x0 : List Int) (A0_ : Option Addr) (c0_ : Nat) (w0 : World) (s0_ : SlW w0 enI A0_ c0_ x0) {r : List Int} (H : m_slices_Clone___int_int_ x0 = some r) : Calls Try.prog 72 #[.slice A0_ x0.length c0_] w0 fun e w' => ∃ (A0 : Option Addr) (c0 : Nat), e = .returned (.slice A0 r.length c0) ∧ (r.length ≤ c0 ∧ c0 ≤ maxLen) ∧ St0 All w0 w' [.row (.slice A0 r.length c0) 3 1 r.length (encs enI r)] := by
  unfold m_slices_Clone___int_int_ at H
  obtain ⟨rfl, hfew⟩ := fewI_some H
  cases A0_ with
  | none =>
    obtain rfl : r = [] := by
      cases r with
      | nil => rfl
      | cons e l => obtain ⟨b, o, h, _⟩ := s0_.rd 0 _ rfl; cases h
    refine gw_enter1 Try.func72 rfl Try.ntmps72 rfl ?_
    have hS := St0.start All w0
    refine wpC_seq_k (fun K hK1 => ?_)
    refine wpC_region ?_
    refine wpS_quick 1 rfl ?_
    refine wpS_nil ?_
    refine QH_seq_k hK1 ?_
    refine wpC_seq_k (fun K hK2 => ?_)
    refine wpC_seq_k (fun K hK3 => ?_)
    refine wpC_region ?_
    refine wpS_quick 1 rfl ?_
    refine wpS_put rfl rfl rfl (yv_eqlNil (e := 3) (by kernel_rfl) rfl rfl) ?_
    refine wpS_nil ?_
    refine QH_seq_k hK3 ?_
    refine wpC_cond_t rfl rfl ?_
    refine wpC_seq_k (fun K hK4 => ?_)
    refine wpC_region ?_
    refine wpS_quick 1 rfl ?_
    refine wpS_nil ?_
    refine QH_seq_k hK4 ?_
    refine wpC_ret ?_
    refine QH_then_ret ?_
    refine QH_ret rfl (RV.tmp rfl RV.nil) rfl ?_
    have hS := hS.nilRow 3 1
    replace hS := hS.cut 1
    exact ⟨none, 0, rfl, ⟨Nat.le_refl _, Nat.zero_le _⟩, hS⟩
  | some a0 =>
    refine gw_enter1 Try.func72 rfl Try.ntmps72 rfl ?_
    have hS := St0.start All w0
    have H : (fewI ([] ++ r)).bind (fun z => some z) = some r := by rw [List.nil_append, H]; rfl
    refine wpC_seq_k (fun K hK5 => ?_)
    refine wpC_region ?_
    refine wpS_quick 1 rfl ?_
    refine wpS_nil ?_
    refine QH_seq_k hK5 ?_
    refine wpC_seq_k (fun K hK6 => ?_)
    refine wpC_seq_k (fun K hK7 => ?_)
    refine wpC_region ?_
    refine wpS_quick 1 rfl ?_
    refine wpS_put rfl rfl rfl (yv_eqlNil (e := 3) (by kernel_rfl) rfl rfl) ?_
    refine wpS_nil ?_
    refine QH_seq_k hK7 ?_
    refine wpC_cond_f rfl rfl ?_
    refine wpC_skip ?_
    refine QH_seq_k hK6 ?_
    refine wpC_seq_k (fun K hK8 => ?_)
    refine wpC_region ?_
    refine wpS_slice0 el_28 rfl rfl hS (fun b9 w hS hB => ?_)
    refine wpS_quick 1 rfl ?_
    obtain ⟨l11, hf12, H⟩ := bind_some H
    refine wpX_append (ys := r) he_enI oc_enI em_28 (by decide) rfl rfl rfl rfl hS (fun _ => ps0) (hS.rd0 s0_.rd) hf12 (fun A13 c14 w k15 hS => ?_)
    refine wpS_quick 1 rfl ?_
    refine wpS_nil ?_
    refine QH_seq_k hK8 ?_
    refine wpC_ret ?_
    refine QH_ret rfl (RV.tmp rfl RV.nil) rfl ?_
    obtain rfl := Option.some.inj H
    have hS := hS.front 0 rfl
    replace hS := hS.cut 1
    exact ⟨A13, c14, rfl, k15, hS⟩
theorem c_msg_Own (x0 : Co) (A0_ : Option Addr) (c0_ : Nat) (A1_ : Option Addr) (c1_ : Nat) (A2_ : Option Addr) (c2_ : Nat) (A3_ : Option Addr) (c3_ : Nat) (A4_ : Option Addr) (c4_ : Nat) (w0 : World) (s0_ : SlI w0 enE A0_ c0_ x0.tuple.log) (s1_ : SlI w0 enO A1_ c1_ x0.votes) (s2_ : SlI w0 enI A2_ c2_ x0.next) (s3_ : SlI w0 enI A3_ c3_ x0.mtch) (s4_ : SlI w0 enI A4_ c4_ x0.caps) {r : Co} (H : m_msg_Own x0 = some r) : Calls Try.prog 43 #[.agg #[.int .i64 x0.id, .int .i64 x0.n, .int .u8 x0.role, .int .i64 x0.binary, .int .i64 x0.tuple.snap.index, .int .i64 x0.tuple.snap.term, .int .i64 x0.tuple.snap.sum, .int .i64 x0.tuple.snap.level, .bool x0.tuple.snap.final, .slice A0_ x0.tuple.log.length c0_, .int .i64 x0.tuple.term, .int .i64 x0.tuple.vote, .int .i64 x0.commit, .int .i64 x0.applied.index, .int .i64 x0.applied.term, .int .i64 x0.applied.sum, .int .i64 x0.applied.level, .bool x0.applied.final, .slice A1_ x0.votes.length c1_, .slice A2_ x0.next.length c2_, .slice A3_ x0.mtch.length c3_, .slice A4_ x0.caps.length c4_]] w0 fun e w' => ∃ (A0 : Option Addr) (c0 : Nat) (A1 : Option Addr) (c1 : Nat) (A2 : Option Addr) (c2 : Nat) (A3 : Option Addr) (c3 : Nat) (A4 : Option Addr) (c4 : Nat), e = .returned (.agg #[.int .i64 r.id, .int .i64 r.n, .int .u8 r.role, .int .i64 r.binary, .int .i64 r.tuple.snap.index, .int .i64 r.tuple.snap.term, .int .i64 r.tuple.snap.sum, .int .i64 r.tuple.snap.level, .bool r.tuple.snap.final, .slice A0 r.tuple.log.length c0, .int .i64 r.tuple.term, .int .i64 r.tuple.vote, .int .i64 r.commit, .int .i64 r.applied.index, .int .i64 r.applied.term, .int .i64 r.applied.sum, .int .i64 r.applied.level, .bool r.applied.final, .slice A1 r.votes.length c1, .slice A2 r.next.length c2, .slice A3 r.mtch.length c3, .slice A4 r.caps.length c4]) ∧ (r.tuple.log.length ≤ c0 ∧ c0 ≤ maxLen) ∧ (r.votes.length ≤ c1 ∧ c1 ≤ maxLen) ∧ (r.next.length ≤ c2 ∧ c2 ≤ maxLen) ∧ (r.mtch.length ≤ c3 ∧ c3 ≤ maxLen) ∧ (r.caps.length ≤ c4 ∧ c4 ≤ maxLen) ∧ St0 All w0 w' [.row (.slice A0 r.tuple.log.length c0) 56 3 r.tuple.log.length (encs enE r.tuple.log), .row (.slice A1 r.votes.length c1) 4 1 r.votes.length (encs enO r.votes), .row (.slice A2 r.next.length c2) 3 1 r.next.length (encs enI r.next), .row (.slice A3 r.mtch.length c3) 3 1 r.mtch.length (encs enI r.mtch), .row (.slice A4 r.caps.length c4) 3 1 r.caps.length (encs enI r.caps)] := by
  unfold m_msg_Own at H
  refine gw_enter1 Try.func43 rfl Try.ntmps43 rfl ?_
  have hS := St0.start All w0
  refine wpC_seq_k (fun K hK1 => ?_)
  refine wpC_region ?_
  refine wpS_box rfl rfl rfl CellsOf.agg hS (fun b2 w hS hB => ?_)
  refine wpS_alloc rfl rfl zc_30 hS (fun b4 w hS hB => ?_)
  refine wpS_nil ?_
  refine QH_seq_k hK1 ?_
  refine wpC_seq_k (fun K hK6 => ?_)
  refine wpC_region ?_
  refine wpS_put rfl rfl rfl (yv_fieldAddr fo_30_4 rfl) ?_
  refine wpS_put rfl rfl rfl (yv_load_boxA ag_26 rfl (RW.here _) hS hs1 trivial sg4_8) ?_
  obtain ⟨r7, hm8, H⟩ := bind_some H
  refine wpS_call rfl rfl rfl rfl (by kernel_rfl) rfl (c_tuple_Own x0.tuple A0_ c0_ _ (SlI.of_rd s0_.k (hS.rd0 s0_.rd) (hS.blk0 s0_.blk)) hm8) ?_
  rintro e w ⟨A9, c10, rfl, k11, hN⟩; refine ⟨_, rfl, ?_⟩; have hB := hN.pure; have hS := hS.join hN; clear hN
  refine wpS_put rfl rfl rfl (yv_fieldAddr fo_30_4 rfl) ?_
  refine wpS_store rfl rfl rfl CellsOf.agg hS ps2 st4_8 (by kernel_rfl) rfl (fun w hS hB => ?_)
  refine wpS_nil ?_
  refine QH_seq_k hK6 ?_
  refine wpC_seq_k (fun K hK13 => ?_)
  refine wpC_draw 20 [13, 15, 17, 19] (fun i b => (i = 13 → b ≠ b2) ∧ (i = 15 → b ≠ b2) ∧ (i = 17 → b ≠ b2) ∧ (i = 19 → b ≠ b2)) ⟨by kernel_rfl, by kernel_rfl⟩ hS (fun w hS hB => ?_)
  refine wpR_batch [true, true, false, true, true, false, true, true, false, true, true] (by decide +kernel) (by repeat (first | exact PF.body | exact PF.round | apply PF.then | apply PF.inBlock | apply PF.jump)) ?_
  refine LtK.put rfl rfl rfl (yv_fieldAddr fo_30_7 rfl) ?_
  refine LtK.put rfl rfl rfl (yv_load_box sc_27 rfl (RW.below _) hS hs2 trivial sg18_1) ?_
  refine LtK.put rfl rfl rfl (yv_fieldAddr fo_30_8 rfl) ?_
  refine LtK.put rfl rfl rfl (yv_load_box sc_28 rfl (RW.below _) hS hs2 trivial sg19_1) ?_
  refine LtK.put rfl rfl rfl (yv_fieldAddr fo_30_9 rfl) ?_
  refine LtK.put rfl rfl rfl (yv_load_box sc_28 rfl (RW.below _) hS hs2 trivial sg20_1) ?_
  refine LtK.put rfl rfl rfl (yv_fieldAddr fo_30_10 rfl) ?_
  refine LtK.put rfl rfl rfl (yv_load_box sc_28 rfl (RW.below _) hS hs2 trivial sg21_1) ?_
  refine LtK.nil ?_
  refine wpR_call [false, false, true] 2 ⟨by decide, by kernel_rfl, by kernel_rfl⟩ rfl rfl ?_
  try dsimp only [pickL]
  obtain ⟨r14, hm15, H⟩ := bind_some H
  refine wpS_call rfl rfl rfl rfl (by kernel_rfl) rfl (c_slices_Clone___bool_bool_ x0.votes A1_ c1_ _ (SlW.of_rd s1_.k (hS.rd0 s1_.rd)) hm15) ?_
  rintro e w ⟨A16, c17, rfl, k18, hN⟩; refine ⟨_, rfl, ?_⟩; have hB := hN.pure; have hS := hS.join hN; clear hN
  refine wpS_nil ?_
  refine QH_step hB ?_
  refine wpR_batch [false, false, false, false, false, false, false, false, false, false, false, false, true] (by decide +kernel) (by repeat (first | exact PF.body | exact PF.round | apply PF.then | apply PF.inBlock | apply PF.jump)) ?_
  refine LtK.put rfl rfl rfl (yv_fieldAddr fo_30_7 rfl) ?_
  refine LtK.nil ?_
  refine wpR_call [false, false, false, false, false, true] 5 ⟨by decide, by kernel_rfl, by kernel_rfl⟩ rfl rfl ?_
  try dsimp only [pickL]
  obtain ⟨r20, hm21, H⟩ := bind_some H
  refine wpS_call rfl rfl rfl rfl (by kernel_rfl) rfl (c_slices_Clone___int_int_ x0.next A2_ c2_ _ (SlW.of_rd s2_.k (hS.rd0 s2_.rd)) hm21) ?_
  rintro e w ⟨A22, c23, rfl, k24, hN⟩; refine ⟨_, rfl, ?_⟩; have hB := hN.pure; have hS := hS.join hN; clear hN
  refine wpS_nil ?_
  refine QH_step hB ?_
  refine wpR_call [false, false, false, false, false, false, false, false, true] 8 ⟨by decide, by kernel_rfl, by kernel_rfl⟩ rfl rfl ?_
  try dsimp only [pickL]
  obtain ⟨r26, hm27, H⟩ := bind_some H
  refine wpS_call rfl rfl rfl rfl (by kernel_rfl) rfl (c_slices_Clone___int_int_ x0.mtch A3_ c3_ _ (SlW.of_rd s3_.k (hS.rd0 s3_.rd)) hm27) ?_
  rintro e w ⟨A28, c29, rfl, k30, hN⟩; refine ⟨_, rfl, ?_⟩; have hB := hN.pure; have hS := hS.join hN; clear hN
  refine wpS_nil ?_
  refine QH_step hB ?_
  refine wpR_call [false, false, false, false, false, false, false, false, false, false, false, true] 11 ⟨by decide, by kernel_rfl, by kernel_rfl⟩ rfl rfl ?_
  try dsimp only [pickL]
  obtain ⟨r32, hm33, H⟩ := bind_some H
  refine wpS_call rfl rfl rfl rfl (by kernel_rfl) rfl (c_slices_Clone___int_int_ x0.caps A4_ c4_ _ (SlW.of_rd s4_.k (hS.rd0 s4_.rd)) hm33) ?_
  rintro e w ⟨A34, c35, rfl, k36, hN⟩; refine ⟨_, rfl, ?_⟩; have hB := hN.pure; have hS := hS.join hN; clear hN
  refine wpS_nil ?_
  refine QH_step hB ?_
  refine wpR_seal [false, false, false, false, false, false, false, false, false, false, false, false, false, true] 13 ⟨by decide, by kernel_rfl, by kernel_rfl⟩ rfl rfl ?_
  try dsimp only [pickL]
  refine wpS_store rfl rfl rfl CellsOf.slice hS ps6 st18_1 (by kernel_rfl) rfl (fun w hS hB => ?_)
  refine wpS_nil ?_
  refine QH_stepG (hB.sub (fun _ _ h => by simpa using h)) ?_
  refine wpR_batch [false, false, false, false, false, false, false, false, false, false, false, false, false, false, true] (by decide +kernel) (by repeat (first | exact PF.body | exact PF.round | apply PF.then | apply PF.inBlock | apply PF.jump)) ?_
  refine LtK.put rfl rfl rfl (yv_fieldAddr fo_30_8 rfl) ?_
  refine LtK.nil ?_
  refine wpR_seal [false, false, false, false, false, false, false, false, false, false, false, false, false, false, false, true] 15 ⟨by decide, by kernel_rfl, by kernel_rfl⟩ rfl rfl ?_
  try dsimp only [pickL]
  refine wpS_store rfl rfl rfl CellsOf.slice hS ps6 st19_1 (by kernel_rfl) rfl (fun w hS hB => ?_)
  refine wpS_nil ?_
  refine QH_stepG (hB.sub (fun _ _ h => by simpa using h)) ?_
  refine wpR_batch [false, false, false, false, false, false, false, false, false, false, false, false, false, false, false, false, true] (by decide +kernel) (by repeat (first | exact PF.body | exact PF.round | apply PF.then | apply PF.inBlock | apply PF.jump)) ?_
  refine LtK.put rfl rfl rfl (yv_fieldAddr fo_30_9 rfl) ?_
  refine LtK.nil ?_
  refine wpR_seal [false, false, false, false, false, false, false, false, false, false, false, false, false, false, false, false, false, true] 17 ⟨by decide, by kernel_rfl, by kernel_rfl⟩ rfl rfl ?_
  try dsimp only [pickL]
  refine wpS_store rfl rfl rfl CellsOf.slice hS ps6 st20_1 (by kernel_rfl) rfl (fun w hS hB => ?_)
  refine wpS_nil ?_
  refine QH_stepG (hB.sub (fun _ _ h => by simpa using h)) ?_
  refine wpR_batch [false, false, false, false, false, false, false, false, false, false, false, false, false, false, false, false, false, false, true] (by decide +kernel) (by repeat (first | exact PF.body | exact PF.round | apply PF.then | apply PF.inBlock | apply PF.jump)) ?_
  refine LtK.put rfl rfl rfl (yv_fieldAddr fo_30_10 rfl) ?_
  refine LtK.nil ?_
  refine wpR_seal [false, false, false, false, false, false, false, false, false, false, false, false, false, false, false, false, false, false, false, true] 19 ⟨by decide, by kernel_rfl, by kernel_rfl⟩ rfl rfl ?_
  try dsimp only [pickL]
  refine wpS_store rfl rfl rfl CellsOf.slice hS ps6 st21_1 (by kernel_rfl) rfl (fun w hS hB => ?_)
  refine wpS_nil ?_
  refine QH_stepG (hB.sub (fun _ _ h => by simpa using h)) ?_
  refine wpR_end (by kernel_rfl) ?_
  refine QH_seq_k hK13 ?_
  refine wpC_seq_k (fun K hK38 => ?_)
  refine wpC_region ?_
  refine wpS_put rfl rfl rfl (yv_load_boxA ag_30 rfl (RW.here _) hS hs6 trivial sg0_22) ?_
  refine wpS_store rfl rfl rfl CellsOf.agg hS ps5 st0_22 (by kernel_rfl) rfl (fun w hS hB => ?_)
  refine wpS_nil ?_
  refine QH_seq_k hK38 ?_
  refine wpC_ret ?_
  refine QH_ret rfl (RV.cell rfl (load_boxA ag_30 hS hs5 sg0_22) RV.nil) rfl ?_
  obtain rfl := Option.some.inj H
  have hS := hS.front 0 rfl
  have hS := hS.front 1 rfl
  have hS := hS.front 2 rfl
  have hS := hS.front 3 rfl
  have hS := hS.front 4 rfl
  replace hS := hS.cut 5
  exact ⟨A9, c10, A16, c17, A22, c23, A28, c29, A34, c35, rfl, k11, k18, k24, k30, k36, hS⟩
theorem c_tuple_Last (x0 : Tu) (A0_ : Option Addr) (c0_ : Nat) (w0 : World) (s0_ : SlI w0 enE A0_ c0_ x0.log) {r : Int} (H : m_tuple_Last x0 = some r) : Calls Try.prog 54 #[.agg #[.int .i64 x0.snap.index, .int .i64 x0.snap.term, .int .i64 x0.snap.sum, .int .i64 x0.snap.level, .bool x0.snap.final, .slice A0_ x0.log.length c0_, .int .i64 x0.term, .int .i64 x0.vote]] w0 fun e w' => e = .returned (.int .i64 r) ∧ St0 All w0 w' [] := by
  unfold m_tuple_Last at H
  refine gw_enter1 Try.func54 rfl Try.ntmps54 rfl ?_
  have hS := St0.start All w0
  refine wpC_seq_k (fun K hK1 => ?_)
  refine wpC_region ?_
  refine wpS_box rfl rfl rfl CellsOf.agg hS (fun b2 w hS hB => ?_)
  refine wpS_quick 1 rfl ?_
  refine wpS_nil ?_
  refine QH_seq_k hK1 ?_
  refine wpC_seq_k (fun K hK4 => ?_)
  refine wpC_region ?_
  refine wpS_put rfl rfl rfl (yv_fieldAddr fo_26_0 rfl) ?_
  refine wpS_put rfl rfl rfl (yv_fieldAddr fo_23_0 rfl) ?_
  refine wpS_put rfl rfl rfl (yv_load_box sc_3 rfl (RW.here _) hS hs0 trivial sg0_1) ?_
  refine wpS_put rfl rfl rfl (yv_fieldAddr fo_26_1 rfl) ?_
  refine wpS_put rfl rfl rfl (yv_load_box sc_24 rfl (RW.here _) hS hs0 trivial sg5_1) ?_
  refine wpS_put rfl rfl rfl (yv_len el_24 rfl) ?_
  refine wpS_put rfl rfl rfl (yx_add rfl rfl) ?_
  refine wpS_quick 1 rfl ?_
  refine wpS_nil ?_
  refine QH_seq_k hK4 ?_
  refine wpC_ret ?_
  refine QH_ret rfl (RV.tmp rfl RV.nil) rfl ?_
  obtain rfl := Option.some.inj H
  replace hS := hS.cut 0
  exact ⟨rfl, hS⟩
theorem c_msg_within (x0 : Int) (x1 : Int) (x2 : Int) (w0 : World) {r : Bool} (H : m_msg_within x0 x1 x2 = some r) : Calls Try.prog 74 #[.int .i64 x0, .int .i64 x1, .int .i64 x2] w0 fun e w' => e = .returned (.bool r) ∧ St0 All w0 w' [] := by
  unfold m_msg_within at H
  refine gw_enter3 Try.func74 rfl Try.ntmps74 rfl ?_
  have hS := St0.start All w0
  refine wpC_seq_k (fun K hK1 => ?_)
  refine wpC_region ?_
  refine wpS_quick 1 rfl ?_
  refine wpS_nil ?_
  refine QH_seq_k hK1 ?_
  refine wpC_seq_k (fun K hK2 => ?_)
  refine wpC_region ?_
  refine wpS_quick 2 rfl ?_
  refine wpS_put rfl rfl rfl (yv_geq rfl rfl) ?_
  refine wpS_quick 1 rfl ?_
  refine wpS_case 10 rfl (fun hb => ?_) (fun hb => ?_)
  rotate_left
  · replace H := cond_f H hb
    refine wpS_quick 5 rfl ?_
    refine wpS_nil ?_
    refine QH_seq_k hK2 ?_
    refine wpC_ret ?_
    refine QH_ret rfl (RV.tmp rfl RV.nil) rfl ?_
    obtain rfl := Option.some.inj H
    replace hS := hS.cut 0
    exact ⟨rfl, hS⟩
  replace H := cond_t H hb
  refine wpS_quick 2 rfl ?_
  refine wpS_put rfl rfl rfl (yv_leq rfl rfl) ?_
  refine wpS_quick 2 rfl ?_
  refine wpS_nil ?_
  refine QH_seq_k hK2 ?_
  refine wpC_ret ?_
  refine QH_ret rfl (RV.tmp rfl RV.nil) rfl ?_
  obtain rfl := Option.some.inj H
  replace hS := hS.cut 0
  exact ⟨rfl, hS⟩
theorem c_entry_First (w0 : World) {r : St} (H : m_entry_First = some r) : Calls Try.prog 121 #[] w0 fun e w' => e = .returned (.agg #[.int .i64 r.index, .int .i64 r.term, .int .i64 r.sum, .int .i64 r.level, .bool r.final]) ∧ St0 All w0 w' [] := by
  unfold m_entry_First at H
  refine gw_enter0 Try.func121 rfl Try.ntmps121 rfl ?_
  have hS := St0.start All w0
  refine wpC_seq_k (fun K hK1 => ?_)
  refine wpC_region ?_
  refine wpS_alloc rfl rfl zc_23 hS (fun b2 w hS hB => ?_)
  refine wpS_nil ?_
  refine QH_seq_k hK1 ?_
  refine wpC_seq_k (fun K hK4 => ?_)
  refine wpC_region ?_
  refine wpS_put rfl rfl rfl (yv_build (cells := [.int .i64 0, .int .i64 0, .int .i64 0, .int .i64 1, .bool false]) rfl (by kernel_rfl)) ?_
  refine wpS_store rfl rfl rfl CellsOf.agg hS ps0 st0_5 (by kernel_rfl) rfl (fun w hS hB => ?_)
  refine wpS_nil ?_
  refine QH_seq_k hK4 ?_
  refine wpC_ret ?_
  refine QH_ret rfl (RV.cell rfl (load_boxA ag_23 hS hs0 sg0_5) RV.nil) rfl ?_
  obtain rfl := Option.some.inj H
  replace hS := hS.cut 0
  exact ⟨rfl, hS⟩
theorem c_entry_number (x0 : Int) (w0 : World) {r : Bool} (H : m_entry_number x0 = some r) : Calls Try.prog 122 #[.int .i64 x0] w0 fun e w' => e = .returned (.bool r) ∧ St0 All w0 w' [] := by
  unfold m_entry_number at H
  refine gw_enter1 Try.func122 rfl Try.ntmps122 rfl ?_
  have hS := St0.start All w0
  refine wpC_seq_k (fun K hK1 => ?_)
  refine wpC_region ?_
  refine wpS_quick 1 rfl ?_
  refine wpS_nil ?_
  refine QH_seq_k hK1 ?_
  refine wpC_seq_k (fun K hK2 => ?_)
  refine wpC_region ?_
  refine wpS_quick 1 rfl ?_
  refine wpS_put rfl rfl rfl (yv_geq rfl rfl) ?_
  refine wpS_quick 1 rfl ?_
  refine wpS_case 5 rfl (fun hb => ?_) (fun hb => ?_)
  rotate_left
  · replace H := cond_f H hb
    refine wpS_quick 4 rfl ?_
    refine wpS_nil ?_
    refine QH_seq_k hK2 ?_
    refine wpC_ret ?_
    refine QH_ret rfl (RV.tmp rfl RV.nil) rfl ?_
    obtain rfl := Option.some.inj H
    replace hS := hS.cut 0
    exact ⟨rfl, hS⟩
  replace H := cond_t H hb
  refine wpS_quick 1 rfl ?_
  refine wpS_put rfl rfl rfl (yv_leq rfl rfl) ?_
  refine wpS_quick 2 rfl ?_
  refine wpS_nil ?_
  refine QH_seq_k hK2 ?_
  refine wpC_ret ?_
  refine QH_ret rfl (RV.tmp rfl RV.nil) rfl ?_
  obtain rfl := Option.some.inj H
  replace hS := hS.cut 0
  exact ⟨rfl, hS⟩
theorem c_entry_Fine (x0 : St) (w0 : World) {r : Bool} (H : m_entry_Fine x0 = some r) : Calls Try.prog 112 #[.agg #[.int .i64 x0.index, .int .i64 x0.term, .int .i64 x0.sum, .int .i64 x0.level, .bool x0.final]] w0 fun e w' => e = .returned (.bool r) ∧ St0 All w0 w' [] := by
  unfold m_entry_Fine at H
  refine gw_enter1 Try.func112 rfl Try.ntmps112 rfl ?_
  have hS := St0.start All w0
  refine wpC_seq_k (fun K hK1 => ?_)
  refine wpC_region ?_
  refine wpS_box rfl rfl rfl CellsOf.agg hS (fun b2 w hS hB => ?_)
  refine wpS_quick 1 rfl ?_
  refine wpS_nil ?_
  refine QH_seq_k hK1 ?_
  refine wpC_seq_k (fun K hK4 => ?_)
  refine wpC_block ?_
  refine wpC_seq_k (fun K hK5 => ?_)
  refine wpC_region ?_
  refine wpS_put rfl rfl rfl (yv_fieldAddr fo_23_0 rfl) ?_
  refine wpS_put rfl rfl rfl (yv_load_box sc_3 rfl (RW.here _) hS hs0 trivial sg0_1) ?_
  refine wpS_put rfl rfl rfl (yv_eql rfl rfl) ?_
  refine wpS_quick 1 rfl ?_
  refine wpS_nil ?_
  refine QH_seq_k hK5 ?_
  refine wpC_cond rfl (fun hb => ?_) (fun hb => ?_)
  · replace H := cond_t H hb
    refine wpC_seq_k (fun K hK7 => ?_)
    refine wpC_draw 4 [] (fun _ _ => True) ⟨by kernel_rfl, by kernel_rfl⟩ hS (fun w hS hB => ?_)
    refine wpR_batch [true] (by decide +kernel) (by repeat (first | exact PF.body | exact PF.round | apply PF.then | apply PF.inBlock | apply PF.jump)) ?_
    refine LtK.put rfl rfl rfl (yv_load_boxA ag_23 rfl (RW.below _) hS hs0 trivial sg0_5) ?_
    refine LtK.nil ?_
    refine wpR_call [false, true] 1 ⟨by decide, by kernel_rfl, by kernel_rfl⟩ rfl rfl ?_
    try dsimp only [pickL]
    obtain ⟨r8, hm9, H⟩ := bind_some H
    refine wpS_call rfl rfl rfl rfl (by kernel_rfl) rfl (c_entry_First _ hm9) ?_
    rintro e w ⟨rfl, hN⟩; refine ⟨_, rfl, ?_⟩; have hB := hN.pure; have hS := hS.join hN; clear hN
    refine wpS_nil ?_
    refine QH_step hB ?_
    refine wpR_batch [false, false, true, true] (by decide +kernel) (by repeat (first | exact PF.body | exact PF.round | apply PF.then | apply PF.inBlock | apply PF.jump)) ?_
    refine LtK.put rfl rfl rfl (yv_eqlS (by kernel_rfl) rfl rfl (eqT_23 _ _ _ _ _ _ _ _ _ _)) ?_
    refine LtK.put rfl rfl rfl (yv_assign rfl) ?_
    refine LtK.nil ?_
    refine wpR_end (by kernel_rfl) ?_
    refine QH_seq_k hK7 ?_
    refine wpC_ret ?_
    refine QH_block_ret ?_
    refine QH_then_ret ?_
    refine QH_ret rfl (RV.tmp rfl RV.nil) rfl ?_
    obtain rfl := Option.some.inj H
    replace hS := hS.cut 0
    exact ⟨rfl, hS⟩
  replace H := cond_f H hb
  refine wpC_seq_k (fun K hK11 => ?_)
  refine wpC_region ?_
  refine wpS_put rfl rfl rfl (yv_fieldAddr fo_23_4 rfl) ?_
  refine wpS_put rfl rfl rfl (yv_load_box sc_4 rfl (RW.here _) hS hs0 trivial sg4_1) ?_
  refine wpS_quick 1 rfl ?_
  refine wpS_nil ?_
  refine QH_seq_k hK11 ?_
  refine wpC_cond rfl (fun hb => ?_) (fun hb => ?_)
  · replace H := cond_t H hb
    refine wpC_seq_k (fun K hK13 => ?_)
    refine wpC_region ?_
    refine wpS_put rfl rfl rfl (yv_fieldAddr fo_23_3 rfl) ?_
    refine wpS_put rfl rfl rfl (yv_load_box sc_3 rfl (RW.here _) hS hs0 trivial sg3_1) ?_
    refine wpS_put rfl rfl rfl (yv_eql rfl rfl) ?_
    refine wpS_quick 1 rfl ?_
    refine wpS_case 16 rfl (fun hb => ?_) (fun hb => ?_)
    rotate_left
    · replace H := cond_f H hb
      refine wpS_quick 20 rfl ?_
      refine wpS_nil ?_
      refine QH_seq_k hK13 ?_
      refine wpC_ret ?_
      refine QH_block_ret ?_
      refine QH_then_ret ?_
      refine QH_ret rfl (RV.tmp rfl RV.nil) rfl ?_
      obtain rfl := Option.some.inj H
      replace hS := hS.cut 0
      exact ⟨rfl, hS⟩
    replace H := cond_t H hb
    refine wpS_put rfl rfl rfl (yv_fieldAddr fo_23_0 rfl) ?_
    refine wpS_put rfl rfl rfl (yv_load_box sc_3 rfl (RW.here _) hS hs0 trivial sg0_1) ?_
    obtain ⟨r15, hm16, H⟩ := bind_some H
    refine wpS_call rfl rfl rfl rfl (by kernel_rfl) rfl (c_entry_number x0.index _ hm16) ?_
    rintro e w ⟨rfl, hN⟩; refine ⟨_, rfl, ?_⟩; have hB := hN.pure; have hS := hS.join hN; clear hN
    refine wpS_quick 2 rfl ?_
    refine wpS_case 21 rfl (fun hb => ?_) (fun hb => ?_)
    rotate_left
    · replace H := cond_f H hb
      refine wpS_quick 15 rfl ?_
      refine wpS_nil ?_
      refine QH_seq_k hK13 ?_
      refine wpC_ret ?_
      refine QH_block_ret ?_
      refine QH_then_ret ?_
      refine QH_ret rfl (RV.tmp rfl RV.nil) rfl ?_
      obtain rfl := Option.some.inj H
      replace hS := hS.cut 0
      exact ⟨rfl, hS⟩
    replace H := cond_t H hb
    refine wpS_put rfl rfl rfl (yv_fieldAddr fo_23_1 rfl) ?_
    refine wpS_put rfl rfl rfl (yv_load_box sc_3 rfl (RW.here _) hS hs0 trivial sg1_1) ?_
    refine wpS_put rfl rfl rfl (yv_gtr rfl rfl) ?_
    refine wpS_quick 2 rfl ?_
    refine wpS_case 26 rfl (fun hb => ?_) (fun hb => ?_)
    rotate_left
    · replace H := cond_f H hb
      refine wpS_quick 10 rfl ?_
      refine wpS_nil ?_
      refine QH_seq_k hK13 ?_
      refine wpC_ret ?_
      refine QH_block_ret ?_
      refine QH_then_ret ?_
      refine QH_ret rfl (RV.tmp rfl RV.nil) rfl ?_
      obtain rfl := Option.some.inj H
      replace hS := hS.cut 0
      exact ⟨rfl, hS⟩
    replace H := cond_t H hb
    refine wpS_put rfl rfl rfl (yv_fieldAddr fo_23_1 rfl) ?_
    refine wpS_put rfl rfl rfl (yv_load_box sc_3 rfl (RW.here _) hS hs0 trivial sg1_1) ?_
    obtain ⟨r19, hm20, H⟩ := bind_some H
    refine wpS_call rfl rfl rfl rfl (by kernel_rfl) rfl (c_entry_number x0.term _ hm20) ?_
    rintro e w ⟨rfl, hN⟩; refine ⟨_, rfl, ?_⟩; have hB := hN.pure; have hS := hS.join hN; clear hN
    refine wpS_quick 2 rfl ?_
    refine wpS_case 31 rfl (fun hb => ?_) (fun hb => ?_)
    rotate_left
    · replace H := cond_f H hb
      refine wpS_quick 5 rfl ?_
      refine wpS_nil ?_
      refine QH_seq_k hK13 ?_
      refine wpC_ret ?_
      refine QH_block_ret ?_
      refine QH_then_ret ?_
      refine QH_ret rfl (RV.tmp rfl RV.nil) rfl ?_
      obtain rfl := Option.some.inj H
      replace hS := hS.cut 0
      exact ⟨rfl, hS⟩
    replace H := cond_t H hb
    refine wpS_put rfl rfl rfl (yv_fieldAddr fo_23_2 rfl) ?_
    refine wpS_put rfl rfl rfl (yv_load_box sc_3 rfl (RW.here _) hS hs0 trivial sg2_1) ?_
    obtain ⟨r22, hm23, H⟩ := bind_some H
    refine wpS_call rfl rfl rfl rfl (by kernel_rfl) rfl (c_entry_number x0.sum _ hm23) ?_
    rintro e w ⟨rfl, hN⟩; refine ⟨_, rfl, ?_⟩; have hB := hN.pure; have hS := hS.join hN; clear hN
    refine wpS_quick 2 rfl ?_
    refine wpS_nil ?_
    refine QH_seq_k hK13 ?_
    refine wpC_ret ?_
    refine QH_block_ret ?_
    refine QH_then_ret ?_
    refine QH_ret rfl (RV.tmp rfl RV.nil) rfl ?_
    obtain rfl := Option.some.inj H
    replace hS := hS.cut 0
    exact ⟨rfl, hS⟩
  replace H := cond_f H hb
  refine wpC_skip ?_
  refine QH_block_normal ?_
  refine QH_seq_k hK4 ?_
  refine wpC_seq_k (fun K hK29 => ?_)
  refine wpC_region ?_
  refine wpS_put rfl rfl rfl (yv_fieldAddr fo_23_3 rfl) ?_
  refine wpS_put rfl rfl rfl (yv_load_box sc_3 rfl (RW.here _) hS hs0 trivial sg3_1) ?_
  refine wpS_put rfl rfl rfl (yv_eql rfl rfl) ?_
  refine wpS_quick 1 rfl ?_
  refine wpS_case 39 rfl (fun hb => ?_) (fun hb => ?_)
  · replace H := cond_t H hb
    refine wpS_quick 5 rfl ?_
    refine wpS_put rfl rfl rfl (yv_fieldAddr fo_23_0 rfl) ?_
    refine wpS_put rfl rfl rfl (yv_load_box sc_3 rfl (RW.here _) hS hs0 trivial sg0_1) ?_
    obtain ⟨r31, hm32, H⟩ := bind_some H
    refine wpS_call rfl rfl rfl rfl (by kernel_rfl) rfl (c_entry_number x0.index _ hm32) ?_
    rintro e w ⟨rfl, hN⟩; refine ⟨_, rfl, ?_⟩; have hB := hN.pure; have hS := hS.join hN; clear hN
    refine wpS_quick 2 rfl ?_
    refine wpS_case 49 rfl (fun hb => ?_) (fun hb => ?_)
    rotate_left
    · replace H := cond_f H hb
      refine wpS_quick 15 rfl ?_
      refine wpS_nil ?_
      refine QH_seq_k hK29 ?_
      refine wpC_ret ?_
      refine QH_ret rfl (RV.tmp rfl RV.nil) rfl ?_
      obtain rfl := Option.some.inj H
      replace hS := hS.cut 0
      exact ⟨rfl, hS⟩
    replace H := cond_t H hb
    refine wpS_put rfl rfl rfl (yv_fieldAddr fo_23_1 rfl) ?_
    refine wpS_put rfl rfl rfl (yv_load_box sc_3 rfl (RW.here _) hS hs0 trivial sg1_1) ?_
    refine wpS_put rfl rfl rfl (yv_gtr rfl rfl) ?_
    refine wpS_quick 2 rfl ?_
    refine wpS_case 54 rfl (fun hb => ?_) (fun hb => ?_)
    rotate_left
    · replace H := cond_f H hb
      refine wpS_quick 10 rfl ?_
      refine wpS_nil ?_
      refine QH_seq_k hK29 ?_
      refine wpC_ret ?_
      refine QH_ret rfl (RV.tmp rfl RV.nil) rfl ?_
      obtain rfl := Option.some.inj H
      replace hS := hS.cut 0
      exact ⟨rfl, hS⟩
    replace H := cond_t H hb
    refine wpS_put rfl rfl rfl (yv_fieldAddr fo_23_1 rfl) ?_
    refine wpS_put rfl rfl rfl (yv_load_box sc_3 rfl (RW.here _) hS hs0 trivial sg1_1) ?_
    obtain ⟨r35, hm36, H⟩ := bind_some H
    refine wpS_call rfl rfl rfl rfl (by kernel_rfl) rfl (c_entry_number x0.term _ hm36) ?_
    rintro e w ⟨rfl, hN⟩; refine ⟨_, rfl, ?_⟩; have hB := hN.pure; have hS := hS.join hN; clear hN
    refine wpS_quick 2 rfl ?_
    refine wpS_case 59 rfl (fun hb => ?_) (fun hb => ?_)
    rotate_left
    · replace H := cond_f H hb
      refine wpS_quick 5 rfl ?_
      refine wpS_nil ?_
      refine QH_seq_k hK29 ?_
      refine wpC_ret ?_
      refine QH_ret rfl (RV.tmp rfl RV.nil) rfl ?_
      obtain rfl := Option.some.inj H
      replace hS := hS.cut 0
      exact ⟨rfl, hS⟩
    replace H := cond_t H hb
    refine wpS_put rfl rfl rfl (yv_fieldAddr fo_23_2 rfl) ?_
    refine wpS_put rfl rfl rfl (yv_load_box sc_3 rfl (RW.here _) hS hs0 trivial sg2_1) ?_
    obtain ⟨r38, hm39, H⟩ := bind_some H
    refine wpS_call rfl rfl rfl rfl (by kernel_rfl) rfl (c_entry_number x0.sum _ hm39) ?_
    rintro e w ⟨rfl, hN⟩; refine ⟨_, rfl, ?_⟩; have hB := hN.pure; have hS := hS.join hN; clear hN
    refine wpS_quick 2 rfl ?_
    refine wpS_nil ?_
    refine QH_seq_k hK29 ?_
    refine wpC_ret ?_
    refine QH_ret rfl (RV.tmp rfl RV.nil) rfl ?_
    obtain rfl := Option.some.inj H
    replace hS := hS.cut 0
    exact ⟨rfl, hS⟩
  replace H := cond_f H hb
  refine wpS_put rfl rfl rfl (yv_fieldAddr fo_23_3 rfl) ?_
  refine wpS_put rfl rfl rfl (yv_load_box sc_3 rfl (RW.here _) hS hs0 trivial sg3_1) ?_
  refine wpS_put rfl rfl rfl (yv_eql rfl rfl) ?_
  refine wpS_quick 2 rfl ?_
  refine wpS_case 44 rfl (fun hb => ?_) (fun hb => ?_)
  rotate_left
  · replace H := cond_f H hb
    refine wpS_quick 20 rfl ?_
    refine wpS_nil ?_
    refine QH_seq_k hK29 ?_
    refine wpC_ret ?_
    refine QH_ret rfl (RV.tmp rfl RV.nil) rfl ?_
    obtain rfl := Option.some.inj H
    replace hS := hS.cut 0
    exact ⟨rfl, hS⟩
  replace H := cond_t H hb
  refine wpS_put rfl rfl rfl (yv_fieldAddr fo_23_0 rfl) ?_
  refine wpS_put rfl rfl rfl (yv_load_box sc_3 rfl (RW.here _) hS hs0 trivial sg0_1) ?_
  obtain ⟨r45, hm46, H⟩ := bind_some H
  refine wpS_call rfl rfl rfl rfl (by kernel_rfl) rfl (c_entry_number x0.index _ hm46) ?_
  rintro e w ⟨rfl, hN⟩; refine ⟨_, rfl, ?_⟩; have hB := hN.pure; have hS := hS.join hN; clear hN
  refine wpS_quick 2 rfl ?_
  refine wpS_case 49 rfl (fun hb => ?_) (fun hb => ?_)
  rotate_left
  · replace H := cond_f H hb
    refine wpS_quick 15 rfl ?_
    refine wpS_nil ?_
    refine QH_seq_k hK29 ?_
    refine wpC_ret ?_
    refine QH_ret rfl (RV.tmp rfl RV.nil) rfl ?_
    obtain rfl := Option.some.inj H
    replace hS := hS.cut 0
    exact ⟨rfl, hS⟩
  replace H := cond_t H hb
  refine wpS_put rfl rfl rfl (yv_fieldAddr fo_23_1 rfl) ?_
  refine wpS_put rfl rfl rfl (yv_load_box sc_3 rfl (RW.here _) hS hs0 trivial sg1_1) ?_
  refine wpS_put rfl rfl rfl (yv_gtr rfl rfl) ?_
  refine wpS_quick 2 rfl ?_
  refine wpS_case 54 rfl (fun hb => ?_) (fun hb => ?_)
  rotate_left
  · replace H := cond_f H hb
    refine wpS_quick 10 rfl ?_
    refine wpS_nil ?_
    refine QH_seq_k hK29 ?_
    refine wpC_ret ?_
    refine QH_ret rfl (RV.tmp rfl RV.nil) rfl ?_
    obtain rfl := Option.some.inj H
    replace hS := hS.cut 0
    exact ⟨rfl, hS⟩
  replace H := cond_t H hb
  refine wpS_put rfl rfl rfl (yv_fieldAddr fo_23_1 rfl) ?_
  refine wpS_put rfl rfl rfl (yv_load_box sc_3 rfl (RW.here _) hS hs0 trivial sg1_1) ?_
  obtain ⟨r49, hm50, H⟩ := bind_some H
  refine wpS_call rfl rfl rfl rfl (by kernel_rfl) rfl (c_entry_number x0.term _ hm50) ?_
  rintro e w ⟨rfl, hN⟩; refine ⟨_, rfl, ?_⟩; have hB := hN.pure; have hS := hS.join hN; clear hN
  refine wpS_quick 2 rfl ?_
  refine wpS_case 59 rfl (fun hb => ?_) (fun hb => ?_)
  rotate_left
  · replace H := cond_f H hb
    refine wpS_quick 5 rfl ?_
    refine wpS_nil ?_
    refine QH_seq_k hK29 ?_
    refine wpC_ret ?_
    refine QH_ret rfl (RV.tmp rfl RV.nil) rfl ?_
    obtain rfl := Option.some.inj H
    replace hS := hS.cut 0
    exact ⟨rfl, hS⟩
  replace H := cond_t H hb
  refine wpS_put rfl rfl rfl (yv_fieldAddr fo_23_2 rfl) ?_
  refine wpS_put rfl rfl rfl (yv_load_box sc_3 rfl (RW.here _) hS hs0 trivial sg2_1) ?_
  obtain ⟨r52, hm53, H⟩ := bind_some H
  refine wpS_call rfl rfl rfl rfl (by kernel_rfl) rfl (c_entry_number x0.sum _ hm53) ?_
  rintro e w ⟨rfl, hN⟩; refine ⟨_, rfl, ?_⟩; have hB := hN.pure; have hS := hS.join hN; clear hN
  refine wpS_quick 2 rfl ?_
  refine wpS_nil ?_
  refine QH_seq_k hK29 ?_
  refine wpC_ret ?_
  refine QH_ret rfl (RV.tmp rfl RV.nil) rfl ?_
  obtain rfl := Option.some.inj H
  replace hS := hS.cut 0
  exact ⟨rfl, hS⟩
theorem c_msg_each (x0 : List Int) (x1 : Int) (x2 : Int) (x3 : Int) (A0_ : Option Addr) (c0_ : Nat) (w0 : World) (s0_ : SlI w0 enI A0_ c0_ x0) {r : Bool} (H : m_msg_each x0 x1 x2 x3 = some r) : Calls Try.prog 79 #[.slice A0_ x0.length c0_, .int .i64 x1, .int .i64 x2, .int .i64 x3] w0 fun e w' => e = .returned (.bool r) ∧ St0 All w0 w' [] := by
  unfold m_msg_each at H
  refine gw_enter4 Try.func79 rfl Try.ntmps79 rfl ?_
  have hS := St0.start All w0
  refine wpC_seq_k (fun K hK1 => ?_)
  refine wpC_region ?_
  refine wpS_box rfl rfl rfl CellsOf.int hS (fun b2 w hS hB => ?_)
  refine wpS_box rfl rfl rfl CellsOf.int hS (fun b4 w hS hB => ?_)
  refine wpS_quick 1 rfl ?_
  refine wpS_nil ?_
  refine QH_seq_k hK1 ?_
  refine wpC_seq_k (fun K hK6 => ?_)
  refine wpC_region ?_
  refine wpS_quick 1 rfl ?_
  refine wpS_put rfl rfl rfl (yv_len el_28 rfl) ?_
  refine wpS_quick 1 rfl ?_
  refine wpS_put rfl rfl rfl (yv_eql rfl rfl) ?_
  refine wpS_quick 1 rfl ?_
  refine wpS_case 13 rfl (fun hb => ?_) (fun hb => ?_)
  rotate_left
  · replace H := cond_f H hb
    refine wpS_quick 6 rfl ?_
    refine wpS_nil ?_
    refine QH_seq_k hK6 ?_
    refine wpC_ret ?_
    refine QH_ret rfl (RV.tmp rfl RV.nil) rfl ?_
    obtain rfl := Option.some.inj H
    replace hS := hS.cut 0
    exact ⟨rfl, hS⟩
  replace H := cond_t H hb
  refine wpS_quick 1 rfl ?_
  refine wpS_put rfl rfl rfl (yv_makeFunc rfl rfl) ?_
  refine wpS_in rfl rfl rfl rfl (by kernel_rfl) rfl ?_
  show Calls _ _ #[_, _] _ _
  refine gw_enter2 Try.func108 rfl Try.ntmps108 rfl ?_
  refine wpC_seq_k (fun K hK8 => ?_)
  refine wpC_region ?_
  refine wpS_quick 1 rfl ?_
  refine wpS_nil ?_
  refine QH_seq_k hK8 ?_
  refine wpC_seq_k (fun K hK9 => ?_)
  refine wpC_region ?_
  refine wpS_quick 2 rfl ?_
  refine wpS_in rfl rfl rfl rfl (by kernel_rfl) rfl ?_
  show Calls _ _ #[_, _] _ _
  refine gw_enter2 Try.func95 rfl Try.ntmps95 rfl ?_
  refine wpC_seq_k (fun K hK10 => ?_)
  refine wpC_region ?_
  refine wpS_quick 1 rfl ?_
  refine wpS_nil ?_
  refine QH_seq_k hK10 ?_
  refine wpC_seq_k (fun K hK11 => ?_)
  refine wpC_seq_k (fun K hK12 => ?_)
  refine wpC_region ?_
  refine wpS_quick 1 rfl ?_
  refine wpS_put rfl rfl rfl (yv_len el_28 rfl) ?_
  refine wpS_quick 1 rfl ?_
  refine wpS_nil ?_
  refine QH_seq_k hK12 ?_
  refine wpC_block ?_
  refine wpC_loop (X := Nat × Int × Int) (fun x => (0, .slice A0_ x0.length c0_) :: (1, .func (.func 109) #[] #[.pointer (some ⟨b2, 0, none⟩), .pointer (some ⟨b4, 0, none⟩)]) :: (4, .int .i64 x.2.1) :: (7, .int .i64 (x0.length : Int)) :: (8, .int .i64 x.2.2) :: []) (fun x w => St0 All w0 w (.box b4 [.int .i64 x3] 3 :: .box b2 [.int .i64 x2] 3 :: []) ∧ m_msg_each_l1 x0 x2 x3 x.1 x.2.1 x.2.2 = some r) (fun x => x.1) (fuelN, 0, 0) (by repeat (first | exact Sub.nil | refine Sub.cons rfl ?_)) ⟨hS, H⟩ ?_
  rintro ⟨n, v13, v14⟩ w ⟨hS, H⟩
  dsimp only at hS H ⊢
  obtain _ | n := n
  · have H0 : none = some r := H
    cases H0
  rw [m_msg_each_l1] at H
  refine wpC_seq_k (fun K hK15 => ?_)
  refine wpC_region ?_
  refine wpS_put rfl rfl rfl (yv_lss rfl rfl) ?_
  refine wpS_nil ?_
  refine QH_seq_k hK15 ?_
  refine wpC_seq_k (fun K hK16 => ?_)
  refine wpC_cond rfl (fun hb => ?_) (fun hb => ?_)
  rotate_left
  · replace H := cond_f H hb
    refine wpC_exit ?_
    refine QH_then_exit ?_
    refine QH_then_exit ?_
    refine QH_block_hit ?_
    refine QH_seq_k hK11 ?_
    refine wpC_seq_k (fun K hK32 => ?_)
    refine wpC_region ?_
    refine wpS_quick 1 rfl ?_
    refine wpS_nil ?_
    refine QH_seq_k hK32 ?_
    refine wpC_ret ?_
    refine QH_ret rfl (RV.tmp rfl RV.nil) rfl ?_
    refine ⟨_, rfl, ?_⟩
    refine wpS_put rfl rfl rfl (yv_geq rfl rfl) ?_
    refine wpS_quick 1 rfl ?_
    refine wpS_nil ?_
    refine QH_seq_k hK9 ?_
    refine wpC_ret ?_
    refine QH_ret rfl (RV.tmp rfl RV.nil) rfl ?_
    refine ⟨_, rfl, ?_⟩
    refine wpS_put rfl rfl rfl (yv_not rfl) ?_
    refine wpS_quick 2 rfl ?_
    refine wpS_nil ?_
    refine QH_seq_k hK6 ?_
    refine wpC_ret ?_
    refine QH_ret rfl (RV.tmp rfl RV.nil) rfl ?_
    obtain rfl := Option.some.inj H
    replace hS := hS.cut 0
    exact ⟨rfl, hS⟩
  replace H := cond_t H hb
  refine wpC_skip ?_
  refine QH_seq_k hK16 ?_
  refine wpC_seq_k (fun K hK18 => ?_)
  refine wpC_block ?_
  refine wpC_seq_k (fun K hK19 => ?_)
  refine wpC_region ?_
  refine wpS_quick 2 rfl ?_
  refine wpS_nil ?_
  refine QH_seq_k hK19 ?_
  refine wpC_seq_k (fun K hK20 => ?_)
  refine wpC_region ?_
  refine wpS_quick 3 rfl ?_
  obtain ⟨e21, hi23, H⟩ := bind_some H
  obtain ⟨j22, hi23a, hi23b, hi23c⟩ := idx_some hi23
  refine wpS_put rfl rfl rfl (yx_idx el_28 rfl rfl hi23a hi23c (Rd.el (hS.rd0 s0_.rd) he_enI hi23b)) ?_
  refine wpS_put rfl rfl rfl (yx_ld0 sc_3 rfl (RW.here _) (Rd.el (hS.rd0 s0_.rd) he_enI hi23b) rfl) ?_
  refine wpS_in rfl rfl rfl rfl (by kernel_rfl) rfl ?_
  show Calls _ _ #[_, _, _] _ _
  refine gw_enter3 Try.func109 rfl Try.ntmps109 rfl ?_
  refine wpC_seq_k (fun K hK24 => ?_)
  refine wpC_region ?_
  refine wpS_quick 1 rfl ?_
  refine wpS_nil ?_
  refine QH_seq_k hK24 ?_
  refine wpC_seq_k (fun K hK25 => ?_)
  refine wpC_region ?_
  refine wpS_quick 1 rfl ?_
  refine wpS_put rfl rfl rfl (yv_load_box sc_3 rfl (RW.here _) hS hs1 trivial sg0_1) ?_
  refine wpS_put rfl rfl rfl (yv_load_box sc_3 rfl (RW.here _) hS hs0 trivial sg0_1) ?_
  obtain ⟨r26, hm27, H⟩ := bind_some H
  refine wpS_call rfl rfl rfl rfl (by kernel_rfl) rfl (c_msg_within e21 x2 x3 _ hm27) ?_
  rintro e w ⟨rfl, hN⟩; refine ⟨_, rfl, ?_⟩; have hB := hN.pure; have hS := hS.join hN; clear hN
  refine wpS_put rfl rfl rfl (yv_not rfl) ?_
  refine wpS_quick 1 rfl ?_
  refine wpS_nil ?_
  refine QH_seq_k hK25 ?_
  refine wpC_ret ?_
  refine QH_ret rfl (RV.tmp rfl RV.nil) rfl ?_
  refine ⟨_, rfl, ?_⟩
  refine wpS_nil ?_
  refine QH_seq_k hK20 ?_
  refine wpC_cond rfl (fun hb => ?_) (fun hb => ?_)
  rotate_left
  · replace H := cond_f H hb
    refine wpC_skip ?_
    refine QH_block_normal ?_
    refine QH_seq_k hK18 ?_
    refine wpC_region ?_
    refine wpS_put rfl rfl rfl (yx_add rfl rfl) ?_
    refine wpS_quick 1 rfl ?_
    refine wpS_nil ?_
    exact QH_again (n, v13, (IntKind.wrap .i64 (v14 + 1))) (by repeat (first | exact Sub.nil | refine Sub.cons rfl ?_)) ⟨hS, H⟩ (Nat.lt_succ_self _)
  replace H := cond_t H hb
  refine wpC_seq_k (fun K hK29 => ?_)
  refine wpC_region ?_
  refine wpS_quick 2 rfl ?_
  refine wpS_nil ?_
  refine QH_seq_k hK29 ?_
  refine wpC_ret ?_
  refine QH_block_ret ?_
  refine QH_then_ret ?_
  refine QH_then_ret ?_
  refine QH_block_ret ?_
  refine QH_then_ret ?_
  refine QH_ret rfl (RV.tmp rfl RV.nil) rfl ?_
  refine ⟨_, rfl, ?_⟩
  refine wpS_put rfl rfl rfl (yv_geq rfl rfl) ?_
  refine wpS_quick 1 rfl ?_
  refine wpS_nil ?_
  refine QH_seq_k hK9 ?_
  refine wpC_ret ?_
  refine QH_ret rfl (RV.tmp rfl RV.nil) rfl ?_
  refine ⟨_, rfl, ?_⟩
  refine wpS_put rfl rfl rfl (yv_not rfl) ?_
  refine wpS_quick 2 rfl ?_
  refine wpS_nil ?_
  refine QH_seq_k hK6 ?_
  refine wpC_ret ?_
  refine QH_ret rfl (RV.tmp rfl RV.nil) rfl ?_
  obtain rfl := Option.some.inj H
  replace hS := hS.cut 0
  exact ⟨rfl, hS⟩
theorem c_msg_Right (x0 : Co) (A0_ : Option Addr) (c0_ : Nat) (A1_ : Option Addr) (c1_ : Nat) (A2_ : Option Addr) (c2_ : Nat) (A3_ : Option Addr) (c3_ : Nat) (A4_ : Option Addr) (c4_ : Nat) (w0 : World) (s0_ : SlI w0 enE A0_ c0_ x0.tuple.log) (s1_ : SlI w0 enO A1_ c1_ x0.votes) (s2_ : SlI w0 enI A2_ c2_ x0.next) (s3_ : SlI w0 enI A3_ c3_ x0.mtch) (s4_ : SlI w0 enI A4_ c4_ x0.caps) {r : Bool} (H : m_msg_Right x0 = some r) : Calls Try.prog 44 #[.agg #[.int .i64 x0.id, .int .i64 x0.n, .int .u8 x0.role, .int .i64 x0.binary, .int .i64 x0.tuple.snap.index, .int .i64 x0.tuple.snap.term, .int .i64 x0.tuple.snap.sum, .int .i64 x0.tuple.snap.level, .bool x0.tuple.snap.final, .slice A0_ x0.tuple.log.length c0_, .int .i64 x0.tuple.term, .int .i64 x0.tuple.vote, .int .i64 x0.commit, .int .i64 x0.applied.index, .int .i64 x0.applied.term, .int .i64 x0.applied.sum, .int .i64 x0.applied.level, .bool x0.applied.final, .slice A1_ x0.votes.length c1_, .slice A2_ x0.next.length c2_, .slice A3_ x0.mtch.length c3_, .slice A4_ x0.caps.length c4_]] w0 fun e w' => e = .returned (.bool r) ∧ St0 All w0 w' [] := by
  unfold m_msg_Right at H
  refine gw_enter1 Try.func44 rfl Try.ntmps44 rfl ?_
  have hS := St0.start All w0
  refine wpC_seq_k (fun K hK1 => ?_)
  refine wpC_region ?_
  refine wpS_box rfl rfl rfl CellsOf.agg hS (fun b2 w hS hB => ?_)
  refine wpS_quick 1 rfl ?_
  refine wpS_nil ?_
  refine QH_seq_k hK1 ?_
  refine wpC_seq_k (fun K hK4 => ?_)
  refine wpC_region ?_
  refine wpS_put rfl rfl rfl (yv_fieldAddr fo_30_4 rfl) ?_
  refine wpS_put rfl rfl rfl (yv_load_boxA ag_26 rfl (RW.here _) hS hs0 trivial sg4_8) ?_
  obtain ⟨r5, hm6, H⟩ := bind_some H
  refine wpS_call rfl rfl rfl rfl (by kernel_rfl) rfl (c_tuple_Last x0.tuple A0_ c0_ _ (SlI.of_rd s0_.k (hS.rd0 s0_.rd) (hS.blk0 s0_.blk)) hm6) ?_
  rintro e w ⟨rfl, hN⟩; refine ⟨_, rfl, ?_⟩; have hB := hN.pure; have hS := hS.join hN; clear hN
  refine wpS_alloc rfl rfl zc_3 hS (fun b7 w hS hB => ?_)
  refine wpS_store rfl rfl rfl CellsOf.int hS ps0 st0_1 (by kernel_rfl) rfl (fun w hS hB => ?_)
  refine wpS_nil ?_
  refine QH_seq_k hK4 ?_
  refine wpC_seq_k (fun K hK9 => ?_)
  refine wpC_seq_k (fun K hK10 => ?_)
  refine wpC_region ?_
  refine wpS_put rfl rfl rfl (yv_makeFunc rfl rfl) ?_
  refine wpS_put rfl rfl rfl (yv_makeFunc rfl rfl) ?_
  refine wpS_put rfl rfl rfl (yv_makeFunc rfl rfl) ?_
  refine wpS_put rfl rfl rfl (yv_makeFunc rfl rfl) ?_
  refine wpS_put rfl rfl rfl (yv_makeFunc rfl rfl) ?_
  refine wpS_put rfl rfl rfl (yv_makeFunc rfl rfl) ?_
  refine wpS_put rfl rfl rfl (yv_build (cells := [.func (.func 73) #[] #[.pointer (some ⟨b2, 0, none⟩)], .func (.func 75) #[] #[.pointer (some ⟨b2, 0, none⟩)], .func (.func 77) #[] #[.pointer (some ⟨b2, 0, none⟩)], .func (.func 78) #[] #[.pointer (some ⟨b2, 0, none⟩), .pointer (some ⟨b7, 0, none⟩)], .func (.func 80) #[] #[.pointer (some ⟨b2, 0, none⟩)], .func (.func 81) #[] #[.pointer (some ⟨b2, 0, none⟩)]]) rfl (by kernel_rfl)) ?_
  refine wpS_quick 1 rfl ?_
  refine wpS_nil ?_
  refine QH_seq_k hK10 ?_
  refine wpC_block ?_
  refine wpC_rounds 60 ?_
  refine wpC_seq_k (fun K hK11 => ?_)
  refine wpC_region ?_
  refine wpS_put rfl rfl rfl (yv_lss rfl rfl) ?_
  refine wpS_nil ?_
  refine QH_seq_k hK11 ?_
  refine wpC_seq_k (fun K hK12 => ?_)
  refine wpC_cond_t rfl rfl ?_
  refine wpC_skip ?_
  refine QH_seq_k hK12 ?_
  refine wpC_seq_k (fun K hK13 => ?_)
  refine wpC_block ?_
  refine wpC_seq_k (fun K hK14 => ?_)
  refine wpC_region ?_
  refine wpS_put rfl rfl rfl (yx_index (n := 6) (e := 34) (j := 0) (by kernel_rfl) (by kernel_rfl) (by kernel_rfl) rfl rfl rfl (by decide) rfl) ?_
  refine wpS_quick 1 rfl ?_
  refine wpS_nil ?_
  refine QH_seq_k hK14 ?_
  refine wpC_seq_k (fun K hK15 => ?_)
  refine wpC_region ?_
  refine wpS_quick 1 rfl ?_
  refine wpS_in rfl rfl rfl rfl (by kernel_rfl) rfl ?_
  show Calls _ _ #[_] _ _
  refine gw_enter1 Try.func73 rfl Try.ntmps73 rfl ?_
  refine wpC_seq_k (fun K hK16 => ?_)
  refine wpC_region ?_
  refine wpS_quick 1 rfl ?_
  refine wpS_nil ?_
  refine QH_seq_k hK16 ?_
  refine wpC_seq_k (fun K hK17 => ?_)
  refine wpC_region ?_
  refine wpS_put rfl rfl rfl (yv_fieldAddr fo_30_1 rfl) ?_
  refine wpS_put rfl rfl rfl (yv_load_box sc_3 rfl (RW.here _) hS hs1 trivial sg1_1) ?_
  obtain ⟨r18, hm19, H⟩ := bind_some H
  refine wpS_call rfl rfl rfl rfl (by kernel_rfl) rfl (c_msg_within x0.n 1 5 _ hm19) ?_
  rintro e w ⟨rfl, hN⟩; refine ⟨_, rfl, ?_⟩; have hB := hN.pure; have hS := hS.join hN; clear hN
  refine wpS_quick 1 rfl ?_
  refine wpS_case 5 rfl (fun hb => ?_) (fun hb => ?_)
  rotate_left
  · replace H := cond_f H hb
    refine wpS_quick 7 rfl ?_
    refine wpS_nil ?_
    refine QH_seq_k hK17 ?_
    refine wpC_ret ?_
    refine QH_ret rfl (RV.tmp rfl RV.nil) rfl ?_
    refine ⟨_, rfl, ?_⟩
    refine wpS_put rfl rfl rfl (yv_not rfl) ?_
    refine wpS_nil ?_
    refine QH_seq_k hK15 ?_
    refine wpC_cond_t rfl rfl ?_
    refine wpC_seq_k (fun K hK124 => ?_)
    refine wpC_region ?_
    refine wpS_quick 1 rfl ?_
    refine wpS_nil ?_
    refine QH_seq_k hK124 ?_
    refine wpC_ret ?_
    refine QH_block_ret ?_
    refine QH_then_ret ?_
    refine QH_then_ret ?_
    refine QH_block_ret ?_
    refine QH_then_ret ?_
    refine QH_ret rfl (RV.tmp rfl RV.nil) rfl ?_
    obtain rfl := Option.some.inj H
    replace hS := hS.cut 0
    exact ⟨rfl, hS⟩
  replace H := cond_t H hb
  refine wpS_put rfl rfl rfl (yv_fieldAddr fo_30_0 rfl) ?_
  refine wpS_put rfl rfl rfl (yv_load_box sc_3 rfl (RW.here _) hS hs1 trivial sg0_1) ?_
  refine wpS_put rfl rfl rfl (yv_fieldAddr fo_30_1 rfl) ?_
  refine wpS_put rfl rfl rfl (yv_load_box sc_3 rfl (RW.here _) hS hs1 trivial sg1_1) ?_
  obtain ⟨r21, hm22, H⟩ := bind_some H
  refine wpS_call rfl rfl rfl rfl (by kernel_rfl) rfl (c_msg_within x0.id 1 x0.n _ hm22) ?_
  rintro e w ⟨rfl, hN⟩; refine ⟨_, rfl, ?_⟩; have hB := hN.pure; have hS := hS.join hN; clear hN
  refine wpS_quick 2 rfl ?_
  refine wpS_nil ?_
  refine QH_seq_k hK17 ?_
  refine wpC_ret ?_
  refine QH_ret rfl (RV.tmp rfl RV.nil) rfl ?_
  refine ⟨_, rfl, ?_⟩
  refine wpS_put rfl rfl rfl (yv_not rfl) ?_
  refine wpS_nil ?_
  refine QH_seq_k hK15 ?_
  refine wpC_cond rfl (fun hb => ?_) (fun hb => ?_)
  · replace H := cond_t H hb
    refine wpC_seq_k (fun K hK24 => ?_)
    refine wpC_region ?_
    refine wpS_quick 1 rfl ?_
    refine wpS_nil ?_
    refine QH_seq_k hK24 ?_
    refine wpC_ret ?_
    refine QH_block_ret ?_
    refine QH_then_ret ?_
    refine QH_then_ret ?_
    refine QH_block_ret ?_
    refine QH_then_ret ?_
    refine QH_ret rfl (RV.tmp rfl RV.nil) rfl ?_
    obtain rfl := Option.some.inj H
    replace hS := hS.cut 0
    exact ⟨rfl, hS⟩
  replace H := cond_f H hb
  refine wpC_skip ?_
  refine QH_block_normal ?_
  refine QH_seq_k hK13 ?_
  refine wpC_region ?_
  refine wpS_put rfl rfl rfl (yx_add rfl rfl) ?_
  refine wpS_quick 1 rfl ?_
  refine wpS_nil ?_
  refine QH_more ?_
  refine wpC_seq_k (fun K hK26 => ?_)
  refine wpC_region ?_
  refine wpS_put rfl rfl rfl (yv_lss rfl rfl) ?_
  refine wpS_nil ?_
  refine QH_seq_k hK26 ?_
  refine wpC_seq_k (fun K hK27 => ?_)
  refine wpC_cond_t rfl rfl ?_
  refine wpC_skip ?_
  refine QH_seq_k hK27 ?_
  refine wpC_seq_k (fun K hK28 => ?_)
  refine wpC_block ?_
  refine wpC_seq_k (fun K hK29 => ?_)
  refine wpC_region ?_
  refine wpS_put rfl rfl rfl (yx_index (n := 6) (e := 34) (j := 1) (by kernel_rfl) (by kernel_rfl) (by kernel_rfl) rfl rfl rfl (by decide) rfl) ?_
  refine wpS_quick 1 rfl ?_
  refine wpS_nil ?_
  refine QH_seq_k hK29 ?_
  refine wpC_seq_k (fun K hK30 => ?_)
  refine wpC_region ?_
  refine wpS_quick 1 rfl ?_
  refine wpS_in rfl rfl rfl rfl (by kernel_rfl) rfl ?_
  show Calls _ _ #[_] _ _
  refine gw_enter1 Try.func75 rfl Try.ntmps75 rfl ?_
  refine wpC_seq_k (fun K hK31 => ?_)
  refine wpC_region ?_
  refine wpS_quick 1 rfl ?_
  refine wpS_nil ?_
  refine QH_seq_k hK31 ?_
  refine wpC_seq_k (fun K hK32 => ?_)
  refine wpC_region ?_
  refine wpS_put rfl rfl rfl (yv_fieldAddr fo_30_2 rfl) ?_
  refine wpS_put rfl rfl rfl (yv_load_box sc_5 rfl (RW.here _) hS hs1 trivial sg2_1) ?_
  refine wpS_put rfl rfl rfl (yv_leq rfl rfl) ?_
  refine wpS_quick 1 rfl ?_
  refine wpS_case 5 rfl (fun hb => ?_) (fun hb => ?_)
  rotate_left
  · replace H := cond_f H hb
    refine wpS_quick 10 rfl ?_
    refine wpS_nil ?_
    refine QH_seq_k hK32 ?_
    refine wpC_ret ?_
    refine QH_ret rfl (RV.tmp rfl RV.nil) rfl ?_
    refine ⟨_, rfl, ?_⟩
    refine wpS_put rfl rfl rfl (yv_not rfl) ?_
    refine wpS_nil ?_
    refine QH_seq_k hK30 ?_
    refine wpC_cond_t rfl rfl ?_
    refine wpC_seq_k (fun K hK122 => ?_)
    refine wpC_region ?_
    refine wpS_quick 1 rfl ?_
    refine wpS_nil ?_
    refine QH_seq_k hK122 ?_
    refine wpC_ret ?_
    refine QH_block_ret ?_
    refine QH_then_ret ?_
    refine QH_then_ret ?_
    refine QH_block_ret ?_
    refine QH_then_ret ?_
    refine QH_ret rfl (RV.tmp rfl RV.nil) rfl ?_
    obtain rfl := Option.some.inj H
    replace hS := hS.cut 0
    exact ⟨rfl, hS⟩
  replace H := cond_t H hb
  refine wpS_put rfl rfl rfl (yv_fieldAddr fo_30_3 rfl) ?_
  refine wpS_put rfl rfl rfl (yv_load_box sc_3 rfl (RW.here _) hS hs1 trivial sg3_1) ?_
  obtain ⟨r34, hm35, H⟩ := bind_some H
  refine wpS_call rfl rfl rfl rfl (by kernel_rfl) rfl (c_msg_within x0.binary 1 2 _ hm35) ?_
  rintro e w ⟨rfl, hN⟩; refine ⟨_, rfl, ?_⟩; have hB := hN.pure; have hS := hS.join hN; clear hN
  refine wpS_quick 2 rfl ?_
  refine wpS_case 10 rfl (fun hb => ?_) (fun hb => ?_)
  rotate_left
  · replace H := cond_f H hb
    refine wpS_quick 5 rfl ?_
    refine wpS_nil ?_
    refine QH_seq_k hK32 ?_
    refine wpC_ret ?_
    refine QH_ret rfl (RV.tmp rfl RV.nil) rfl ?_
    refine ⟨_, rfl, ?_⟩
    refine wpS_put rfl rfl rfl (yv_not rfl) ?_
    refine wpS_nil ?_
    refine QH_seq_k hK30 ?_
    refine wpC_cond_t rfl rfl ?_
    refine wpC_seq_k (fun K hK120 => ?_)
    refine wpC_region ?_
    refine wpS_quick 1 rfl ?_
    refine wpS_nil ?_
    refine QH_seq_k hK120 ?_
    refine wpC_ret ?_
    refine QH_block_ret ?_
    refine QH_then_ret ?_
    refine QH_then_ret ?_
    refine QH_block_ret ?_
    refine QH_then_ret ?_
    refine QH_ret rfl (RV.tmp rfl RV.nil) rfl ?_
    obtain rfl := Option.some.inj H
    replace hS := hS.cut 0
    exact ⟨rfl, hS⟩
  replace H := cond_t H hb
  refine wpS_put rfl rfl rfl (yv_fieldAddr fo_30_4 rfl) ?_
  refine wpS_put rfl rfl rfl (yv_load_boxA ag_26 rfl (RW.here _) hS hs1 trivial sg4_8) ?_
  obtain ⟨r37, hm38, H⟩ := bind_some H
  refine wpS_call rfl rfl rfl rfl (by kernel_rfl) rfl (c_tuple_Right x0.tuple A0_ c0_ _ (SlI.of_rd s0_.k (hS.rd0 s0_.rd) (hS.blk0 s0_.blk)) hm38) ?_
  rintro e w ⟨rfl, hN⟩; refine ⟨_, rfl, ?_⟩; have hB := hN.pure; have hS := hS.join hN; clear hN
  refine wpS_quick 2 rfl ?_
  refine wpS_nil ?_
  refine QH_seq_k hK32 ?_
  refine wpC_ret ?_
  refine QH_ret rfl (RV.tmp rfl RV.nil) rfl ?_
  refine ⟨_, rfl, ?_⟩
  refine wpS_put rfl rfl rfl (yv_not rfl) ?_
  refine wpS_nil ?_
  refine QH_seq_k hK30 ?_
  refine wpC_cond rfl (fun hb => ?_) (fun hb => ?_)
  · replace H := cond_t H hb
    refine wpC_seq_k (fun K hK40 => ?_)
    refine wpC_region ?_
    refine wpS_quick 1 rfl ?_
    refine wpS_nil ?_
    refine QH_seq_k hK40 ?_
    refine wpC_ret ?_
    refine QH_block_ret ?_
    refine QH_then_ret ?_
    refine QH_then_ret ?_
    refine QH_block_ret ?_
    refine QH_then_ret ?_
    refine QH_ret rfl (RV.tmp rfl RV.nil) rfl ?_
    obtain rfl := Option.some.inj H
    replace hS := hS.cut 0
    exact ⟨rfl, hS⟩
  replace H := cond_f H hb
  refine wpC_skip ?_
  refine QH_block_normal ?_
  refine QH_seq_k hK28 ?_
  refine wpC_region ?_
  refine wpS_put rfl rfl rfl (yx_add rfl rfl) ?_
  refine wpS_quick 1 rfl ?_
  refine wpS_nil ?_
  refine QH_more ?_
  refine wpC_seq_k (fun K hK42 => ?_)
  refine wpC_region ?_
  refine wpS_put rfl rfl rfl (yv_lss rfl rfl) ?_
  refine wpS_nil ?_
  refine QH_seq_k hK42 ?_
  refine wpC_seq_k (fun K hK43 => ?_)
  refine wpC_cond_t rfl rfl ?_
  refine wpC_skip ?_
  refine QH_seq_k hK43 ?_
  refine wpC_seq_k (fun K hK44 => ?_)
  refine wpC_block ?_
  refine wpC_seq_k (fun K hK45 => ?_)
  refine wpC_region ?_
  refine wpS_put rfl rfl rfl (yx_index (n := 6) (e := 34) (j := 2) (by kernel_rfl) (by kernel_rfl) (by kernel_rfl) rfl rfl rfl (by decide) rfl) ?_
  refine wpS_quick 1 rfl ?_
  refine wpS_nil ?_
  refine QH_seq_k hK45 ?_
  refine wpC_seq_k (fun K hK46 => ?_)
  refine wpC_region ?_
  refine wpS_quick 1 rfl ?_
  refine wpS_in rfl rfl rfl rfl (by kernel_rfl) rfl ?_
  show Calls _ _ #[_] _ _
  refine gw_enter1 Try.func77 rfl Try.ntmps77 rfl ?_
  refine wpC_seq_k (fun K hK47 => ?_)
  refine wpC_region ?_
  refine wpS_quick 1 rfl ?_
  refine wpS_nil ?_
  refine QH_seq_k hK47 ?_
  refine wpC_seq_k (fun K hK48 => ?_)
  refine wpC_region ?_
  refine wpS_put rfl rfl rfl (yv_fieldAddr fo_30_4 rfl) ?_
  refine wpS_put rfl rfl rfl (yv_load_boxA ag_26 rfl (RW.here _) hS hs1 trivial sg4_8) ?_
  refine wpS_put rfl rfl rfl (yv_fieldAddr fo_30_5 rfl) ?_
  refine wpS_put rfl rfl rfl (yv_load_box sc_3 rfl (RW.here _) hS hs1 trivial sg12_1) ?_
  obtain ⟨r49, hm50, H⟩ := bind_some H
  refine wpS_call rfl rfl rfl rfl (by kernel_rfl) rfl (c_tuple_State x0.tuple x0.commit A0_ c0_ _ (SlI.of_rd s0_.k (hS.rd0 s0_.rd) (hS.blk0 s0_.blk)) hm50) ?_
  rintro e w ⟨rfl, hN⟩; refine ⟨_, rfl, ?_⟩; have hB := hN.pure; have hS := hS.join hN; clear hN
  refine wpS_quick 1 rfl ?_
  refine wpS_put rfl rfl rfl (yv_extract rfl rfl) ?_
  refine wpS_put rfl rfl rfl (yv_extract rfl rfl) ?_
  refine wpS_alloc rfl rfl zc_23 hS (fun b51 w hS hB => ?_)
  refine wpS_store rfl rfl rfl CellsOf.agg hS ps0 st0_5 (by kernel_rfl) rfl (fun w hS hB => ?_)
  refine wpS_quick 1 rfl ?_
  refine wpS_nil ?_
  refine QH_seq_k hK48 ?_
  refine wpC_seq_k (fun K hK53 => ?_)
  refine wpC_region ?_
  refine wpS_quick 2 rfl ?_
  refine wpS_case 13 rfl (fun hb => ?_) (fun hb => ?_)
  rotate_left
  · replace H := cond_f H hb
    refine wpS_quick 6 rfl ?_
    refine wpS_nil ?_
    refine QH_seq_k hK53 ?_
    refine wpC_ret ?_
    refine QH_ret rfl (RV.tmp rfl RV.nil) rfl ?_
    refine ⟨_, rfl, ?_⟩
    refine wpS_put rfl rfl rfl (yv_not rfl) ?_
    refine wpS_nil ?_
    refine QH_seq_k hK46 ?_
    refine wpC_cond_t rfl rfl ?_
    refine wpC_seq_k (fun K hK118 => ?_)
    refine wpC_region ?_
    refine wpS_quick 1 rfl ?_
    refine wpS_nil ?_
    refine QH_seq_k hK118 ?_
    refine wpC_ret ?_
    refine QH_block_ret ?_
    refine QH_then_ret ?_
    refine QH_then_ret ?_
    refine QH_block_ret ?_
    refine QH_then_ret ?_
    refine QH_ret rfl (RV.tmp rfl RV.nil) rfl ?_
    obtain rfl := Option.some.inj H
    replace hS := hS.cut 0
    exact ⟨rfl, hS⟩
  replace H := cond_t H hb
  refine wpS_put rfl rfl rfl (yv_load_boxA ag_23 rfl (RW.here _) hS hs0 trivial sg0_5) ?_
  refine wpS_put rfl rfl rfl (yv_fieldAddr fo_30_6 rfl) ?_
  refine wpS_put rfl rfl rfl (yv_load_boxA ag_23 rfl (RW.here _) hS hs2 trivial sg13_5) ?_
  refine wpS_put rfl rfl rfl (yv_eqlS (by kernel_rfl) rfl rfl (eqT_23 _ _ _ _ _ _ _ _ _ _)) ?_
  refine wpS_quick 2 rfl ?_
  refine wpS_nil ?_
  refine QH_seq_k hK53 ?_
  refine wpC_ret ?_
  refine QH_ret rfl (RV.tmp rfl RV.nil) rfl ?_
  refine ⟨_, rfl, ?_⟩
  refine wpS_put rfl rfl rfl (yv_not rfl) ?_
  refine wpS_nil ?_
  refine QH_seq_k hK46 ?_
  refine wpC_cond rfl (fun hb => ?_) (fun hb => ?_)
  · replace H := cond_t H hb
    refine wpC_seq_k (fun K hK56 => ?_)
    refine wpC_region ?_
    refine wpS_quick 1 rfl ?_
    refine wpS_nil ?_
    refine QH_seq_k hK56 ?_
    refine wpC_ret ?_
    refine QH_block_ret ?_
    refine QH_then_ret ?_
    refine QH_then_ret ?_
    refine QH_block_ret ?_
    refine QH_then_ret ?_
    refine QH_ret rfl (RV.tmp rfl RV.nil) rfl ?_
    obtain rfl := Option.some.inj H
    replace hS := hS.cut 0
    exact ⟨rfl, hS⟩
  replace H := cond_f H hb
  refine wpC_skip ?_
  refine QH_block_normal ?_
  refine QH_seq_k hK44 ?_
  refine wpC_region ?_
  refine wpS_put rfl rfl rfl (yx_add rfl rfl) ?_
  refine wpS_quick 1 rfl ?_
  refine wpS_nil ?_
  refine QH_more ?_
  refine wpC_seq_k (fun K hK58 => ?_)
  refine wpC_region ?_
  refine wpS_put rfl rfl rfl (yv_lss rfl rfl) ?_
  refine wpS_nil ?_
  refine QH_seq_k hK58 ?_
  refine wpC_seq_k (fun K hK59 => ?_)
  refine wpC_cond_t rfl rfl ?_
  refine wpC_skip ?_
  refine QH_seq_k hK59 ?_
  refine wpC_seq_k (fun K hK60 => ?_)
  refine wpC_block ?_
  refine wpC_seq_k (fun K hK61 => ?_)
  refine wpC_region ?_
  refine wpS_put rfl rfl rfl (yx_index (n := 6) (e := 34) (j := 3) (by kernel_rfl) (by kernel_rfl) (by kernel_rfl) rfl rfl rfl (by decide) rfl) ?_
  refine wpS_quick 1 rfl ?_
  refine wpS_nil ?_
  refine QH_seq_k hK61 ?_
  refine wpC_seq_k (fun K hK62 => ?_)
  refine wpC_region ?_
  refine wpS_quick 1 rfl ?_
  refine wpS_in rfl rfl rfl rfl (by kernel_rfl) rfl ?_
  show Calls _ _ #[_, _] _ _
  refine gw_enter2 Try.func78 rfl Try.ntmps78 rfl ?_
  refine wpC_seq_k (fun K hK63 => ?_)
  refine wpC_region ?_
  refine wpS_quick 1 rfl ?_
  refine wpS_nil ?_
  refine QH_seq_k hK63 ?_
  refine wpC_seq_k (fun K hK64 => ?_)
  refine wpC_region ?_
  refine wpS_put rfl rfl rfl (yv_fieldAddr fo_30_7 rfl) ?_
  refine wpS_put rfl rfl rfl (yv_load_box sc_27 rfl (RW.here _) hS hs2 trivial sg18_1) ?_
  refine wpS_put rfl rfl rfl (yv_len el_27 rfl) ?_
  refine wpS_put rfl rfl rfl (yv_fieldAddr fo_30_1 rfl) ?_
  refine wpS_put rfl rfl rfl (yv_load_box sc_3 rfl (RW.here _) hS hs2 trivial sg1_1) ?_
  refine wpS_put rfl rfl rfl (yv_eql rfl rfl) ?_
  refine wpS_quick 1 rfl ?_
  refine wpS_case 9 rfl (fun hb => ?_) (fun hb => ?_)
  rotate_left
  · replace H := cond_f H hb
    refine wpS_quick 17 rfl ?_
    refine wpS_nil ?_
    refine QH_seq_k hK64 ?_
    refine wpC_ret ?_
    refine QH_ret rfl (RV.tmp rfl RV.nil) rfl ?_
    refine ⟨_, rfl, ?_⟩
    refine wpS_put rfl rfl rfl (yv_not rfl) ?_
    refine wpS_nil ?_
    refine QH_seq_k hK62 ?_
    refine wpC_cond_t rfl rfl ?_
    refine wpC_seq_k (fun K hK116 => ?_)
    refine wpC_region ?_
    refine wpS_quick 1 rfl ?_
    refine wpS_nil ?_
    refine QH_seq_k hK116 ?_
    refine wpC_ret ?_
    refine QH_block_ret ?_
    refine QH_then_ret ?_
    refine QH_then_ret ?_
    refine QH_block_ret ?_
    refine QH_then_ret ?_
    refine QH_ret rfl (RV.tmp rfl RV.nil) rfl ?_
    obtain rfl := Option.some.inj H
    replace hS := hS.cut 0
    exact ⟨rfl, hS⟩
  replace H := cond_t H hb
  refine wpS_put rfl rfl rfl (yv_fieldAddr fo_30_8 rfl) ?_
  refine wpS_put rfl rfl rfl (yv_load_box sc_28 rfl (RW.here _) hS hs2 trivial sg19_1) ?_
  refine wpS_put rfl rfl rfl (yv_fieldAddr fo_30_1 rfl) ?_
  refine wpS_put rfl rfl rfl (yv_load_box sc_3 rfl (RW.here _) hS hs2 trivial sg1_1) ?_
  refine wpS_put rfl rfl rfl (yv_load_box sc_3 rfl (RW.here _) hS hs1 trivial sg0_1) ?_
  refine wpS_put rfl rfl rfl (yx_add rfl rfl) ?_
  obtain ⟨r66, hm67, H⟩ := bind_some H
  refine wpS_call rfl rfl rfl rfl (by kernel_rfl) rfl (c_msg_each x0.next x0.n 1 (IntKind.wrap .i64 (r5 + 1)) A2_ c2_ _ (SlI.of_rd s2_.k (hS.rd0 s2_.rd) (hS.blk0 s2_.blk)) hm67) ?_
  rintro e w ⟨rfl, hN⟩; refine ⟨_, rfl, ?_⟩; have hB := hN.pure; have hS := hS.join hN; clear hN
  refine wpS_quick 2 rfl ?_
  refine wpS_case 18 rfl (fun hb => ?_) (fun hb => ?_)
  rotate_left
  · replace H := cond_f H hb
    refine wpS_quick 8 rfl ?_
    refine wpS_nil ?_
    refine QH_seq_k hK64 ?_
    refine wpC_ret ?_
    refine QH_ret rfl (RV.tmp rfl RV.nil) rfl ?_
    refine ⟨_, rfl, ?_⟩
    refine wpS_put rfl rfl rfl (yv_not rfl) ?_
    refine wpS_nil ?_
    refine QH_seq_k hK62 ?_
    refine wpC_cond_t rfl rfl ?_
    refine wpC_seq_k (fun K hK114 => ?_)
    refine wpC_region ?_
    refine wpS_quick 1 rfl ?_
    refine wpS_nil ?_
    refine QH_seq_k hK114 ?_
    refine wpC_ret ?_
    refine QH_block_ret ?_
    refine QH_then_ret ?_
    refine QH_then_ret ?_
    refine QH_block_ret ?_
    refine QH_then_ret ?_
    refine QH_ret rfl (RV.tmp rfl RV.nil) rfl ?_
    obtain rfl := Option.some.inj H
    replace hS := hS.cut 0
    exact ⟨rfl, hS⟩
  replace H := cond_t H hb
  refine wpS_put rfl rfl rfl (yv_fieldAddr fo_30_9 rfl) ?_
  refine wpS_put rfl rfl rfl (yv_load_box sc_28 rfl (RW.here _) hS hs2 trivial sg20_1) ?_
  refine wpS_put rfl rfl rfl (yv_fieldAddr fo_30_1 rfl) ?_
  refine wpS_put rfl rfl rfl (yv_load_box sc_3 rfl (RW.here _) hS hs2 trivial sg1_1) ?_
  refine wpS_put rfl rfl rfl (yv_load_box sc_3 rfl (RW.here _) hS hs1 trivial sg0_1) ?_
  obtain ⟨r69, hm70, H⟩ := bind_some H
  refine wpS_call rfl rfl rfl rfl (by kernel_rfl) rfl (c_msg_each x0.mtch x0.n 0 r5 A3_ c3_ _ (SlI.of_rd s3_.k (hS.rd0 s3_.rd) (hS.blk0 s3_.blk)) hm70) ?_
  rintro e w ⟨rfl, hN⟩; refine ⟨_, rfl, ?_⟩; have hB := hN.pure; have hS := hS.join hN; clear hN
  refine wpS_quick 2 rfl ?_
  refine wpS_nil ?_
  refine QH_seq_k hK64 ?_
  refine wpC_ret ?_
  refine QH_ret rfl (RV.tmp rfl RV.nil) rfl ?_
  refine ⟨_, rfl, ?_⟩
  refine wpS_put rfl rfl rfl (yv_not rfl) ?_
  refine wpS_nil ?_
  refine QH_seq_k hK62 ?_
  refine wpC_cond rfl (fun hb => ?_) (fun hb => ?_)
  · replace H := cond_t H hb
    refine wpC_seq_k (fun K hK72 => ?_)
    refine wpC_region ?_
    refine wpS_quick 1 rfl ?_
    refine wpS_nil ?_
    refine QH_seq_k hK72 ?_
    refine wpC_ret ?_
    refine QH_block_ret ?_
    refine QH_then_ret ?_
    refine QH_then_ret ?_
    refine QH_block_ret ?_
    refine QH_then_ret ?_
    refine QH_ret rfl (RV.tmp rfl RV.nil) rfl ?_
    obtain rfl := Option.some.inj H
    replace hS := hS.cut 0
    exact ⟨rfl, hS⟩
  replace H := cond_f H hb
  refine wpC_skip ?_
  refine QH_block_normal ?_
  refine QH_seq_k hK60 ?_
  refine wpC_region ?_
  refine wpS_put rfl rfl rfl (yx_add rfl rfl) ?_
  refine wpS_quick 1 rfl ?_
  refine wpS_nil ?_
  refine QH_more ?_
  refine wpC_seq_k (fun K hK74 => ?_)
  refine wpC_region ?_
  refine wpS_put rfl rfl rfl (yv_lss rfl rfl) ?_
  refine wpS_nil ?_
  refine QH_seq_k hK74 ?_
  refine wpC_seq_k (fun K hK75 => ?_)
  refine wpC_cond_t rfl rfl ?_
  refine wpC_skip ?_
  refine QH_seq_k hK75 ?_
  refine wpC_seq_k (fun K hK76 => ?_)
  refine wpC_block ?_
  refine wpC_seq_k (fun K hK77 => ?_)
  refine wpC_region ?_
  refine wpS_put rfl rfl rfl (yx_index (n := 6) (e := 34) (j := 4) (by kernel_rfl) (by kernel_rfl) (by kernel_rfl) rfl rfl rfl (by decide) rfl) ?_
  refine wpS_quick 1 rfl ?_
  refine wpS_nil ?_
  refine QH_seq_k hK77 ?_
  refine wpC_seq_k (fun K hK78 => ?_)
  refine wpC_region ?_
  refine wpS_quick 1 rfl ?_
  refine wpS_in rfl rfl rfl rfl (by kernel_rfl) rfl ?_
  show Calls _ _ #[_] _ _
  refine gw_enter1 Try.func80 rfl Try.ntmps80 rfl ?_
  refine wpC_seq_k (fun K hK79 => ?_)
  refine wpC_region ?_
  refine wpS_quick 1 rfl ?_
  refine wpS_nil ?_
  refine QH_seq_k hK79 ?_
  refine wpC_seq_k (fun K hK80 => ?_)
  refine wpC_draw 18 [] (fun _ _ => True) ⟨by kernel_rfl, by kernel_rfl⟩ hS (fun w hS hB => ?_)
  refine wpR_batch [true, true, true, true] (by decide +kernel) (by repeat (first | exact PF.body | exact PF.round | apply PF.then | apply PF.inBlock | apply PF.jump)) ?_
  refine LtK.put rfl rfl rfl (yv_fieldAddr fo_30_10 rfl) ?_
  refine LtK.put rfl rfl rfl (yv_load_box sc_28 rfl (RW.below _) hS hs2 trivial sg21_1) ?_
  refine LtK.put rfl rfl rfl (yv_fieldAddr fo_30_1 rfl) ?_
  refine LtK.put rfl rfl rfl (yv_load_box sc_3 rfl (RW.below _) hS hs2 trivial sg1_1) ?_
  refine LtK.nil ?_
  refine wpR_call [false, false, false, false, true] 4 ⟨by decide, by kernel_rfl, by kernel_rfl⟩ rfl rfl ?_
  try dsimp only [pickL]
  obtain ⟨r81, hm82, H⟩ := bind_some H
  refine wpS_call rfl rfl rfl rfl (by kernel_rfl) rfl (c_msg_each x0.caps x0.n 0 2 A4_ c4_ _ (SlI.of_rd s4_.k (hS.rd0 s4_.rd) (hS.blk0 s4_.blk)) hm82) ?_
  rintro e w ⟨rfl, hN⟩; refine ⟨_, rfl, ?_⟩; have hB := hN.pure; have hS := hS.join hN; clear hN
  refine wpS_nil ?_
  refine QH_step hB ?_
  refine wpR_batch [false, false, false, false, false, true] (by decide +kernel) (by repeat (first | exact PF.body | exact PF.round | apply PF.then | apply PF.inBlock | apply PF.jump)) ?_
  refine LtK.put rfl rfl rfl (yv_move rfl) ?_
  refine LtK.nil ?_
  refine wpR_case 7 rfl (fun hb => ?_) (fun hb => ?_)
  rotate_left
  · replace H := cond_f H hb
    refine wpR_batch [false, false, false, false, false, false, true, true, true, true, true, true, true, true, true, true, true, true] (by decide +kernel) (by repeat (first | exact PF.body | exact PF.round | apply PF.then | apply PF.inBlock | apply PF.jump)) ?_
    refine LtK.skip rfl rfl rfl ?_
    refine LtK.skip rfl rfl rfl ?_
    refine LtK.skip rfl rfl rfl ?_
    refine LtK.skip rfl rfl rfl ?_
    refine LtK.skip rfl rfl rfl ?_
    refine LtK.skip rfl rfl rfl ?_
    refine LtK.skip rfl rfl rfl ?_
    refine LtK.skip rfl rfl rfl ?_
    refine LtK.skip rfl rfl rfl ?_
    refine LtK.skip rfl rfl rfl ?_
    refine LtK.put rfl rfl rfl (yv_pick_f rfl rfl rfl) ?_
    refine LtK.put rfl rfl rfl (yv_assign rfl) ?_
    refine LtK.nil ?_
    refine wpR_end (by kernel_rfl) ?_
    refine QH_seq_k hK80 ?_
    refine wpC_ret ?_
    refine QH_ret rfl (RV.tmp rfl RV.nil) rfl ?_
    refine ⟨_, rfl, ?_⟩
    refine wpS_put rfl rfl rfl (yv_not rfl) ?_
    refine wpS_nil ?_
    refine QH_seq_k hK78 ?_
    refine wpC_cond_t rfl rfl ?_
    refine wpC_seq_k (fun K hK112 => ?_)
    refine wpC_region ?_
    refine wpS_quick 1 rfl ?_
    refine wpS_nil ?_
    refine QH_seq_k hK112 ?_
    refine wpC_ret ?_
    refine QH_block_ret ?_
    refine QH_then_ret ?_
    refine QH_then_ret ?_
    refine QH_block_ret ?_
    refine QH_then_ret ?_
    refine QH_ret rfl (RV.tmp rfl RV.nil) rfl ?_
    obtain rfl := Option.some.inj H
    replace hS := hS.cut 0
    exact ⟨rfl, hS⟩
  replace H := cond_t H hb
  refine wpR_batch [false, false, false, false, false, false, true, true, true, true, true, true, true, true, true, true, true, true] (by decide +kernel) (by repeat (first | exact PF.body | exact PF.round | apply PF.then | apply PF.inBlock | apply PF.jump)) ?_
  refine LtK.put rfl rfl rfl (yv_fieldAddr fo_30_10 rfl) ?_
  refine LtK.put rfl rfl rfl (yv_load_box sc_28 rfl (RW.below _) hS hs2 trivial sg21_1) ?_
  refine LtK.put rfl rfl rfl (yv_fieldAddr fo_30_0 rfl) ?_
  refine LtK.put rfl rfl rfl (yv_load_box sc_3 rfl (RW.below _) hS hs2 trivial sg0_1) ?_
  refine LtK.put rfl rfl rfl (yx_sub rfl rfl) ?_
  obtain ⟨e84, hi86, H⟩ := bind_some H
  obtain ⟨j85, hi86a, hi86b, hi86c⟩ := idx_some hi86
  refine LtK.put rfl rfl rfl (yx_idx el_28 rfl rfl hi86a hi86c (Rd.el (hS.rd0 s4_.rd) he_enI hi86b)) ?_
  refine LtK.put rfl rfl rfl (yx_ld0 sc_3 rfl (RW.below _) (Rd.el (hS.rd0 s4_.rd) he_enI hi86b) rfl) ?_
  refine LtK.put rfl rfl rfl (yv_fieldAddr fo_30_3 rfl) ?_
  refine LtK.put rfl rfl rfl (yv_load_box sc_3 rfl (RW.below _) hS hs2 trivial sg3_1) ?_
  refine LtK.put rfl rfl rfl (yv_eql rfl rfl) ?_
  refine LtK.put rfl rfl rfl (yv_pick_t rfl rfl rfl) ?_
  refine LtK.put rfl rfl rfl (yv_assign rfl) ?_
  refine LtK.nil ?_
  refine wpR_end (by kernel_rfl) ?_
  refine QH_seq_k hK80 ?_
  refine wpC_ret ?_
  refine QH_ret rfl (RV.tmp rfl RV.nil) rfl ?_
  refine ⟨_, rfl, ?_⟩
  refine wpS_put rfl rfl rfl (yv_not rfl) ?_
  refine wpS_nil ?_
  refine QH_seq_k hK78 ?_
  refine wpC_cond rfl (fun hb => ?_) (fun hb => ?_)
  · replace H := cond_t H hb
    refine wpC_seq_k (fun K hK88 => ?_)
    refine wpC_region ?_
    refine wpS_quick 1 rfl ?_
    refine wpS_nil ?_
    refine QH_seq_k hK88 ?_
    refine wpC_ret ?_
    refine QH_block_ret ?_
    refine QH_then_ret ?_
    refine QH_then_ret ?_
    refine QH_block_ret ?_
    refine QH_then_ret ?_
    refine QH_ret rfl (RV.tmp rfl RV.nil) rfl ?_
    obtain rfl := Option.some.inj H
    replace hS := hS.cut 0
    exact ⟨rfl, hS⟩
  replace H := cond_f H hb
  refine wpC_skip ?_
  refine QH_block_normal ?_
  refine QH_seq_k hK76 ?_
  refine wpC_region ?_
  refine wpS_put rfl rfl rfl (yx_add rfl rfl) ?_
  refine wpS_quick 1 rfl ?_
  refine wpS_nil ?_
  refine QH_more ?_
  refine wpC_seq_k (fun K hK90 => ?_)
  refine wpC_region ?_
  refine wpS_put rfl rfl rfl (yv_lss rfl rfl) ?_
  refine wpS_nil ?_
  refine QH_seq_k hK90 ?_
  refine wpC_seq_k (fun K hK91 => ?_)
  refine wpC_cond_t rfl rfl ?_
  refine wpC_skip ?_
  refine QH_seq_k hK91 ?_
  refine wpC_seq_k (fun K hK92 => ?_)
  refine wpC_block ?_
  refine wpC_seq_k (fun K hK93 => ?_)
  refine wpC_region ?_
  refine wpS_put rfl rfl rfl (yx_index (n := 6) (e := 34) (j := 5) (by kernel_rfl) (by kernel_rfl) (by kernel_rfl) rfl rfl rfl (by decide) rfl) ?_
  refine wpS_quick 1 rfl ?_
  refine wpS_nil ?_
  refine QH_seq_k hK93 ?_
  refine wpC_seq_k (fun K hK94 => ?_)
  refine wpC_region ?_
  refine wpS_quick 1 rfl ?_
  refine wpS_in rfl rfl rfl rfl (by kernel_rfl) rfl ?_
  show Calls _ _ #[_] _ _
  refine gw_enter1 Try.func81 rfl Try.ntmps81 rfl ?_
  refine wpC_seq_k (fun K hK95 => ?_)
  refine wpC_region ?_
  refine wpS_quick 1 rfl ?_
  refine wpS_nil ?_
  refine QH_seq_k hK95 ?_
  refine wpC_seq_k (fun K hK96 => ?_)
  refine wpC_region ?_
  refine wpS_put rfl rfl rfl (yv_fieldAddr fo_30_2 rfl) ?_
  refine wpS_put rfl rfl rfl (yv_load_box sc_5 rfl (RW.here _) hS hs2 trivial sg2_1) ?_
  refine wpS_put rfl rfl rfl (yv_eql rfl rfl) ?_
  refine wpS_quick 1 rfl ?_
  refine wpS_case 5 rfl (fun hb => ?_) (fun hb => ?_)
  · replace H := cond_t H hb
    refine wpS_quick 14 rfl ?_
    refine wpS_nil ?_
    refine QH_seq_k hK96 ?_
    refine wpC_ret ?_
    refine QH_ret rfl (RV.tmp rfl RV.nil) rfl ?_
    refine ⟨_, rfl, ?_⟩
    refine wpS_put rfl rfl rfl (yv_not rfl) ?_
    refine wpS_nil ?_
    refine QH_seq_k hK94 ?_
    refine wpC_cond_f rfl rfl ?_
    refine wpC_skip ?_
    refine QH_block_normal ?_
    refine QH_seq_k hK92 ?_
    refine wpC_region ?_
    refine wpS_put rfl rfl rfl (yx_add rfl rfl) ?_
    refine wpS_quick 1 rfl ?_
    refine wpS_nil ?_
    refine QH_more ?_
    refine wpC_seq_k (fun K hK98 => ?_)
    refine wpC_region ?_
    refine wpS_put rfl rfl rfl (yv_lss rfl rfl) ?_
    refine wpS_nil ?_
    refine QH_seq_k hK98 ?_
    refine wpC_seq_k (fun K hK99 => ?_)
    refine wpC_cond_f rfl rfl ?_
    refine wpC_exit ?_
    refine QH_then_exit ?_
    refine QH_then_exit ?_
    refine QH_block_hit ?_
    refine QH_seq_k hK9 ?_
    refine wpC_seq_k (fun K hK100 => ?_)
    refine wpC_region ?_
    refine wpS_quick 1 rfl ?_
    refine wpS_nil ?_
    refine QH_seq_k hK100 ?_
    refine wpC_ret ?_
    refine QH_ret rfl (RV.tmp rfl RV.nil) rfl ?_
    obtain rfl := Option.some.inj H
    replace hS := hS.cut 0
    exact ⟨rfl, hS⟩
  replace H := cond_f H hb
  refine wpS_put rfl rfl rfl (yv_fieldAddr fo_30_4 rfl) ?_
  refine wpS_put rfl rfl rfl (yv_fieldAddr fo_26_2 rfl) ?_
  refine wpS_put rfl rfl rfl (yv_load_box sc_3 rfl (RW.here _) hS hs2 trivial sg10_1) ?_
  refine wpS_put rfl rfl rfl (yv_gtr rfl rfl) ?_
  refine wpS_quick 1 rfl ?_
  refine wpS_case 10 rfl (fun hb => ?_) (fun hb => ?_)
  rotate_left
  · replace H := cond_f H hb
    refine wpS_quick 9 rfl ?_
    refine wpS_nil ?_
    refine QH_seq_k hK96 ?_
    refine wpC_ret ?_
    refine QH_ret rfl (RV.tmp rfl RV.nil) rfl ?_
    refine ⟨_, rfl, ?_⟩
    refine wpS_put rfl rfl rfl (yv_not rfl) ?_
    refine wpS_nil ?_
    refine QH_seq_k hK94 ?_
    refine wpC_cond_t rfl rfl ?_
    refine wpC_seq_k (fun K hK110 => ?_)
    refine wpC_region ?_
    refine wpS_quick 1 rfl ?_
    refine wpS_nil ?_
    refine QH_seq_k hK110 ?_
    refine wpC_ret ?_
    refine QH_block_ret ?_
    refine QH_then_ret ?_
    refine QH_then_ret ?_
    refine QH_block_ret ?_
    refine QH_then_ret ?_
    refine QH_ret rfl (RV.tmp rfl RV.nil) rfl ?_
    obtain rfl := Option.some.inj H
    replace hS := hS.cut 0
    exact ⟨rfl, hS⟩
  replace H := cond_t H hb
  refine wpS_put rfl rfl rfl (yv_fieldAddr fo_30_4 rfl) ?_
  refine wpS_put rfl rfl rfl (yv_fieldAddr fo_26_3 rfl) ?_
  refine wpS_put rfl rfl rfl (yv_load_box sc_3 rfl (RW.here _) hS hs2 trivial sg11_1) ?_
  refine wpS_put rfl rfl rfl (yv_fieldAddr fo_30_0 rfl) ?_
  refine wpS_put rfl rfl rfl (yv_load_box sc_3 rfl (RW.here _) hS hs2 trivial sg0_1) ?_
  refine wpS_put rfl rfl rfl (yv_eql rfl rfl) ?_
  refine wpS_quick 3 rfl ?_
  refine wpS_nil ?_
  refine QH_seq_k hK96 ?_
  refine wpC_ret ?_
  refine QH_ret rfl (RV.tmp rfl RV.nil) rfl ?_
  refine ⟨_, rfl, ?_⟩
  refine wpS_put rfl rfl rfl (yv_not rfl) ?_
  refine wpS_nil ?_
  refine QH_seq_k hK94 ?_
  refine wpC_cond rfl (fun hb => ?_) (fun hb => ?_)
  · replace H := cond_t H hb
    refine wpC_seq_k (fun K hK104 => ?_)
    refine wpC_region ?_
    refine wpS_quick 1 rfl ?_
    refine wpS_nil ?_
    refine QH_seq_k hK104 ?_
    refine wpC_ret ?_
    refine QH_block_ret ?_
    refine QH_then_ret ?_
    refine QH_then_ret ?_
    refine QH_block_ret ?_
    refine QH_then_ret ?_
    refine QH_ret rfl (RV.tmp rfl RV.nil) rfl ?_
    obtain rfl := Option.some.inj H
    replace hS := hS.cut 0
    exact ⟨rfl, hS⟩
  replace H := cond_f H hb
  refine wpC_skip ?_
  refine QH_block_normal ?_
  refine QH_seq_k hK92 ?_
  refine wpC_region ?_
  refine wpS_put rfl rfl rfl (yx_add rfl rfl) ?_
  refine wpS_quick 1 rfl ?_
  refine wpS_nil ?_
  refine QH_more ?_
  refine wpC_seq_k (fun K hK106 => ?_)
  refine wpC_region ?_
  refine wpS_put rfl rfl rfl (yv_lss rfl rfl) ?_
  refine wpS_nil ?_
  refine QH_seq_k hK106 ?_
  refine wpC_seq_k (fun K hK107 => ?_)
  refine wpC_cond_f rfl rfl ?_
  refine wpC_exit ?_
  refine QH_then_exit ?_
  refine QH_then_exit ?_
  refine QH_block_hit ?_
  refine QH_seq_k hK9 ?_
  refine wpC_seq_k (fun K hK108 => ?_)
  refine wpC_region ?_
  refine wpS_quick 1 rfl ?_
  refine wpS_nil ?_
  refine QH_seq_k hK108 ?_
  refine wpC_ret ?_
  refine QH_ret rfl (RV.tmp rfl RV.nil) rfl ?_
  obtain rfl := Option.some.inj H
  replace hS := hS.cut 0
  exact ⟨rfl, hS⟩
theorem c_elect_votes (x0 : List Bool) (A0_ : Option Addr) (c0_ : Nat) (w0 : World) (s0_ : SlI w0 enO A0_ c0_ x0) : Calls Try.prog 67 #[.slice A0_ x0.length c0_] w0 fun e w' => ∃ (b0_ : Nat), e = .returned (.func (.func 102) #[] #[.pointer (some ⟨b0_, 0, none⟩)]) ∧ St0 All w0 w' [.box b0_ [.slice A0_ x0.length c0_] 27] := by
  refine gw_enter1 Try.func67 rfl Try.ntmps67 rfl ?_
  have hS := St0.start All w0
  refine wpC_seq_k (fun K hK1 => ?_)
  refine wpC_region ?_
  refine wpS_box rfl rfl rfl CellsOf.slice hS (fun b2 w hS hB => ?_)
  refine wpS_quick 1 rfl ?_
  refine wpS_nil ?_
  refine QH_seq_k hK1 ?_
  refine wpC_seq_k (fun K hK4 => ?_)
  refine wpC_region ?_
  refine wpS_put rfl rfl rfl (yv_makeFunc rfl rfl) ?_
  refine wpS_quick 1 rfl ?_
  refine wpS_nil ?_
  refine QH_seq_k hK4 ?_
  refine wpC_ret ?_
  refine QH_ret rfl (RV.tmp rfl RV.nil) rfl ?_
  exact ⟨b2, rfl, hS.sub (List.Sublist.cons_cons _ List.Sublist.slnil)⟩
theorem c_elect_Half (x0 : List Bool) (A0_ : Option Addr) (c0_ : Nat) (w0 : World) (s0_ : SlI w0 enO A0_ c0_ x0) {r : Bool} (H : m_elect_Half x0 = some r) : Calls Try.prog 35 #[.slice A0_ x0.length c0_] w0 fun e w' => e = .returned (.bool r) ∧ St0 All w0 w' [] := by
  unfold m_elect_Half at H
  refine gw_enter1 Try.func35 rfl Try.ntmps35 rfl ?_
  have hS := St0.start All w0
  refine wpC_seq_k (fun K hK1 => ?_)
  refine wpC_region ?_
  refine wpS_quick 1 rfl ?_
  refine wpS_nil ?_
  refine QH_seq_k hK1 ?_
  refine wpC_seq_k (fun K hK2 => ?_)
  refine wpC_region ?_
  refine wpS_alloc rfl rfl zc_3 hS (fun b3 w hS hB => ?_)
  refine wpS_store rfl rfl rfl CellsOf.int hS ps0 st0_1 (by kernel_rfl) rfl (fun w hS hB => ?_)
  refine wpS_nil ?_
  refine QH_seq_k hK2 ?_
  refine wpC_seq_k (fun K hK5 => ?_)
  refine wpC_seq_k (fun K hK6 => ?_)
  refine wpC_region ?_
  refine wpS_quick 1 rfl ?_
  have hM7 := hS
  refine wpS_call rfl rfl rfl rfl (by kernel_rfl) rfl (c_elect_votes x0 A0_ c0_ _ (SlI.of_rd s0_.k (hS.rd0 s0_.rd) (hS.blk0 s0_.blk))) ?_
  rintro e w ⟨b9, rfl, hN8⟩; refine ⟨_, rfl, ?_⟩; have hB := hN8.pure; have hS := hS.join hN8
  refine wpS_nil ?_
  refine QH_seq_k hK6 ?_
  refine wpC_block ?_
  obtain ⟨xs13, hx14, H⟩ := bind_some H
  refine wpC_range (w0 := w0) (X := Int) rfl (by kernel_rfl) (it_votes x0 _ _ _ s0_ hM7.pure b9 hN8 hx14) ⟨hM7.size, hN8.size⟩ (fun _ => rfl) (by kernel_rfl) (fun k x => .box b3 [.int .i64 x] 3 :: []) (fun k x => m_elect_Half_r1 x0 (xs13.drop k) x = some r) (fun _ _ => []) (fun _ _ => False) (fun _ => False) 0 ⟨hS.sub (List.Sublist.cons _ (List.Sublist.cons_cons _ List.Sublist.slnil)), fun e he k hk => .inl (hM7.rng e he k hk).1⟩ H ?_ ?_ (fun _ _ _ h _ => h.elim) (fun _ _ h _ => h.elim)
  · rintro lo k e11 v12 A hke H hzB hRB hS
    dsimp only at hRB H ⊢
    rw [drop_of_get hke, m_elect_Half_r1] at H
    dsimp only [List.zip, List.zipWith, List.foldl]
    refine wpC_skip ?_
    refine QH_asg hS ?_
    rintro A2 hS hBase hE
    dsimp only [List.cons_append, List.nil_append] at hS
    refine wpC_block ?_
    refine wpC_regionR (by repeat (first | exact NL.round | exact NL.false | exact NL.body (by intro _ h; simp at h) | apply NL.then | apply NL.inBlock | apply NL.jump)) (by kernel_rfl) ?_
    refine wpS_put rfl rfl rfl (yv_load_box sc_3 rfl (RW.here _) hS hs0 trivial sg0_1) ?_
    refine wpS_put rfl rfl rfl (yx_add rfl rfl) ?_
    refine wpS_store rfl rfl rfl CellsOf.int hS ps0 st0_1 (by kernel_rfl) rfl (fun w hS hB => ?_)
    refine wpS_nil ?_
    refine QH_block_normal ?_
    exact QH_round hBase hE hS (IntKind.wrap .i64 (v12 + 1)) (List.Sublist.cons_cons _ List.Sublist.slnil) H
  · rintro v12 A H hS
    dsimp only at hS H ⊢
    rw [List.drop_length, m_elect_Half_r1] at H
    refine QH_block_normal ?_
    refine QH_seq_k hK5 ?_
    refine wpC_seq_k (fun K hK16 => ?_)
    refine wpC_region ?_
    refine wpS_put rfl rfl rfl (yv_load_box sc_3 rfl (RW.here _) hS hs1 trivial sg0_1) ?_
    refine wpS_put rfl rfl rfl (yx_mul rfl rfl) ?_
    refine wpS_quick 1 rfl ?_
    refine wpS_put rfl rfl rfl (yv_len el_27 rfl) ?_
    refine wpS_put rfl rfl rfl (yv_gtr rfl rfl) ?_
    refine wpS_quick 1 rfl ?_
    refine wpS_nil ?_
    refine QH_seq_k hK16 ?_
    refine wpC_ret ?_
    refine QH_shut (.inl rfl) hS ps0 (fun w hS => ?_)
    replace hS := hS.sub (List.Sublist.cons _ (List.Sublist.cons_cons _ List.Sublist.slnil))
    refine QH_ret rfl (RV.tmp rfl RV.nil) rfl ?_
    obtain rfl := Option.some.inj H
    replace hS := hS.cut 0
    exact ⟨rfl, hS⟩
theorem c_elect_Lead (x0 : Co) (A0_ : Option Addr) (c0_ : Nat) (A1_ : Option Addr) (c1_ : Nat) (A2_ : Option Addr) (c2_ : Nat) (A3_ : Option Addr) (c3_ : Nat) (A4_ : Option Addr) (c4_ : Nat) (w0 : World) (s0_ : SlI w0 enE A0_ c0_ x0.tuple.log) (s1_ : SlI w0 enO A1_ c1_ x0.votes) (s2_ : SlI w0 enI A2_ c2_ x0.next) (s3_ : SlI w0 enI A3_ c3_ x0.mtch) (s4_ : SlI w0 enI A4_ c4_ x0.caps) {r : Co} (H : m_elect_Lead x0 = some r) : Calls Try.prog 22 #[.agg #[.int .i64 x0.id, .int .i64 x0.n, .int .u8 x0.role, .int .i64 x0.binary, .int .i64 x0.tuple.snap.index, .int .i64 x0.tuple.snap.term, .int .i64 x0.tuple.snap.sum, .int .i64 x0.tuple.snap.level, .bool x0.tuple.snap.final, .slice A0_ x0.tuple.log.length c0_, .int .i64 x0.tuple.term, .int .i64 x0.tuple.vote, .int .i64 x0.commit, .int .i64 x0.applied.index, .int .i64 x0.applied.term, .int .i64 x0.applied.sum, .int .i64 x0.applied.level, .bool x0.applied.final, .slice A1_ x0.votes.length c1_, .slice A2_ x0.next.length c2_, .slice A3_ x0.mtch.length c3_, .slice A4_ x0.caps.length c4_]] w0 fun e w' => ∃ (A0 : Option Addr) (c0 : Nat) (A1 : Option Addr) (c1 : Nat) (A2 : Option Addr) (c2 : Nat) (A3 : Option Addr) (c3 : Nat) (A4 : Option Addr) (c4 : Nat), e = .returned (.agg #[.int .i64 r.id, .int .i64 r.n, .int .u8 r.role, .int .i64 r.binary, .int .i64 r.tuple.snap.index, .int .i64 r.tuple.snap.term, .int .i64 r.tuple.snap.sum, .int .i64 r.tuple.snap.level, .bool r.tuple.snap.final, .slice A0 r.tuple.log.length c0, .int .i64 r.tuple.term, .int .i64 r.tuple.vote, .int .i64 r.commit, .int .i64 r.applied.index, .int .i64 r.applied.term, .int .i64 r.applied.sum, .int .i64 r.applied.level, .bool r.applied.final, .slice A1 r.votes.length c1, .slice A2 r.next.length c2, .slice A3 r.mtch.length c3, .slice A4 r.caps.length c4]) ∧ (r.tuple.log.length ≤ c0 ∧ c0 ≤ maxLen) ∧ (r.votes.length ≤ c1 ∧ c1 ≤ maxLen) ∧ (r.next.length ≤ c2 ∧ c2 ≤ maxLen) ∧ (r.mtch.length ≤ c3 ∧ c3 ≤ maxLen) ∧ (r.caps.length ≤ c4 ∧ c4 ≤ maxLen) ∧ St0 All w0 w' [.rd A0 (encs enE r.tuple.log), .row (.slice A1 r.votes.length c1) 4 1 r.votes.length (encs enO r.votes), .row (.slice A2 r.next.length c2) 3 1 r.next.length (encs enI r.next), .row (.slice A3 r.mtch.length c3) 3 1 r.mtch.length (encs enI r.mtch), .row (.slice A4 r.caps.length c4) 3 1 r.caps.length (encs enI r.caps)] := by
  unfold m_elect_Lead at H
  refine gw_enter1 Try.func22 rfl Try.ntmps22 rfl ?_
  have hS := St0.start All w0
  refine wpC_seq_k (fun K hK1 => ?_)
  refine wpC_region ?_
  refine wpS_box rfl rfl rfl CellsOf.agg hS (fun b2 w hS hB => ?_)
  refine wpS_alloc rfl rfl zc_30 hS (fun b4 w hS hB => ?_)
  refine wpS_nil ?_
  refine QH_seq_k hK1 ?_
  refine wpC_seq_k (fun K hK6 => ?_)
  refine wpC_region ?_
  refine wpS_put rfl rfl rfl (yv_load_boxA ag_30 rfl (RW.here _) hS hs1 trivial sg0_22) ?_
  obtain ⟨r7, hm8, H⟩ := bind_some H
  refine wpS_call rfl rfl rfl rfl (by kernel_rfl) rfl (c_msg_Own x0 A0_ c0_ A1_ c1_ A2_ c2_ A3_ c3_ A4_ c4_ _ (SlI.of_rd s0_.k (hS.rd0 s0_.rd) (hS.blk0 s0_.blk)) (SlI.of_rd s1_.k (hS.rd0 s1_.rd) (hS.blk0 s1_.blk)) (SlI.of_rd s2_.k (hS.rd0 s2_.rd) (hS.blk0 s2_.blk)) (SlI.of_rd s3_.k (hS.rd0 s3_.rd) (hS.blk0 s3_.blk)) (SlI.of_rd s4_.k (hS.rd0 s4_.rd) (hS.blk0 s4_.blk)) hm8) ?_
  rintro e w ⟨A9, c10, A13, c14, A17, c18, A21, c22, A25, c26, rfl, k11, k15, k19, k23, k27, hN⟩; refine ⟨_, rfl, ?_⟩; have hB := hN.pure; have hS := hS.join hN; clear hN
  refine wpS_store rfl rfl rfl CellsOf.agg hS ps6 st0_22 (by kernel_rfl) rfl (fun w hS hB => ?_)
  refine wpS_nil ?_
  refine QH_seq_k hK6 ?_
  refine wpC_seq_k (fun K hK29 => ?_)
  refine wpC_seq_k (fun K hK30 => ?_)
  refine wpC_region ?_
  refine wpS_put rfl rfl rfl (yv_fieldAddr fo_30_2 rfl) ?_
  refine wpS_put rfl rfl rfl (yv_load_box sc_5 rfl (RW.here _) hS hs6 trivial sg2_1) ?_
  refine wpS_put rfl rfl rfl (yv_neq rfl rfl) ?_
  refine wpS_quick 1 rfl ?_
  refine wpS_case 12 rfl (fun hb => ?_) (fun hb => ?_)
  · replace H := cond_t H hb
    refine wpS_quick 4 rfl ?_
    refine wpS_nil ?_
    refine QH_seq_k hK30 ?_
    refine wpC_cond_t rfl rfl ?_
    refine wpC_seq_k (fun K hK32 => ?_)
    refine wpC_region ?_
    refine wpS_put rfl rfl rfl (yv_load_boxA ag_30 rfl (RW.here _) hS hs6 trivial sg0_22) ?_
    refine wpS_store rfl rfl rfl CellsOf.agg hS ps5 st0_22 (by kernel_rfl) rfl (fun w hS hB => ?_)
    refine wpS_nil ?_
    refine QH_seq_k hK32 ?_
    refine wpC_ret ?_
    refine QH_then_ret ?_
    refine QH_ret rfl (RV.cell rfl (load_boxA ag_30 hS hs5 sg0_22) RV.nil) rfl ?_
    obtain rfl := Option.some.inj H
    have hS := hS.front 4 rfl
    have hS := hS.front 4 rfl
    have hS := hS.front 4 rfl
    have hS := hS.front 4 rfl
    have hS := hS.front 4 rfl
    replace hS := hS.weak Weak.rowRd
    replace hS := hS.cut 5
    exact ⟨A9, c10, A13, c14, A17, c18, A21, c22, A25, c26, rfl, k11, k15, k19, k23, k27, hS⟩
  replace H := cond_f H hb
  refine wpS_put rfl rfl rfl (yv_load_boxA ag_30 rfl (RW.here _) hS hs6 trivial sg0_22) ?_
  obtain ⟨r34, hm35, H⟩ := bind_some H
  refine wpS_call rfl rfl rfl rfl (by kernel_rfl) rfl (c_msg_Right r7 A9 c10 A13 c14 A17 c18 A21 c22 A25 c26 _ (SlI.of_rd k11 (hS.row_rd hs0) (hS.row_blk hs0)) (SlI.of_rd k15 (hS.row_rd hs1) (hS.row_blk hs1)) (SlI.of_rd k19 (hS.row_rd hs2) (hS.row_blk hs2)) (SlI.of_rd k23 (hS.row_rd hs3) (hS.row_blk hs3)) (SlI.of_rd k27 (hS.row_rd hs4) (hS.row_blk hs4)) hm35) ?_
  rintro e w ⟨rfl, hN⟩; refine ⟨_, rfl, ?_⟩; have hB := hN.pure; have hS := hS.join hN; clear hN
  refine wpS_put rfl rfl rfl (yv_not rfl) ?_
  refine wpS_quick 1 rfl ?_
  refine wpS_nil ?_
  refine QH_seq_k hK30 ?_
  refine wpC_cond rfl (fun hb => ?_) (fun hb => ?_)
  · replace H := cond_t H hb
    refine wpC_seq_k (fun K hK37 => ?_)
    refine wpC_region ?_
    refine wpS_put rfl rfl rfl (yv_load_boxA ag_30 rfl (RW.here _) hS hs6 trivial sg0_22) ?_
    refine wpS_store rfl rfl rfl CellsOf.agg hS ps5 st0_22 (by kernel_rfl) rfl (fun w hS hB => ?_)
    refine wpS_nil ?_
    refine QH_seq_k hK37 ?_
    refine wpC_ret ?_
    refine QH_then_ret ?_
    refine QH_ret rfl (RV.cell rfl (load_boxA ag_30 hS hs5 sg0_22) RV.nil) rfl ?_
    obtain rfl := Option.some.inj H
    have hS := hS.front 4 rfl
    have hS := hS.front 4 rfl
    have hS := hS.front 4 rfl
    have hS := hS.front 4 rfl
    have hS := hS.front 4 rfl
    replace hS := hS.weak Weak.rowRd
    replace hS := hS.cut 5
    exact ⟨A9, c10, A13, c14, A17, c18, A21, c22, A25, c26, rfl, k11, k15, k19, k23, k27, hS⟩
  replace H := cond_f H hb
  refine wpC_skip ?_
  refine QH_seq_k hK29 ?_
  refine wpC_seq_k (fun K hK39 => ?_)
  refine wpC_region ?_
  refine wpS_put rfl rfl rfl (yv_fieldAddr fo_30_4 rfl) ?_
  refine wpS_put rfl rfl rfl (yv_load_boxA ag_26 rfl (RW.here _) hS hs6 trivial sg4_8) ?_
  refine wpS_put rfl rfl rfl (yv_fieldAddr fo_30_4 rfl) ?_
  refine wpS_put rfl rfl rfl (yv_fieldAddr fo_26_2 rfl) ?_
  refine wpS_put rfl rfl rfl (yv_load_box sc_3 rfl (RW.here _) hS hs6 trivial sg10_1) ?_
  refine wpS_put rfl rfl rfl (yv_build (cells := [.int .i64 r7.tuple.term, .int .i64 0, .int .i64 0]) rfl (by kernel_rfl)) ?_
  refine wpS_sliceM (ps := [(0, .tmp 24)]) [.int .i64 r7.tuple.term, .int .i64 0, .int .i64 0] el_24 zc_56 rfl rfl rfl rfl rfl (by kernel_rfl) hS (fun b40 w hS hB => ?_)
  obtain ⟨r42, hm43, H⟩ := bind_some H
  refine wpS_call rfl rfl rfl rfl (by kernel_rfl) rfl (c_tuple_Append r7.tuple ([(⟨r7.tuple.term, 0, 0⟩ : En)] : List En) A9 c10 (some ⟨b40, 0, none⟩) 1 _ (SlI.of_rd k11 (hS.row_rd hs1) (hS.row_blk hs1)) (SlI.of_rd ⟨Nat.le_refl 1, by decide⟩ (hS.box_rd hs0) (hS.box_blk hs0)) hm43) ?_
  rintro e w ⟨A44, c45, rfl, k46, hN⟩; refine ⟨_, rfl, ?_⟩; have hB := hN.pure; have hS := hS.join hN; clear hN
  refine wpS_quick 1 rfl ?_
  refine wpS_put rfl rfl rfl (yv_extract rfl rfl) ?_
  refine wpS_put rfl rfl rfl (yv_extract rfl rfl) ?_
  refine wpS_alloc rfl rfl zc_26 hS (fun b48 w hS hB => ?_)
  refine wpS_store rfl rfl rfl CellsOf.agg hS ps0 st0_8 (by kernel_rfl) rfl (fun w hS hB => ?_)
  refine wpS_quick 1 rfl ?_
  refine wpS_nil ?_
  refine QH_seq_k hK39 ?_
  refine wpC_seq_k (fun K hK50 => ?_)
  refine wpC_seq_k (fun K hK51 => ?_)
  refine wpC_region ?_
  refine wpS_quick 1 rfl ?_
  refine wpS_put rfl rfl rfl (yv_neq rfl rfl) ?_
  refine wpS_nil ?_
  refine QH_seq_k hK51 ?_
  refine wpC_cond rfl (fun hb => ?_) (fun hb => ?_)
  · replace H := cond_t H hb
    refine wpC_seq_k (fun K hK53 => ?_)
    refine wpC_region ?_
    refine wpS_put rfl rfl rfl (yv_fieldAddr fo_30_2 rfl) ?_
    refine wpS_store rfl rfl rfl CellsOf.int hS ps9 st2_1 (by kernel_rfl) rfl (fun w hS hB => ?_)
    refine wpS_nil ?_
    refine QH_seq_k hK53 ?_
    refine wpC_seq_k (fun K hK54 => ?_)
    refine wpC_region ?_
    refine wpS_put rfl rfl rfl (yv_load_boxA ag_30 rfl (RW.here _) hS hs9 trivial sg0_22) ?_
    refine wpS_store rfl rfl rfl CellsOf.agg hS ps8 st0_22 (by kernel_rfl) rfl (fun w hS hB => ?_)
    refine wpS_nil ?_
    refine QH_seq_k hK54 ?_
    refine wpC_ret ?_
    refine QH_then_ret ?_
    refine QH_ret rfl (RV.cell rfl (load_boxA ag_30 hS hs8 sg0_22) RV.nil) rfl ?_
    obtain rfl := Option.some.inj H
    have hS := hS.front 7 rfl
    have hS := hS.front 7 rfl
    have hS := hS.front 7 rfl
    have hS := hS.front 7 rfl
    have hS := hS.front 7 rfl
    replace hS := hS.weak Weak.rowRd
    replace hS := hS.cut 5
    exact ⟨A9, c10, A13, c14, A17, c18, A21, c22, A25, c26, rfl, k11, k15, k19, k23, k27, hS⟩
  replace H := cond_f H hb
  refine wpC_skip ?_
  refine QH_seq_k hK50 ?_
  refine wpC_seq_k (fun K hK56 => ?_)
  refine wpC_region ?_
  refine wpS_put rfl rfl rfl (yv_load_boxA ag_26 rfl (RW.here _) hS hs0 trivial sg0_8) ?_
  refine wpS_put rfl rfl rfl (yv_fieldAddr fo_30_4 rfl) ?_
  refine wpS_store rfl rfl rfl CellsOf.agg hS ps9 st4_8 (by kernel_rfl) rfl (fun w hS hB => ?_)
  refine wpS_put rfl rfl rfl (yv_fieldAddr fo_30_2 rfl) ?_
  refine wpS_store rfl rfl rfl CellsOf.int hS ps9 st2_1 (by kernel_rfl) rfl (fun w hS hB => ?_)
  refine wpS_nil ?_
  refine QH_seq_k hK56 ?_
  refine wpC_seq_k (fun K hK57 => ?_)
  refine wpC_region ?_
  refine wpS_put rfl rfl rfl (yv_load_boxA ag_26 rfl (RW.here _) hS hs0 trivial sg0_8) ?_
  obtain ⟨r58, hm59, H⟩ := bind_some H
  refine wpS_call rfl rfl rfl rfl (by kernel_rfl) rfl (c_tuple_Last r42.1 A44 c45 _ (SlI.of_rd k46 (hS.rd hs1) (hS.rd_blk hs1)) hm59) ?_
  rintro e w ⟨rfl, hN⟩; refine ⟨_, rfl, ?_⟩; have hB := hN.pure; have hS := hS.join hN; clear hN
  refine wpS_quick 1 rfl ?_
  refine wpS_nil ?_
  refine QH_seq_k hK57 ?_
  refine wpC_seq_k (fun K hK60 => ?_)
  refine wpC_seq_k (fun K hK61 => ?_)
  refine wpC_region ?_
  refine wpS_put rfl rfl rfl (yv_fieldAddr fo_30_1 rfl) ?_
  refine wpS_put rfl rfl rfl (yv_load_box sc_3 rfl (RW.here _) hS hs9 trivial sg1_1) ?_
  refine wpS_quick 1 rfl ?_
  refine wpS_nil ?_
  refine QH_seq_k hK61 ?_
  refine wpC_block ?_
  refine wpC_loop (X := Nat × Int × List Int × List Int) (fun x => (1, .pointer (some ⟨b2, 0, none⟩)) :: (2, .pointer (some ⟨b4, 0, none⟩)) :: (5, .int .i64 r58) :: (39, .int .i64 r7.n) :: (40, .int .i64 x.2.1) :: []) (fun x w => St0 All w0 w (.box b48 [.int .i64 r42.1.snap.index, .int .i64 r42.1.snap.term, .int .i64 r42.1.snap.sum, .int .i64 r42.1.snap.level, .bool r42.1.snap.final, .slice A44 r42.1.log.length c45, .int .i64 r42.1.term, .int .i64 r42.1.vote] 26 :: .rd A44 (encs enE r42.1.log) :: .box b40 [.int .i64 r7.tuple.term, .int .i64 0, .int .i64 0] 56 :: .row (.slice A9 r7.tuple.log.length c10) 56 3 r7.tuple.log.length (encs enE r7.tuple.log) :: .row (.slice A13 r7.votes.length c14) 4 1 r7.votes.length (encs enO r7.votes) :: .row (.slice A17 r7.next.length c18) 3 1 r7.next.length (encs enI x.2.2.1) :: .row (.slice A21 r7.mtch.length c22) 3 1 r7.mtch.length (encs enI x.2.2.2) :: .row (.slice A25 r7.caps.length c26) 3 1 r7.caps.length (encs enI r7.caps) :: .box b4 [.int .i64 0, .int .i64 0, .int .u8 0, .int .i64 0, .int .i64 0, .int .i64 0, .int .i64 0, .int .i64 0, .bool false, .slice none 0 0, .int .i64 0, .int .i64 0, .int .i64 0, .int .i64 0, .int .i64 0, .int .i64 0, .int .i64 0, .bool false, .slice none 0 0, .slice none 0 0, .slice none 0 0, .slice none 0 0] 30 :: .box b2 [.int .i64 r7.id, .int .i64 r7.n, .int .u8 2, .int .i64 r7.binary, .int .i64 r42.1.snap.index, .int .i64 r42.1.snap.term, .int .i64 r42.1.snap.sum, .int .i64 r42.1.snap.level, .bool r42.1.snap.final, .slice A44 r42.1.log.length c45, .int .i64 r42.1.term, .int .i64 r42.1.vote, .int .i64 r7.commit, .int .i64 r7.applied.index, .int .i64 r7.applied.term, .int .i64 r7.applied.sum, .int .i64 r7.applied.level, .bool r7.applied.final, .slice A13 r7.votes.length c14, .slice A17 r7.next.length c18, .slice A21 r7.mtch.length c22, .slice A25 r7.caps.length c26] 30 :: []) ∧ (x.2.2.1.length ≤ c18 ∧ c18 ≤ maxLen) ∧ (x.2.2.1.length = r7.next.length) ∧ (x.2.2.2.length ≤ c22 ∧ c22 ≤ maxLen) ∧ (x.2.2.2.length = r7.mtch.length) ∧ m_elect_Lead_l1 r7 r42 r58 x.1 x.2.1 x.2.2.1 x.2.2.2 = some r) (fun x => x.1) (fuelN, 0, r7.next, r7.mtch) (by repeat (first | exact Sub.nil | refine Sub.cons rfl ?_)) ⟨hS, k19, rfl, k23, rfl, H⟩ ?_
  rintro ⟨n, v62, v63, v66⟩ w ⟨hS, k64, hl65, k67, hl68, H⟩
  dsimp only at hS k64 hl65 k67 hl68 H ⊢
  obtain _ | n := n
  · have H0 : none = some r := H
    cases H0
  rw [m_elect_Lead_l1] at H
  refine wpC_seq_k (fun K hK69 => ?_)
  refine wpC_region ?_
  refine wpS_put rfl rfl rfl (yv_lss rfl rfl) ?_
  refine wpS_nil ?_
  refine QH_seq_k hK69 ?_
  refine wpC_seq_k (fun K hK70 => ?_)
  refine wpC_cond rfl (fun hb => ?_) (fun hb => ?_)
  rotate_left
  · replace H := cond_f H hb
    refine wpC_exit ?_
    refine QH_then_exit ?_
    refine QH_then_exit ?_
    refine QH_block_hit ?_
    refine QH_seq_k hK60 ?_
    refine wpC_seq_k (fun K hK83 => ?_)
    refine wpC_region ?_
    refine wpS_put rfl rfl rfl (yv_fieldAddr fo_30_9 rfl) ?_
    refine wpS_put rfl rfl rfl (yv_load_box sc_28 rfl (RW.here _) hS hs9 trivial sg20_1) ?_
    refine wpS_put rfl rfl rfl (yv_fieldAddr fo_30_0 rfl) ?_
    refine wpS_put rfl rfl rfl (yv_load_box sc_3 rfl (RW.here _) hS hs9 trivial sg0_1) ?_
    refine wpS_put rfl rfl rfl (yx_sub rfl rfl) ?_
    refine wpS_quick 1 rfl ?_
    obtain ⟨e84, hi86, H⟩ := bind_some H
    obtain ⟨j85, hi86a, hi86b, hi86c⟩ := idx_some hi86
    refine wpS_put rfl rfl rfl (yx_idx el_28 rfl rfl hi86a (Nat.lt_of_lt_of_eq hi86c hl68) (Rd.el (hS.row_rd hs6) he_enI hi86b)) ?_
    refine wpX_storeR (a' := r58) (zs := (setI v66 (IntKind.wrap .i64 (r7.id - 1)) r58)) he_enI rfl rfl rfl CellsOf.int hS ps6 (Rd.el (hS.row_rd hs6) he_enI hi86b) hi86a hi86b rfl st0_1 (by kernel_rfl) rfl (fun w hS => ?_)
    have hi87b := setI_at (a := r58) hi86a hi86b
    have hi87a := hi86a
    refine wpS_nil ?_
    refine QH_seq_k hK83 ?_
    refine wpC_seq_k (fun K hK88 => ?_)
    refine wpC_region ?_
    refine wpS_put rfl rfl rfl (yv_load_boxA ag_30 rfl (RW.here _) hS hs9 trivial sg0_22) ?_
    refine wpS_store rfl rfl rfl CellsOf.agg hS ps8 st0_22 (by kernel_rfl) rfl (fun w hS hB => ?_)
    refine wpS_nil ?_
    refine QH_seq_k hK88 ?_
    refine wpC_ret ?_
    refine QH_ret rfl (RV.cell rfl (load_boxA ag_30 hS hs8 sg0_22) RV.nil) rfl ?_
    obtain rfl := Option.some.inj H
    have hS := hS.front 7 rfl
    have hS := hS.front 7 rfl
    have hS := hS.front 7 rfl
    have hS := hS.front 7 rfl
    have hS := hS.front 5 rfl
    replace hS := hS.cut 5
    exact ⟨A44, c45, A13, c14, A17, c18, A21, c22, A25, c26, by rw [hl65, (setI_len hl68)]; rfl, k46, k15, k64, (k_set k67), k27, hS.eqv (by rw [hl65, (setI_len hl68)]; rfl)⟩
  replace H := cond_t H hb
  refine wpC_skip ?_
  refine QH_seq_k hK70 ?_
  refine wpC_seq_k (fun K hK72 => ?_)
  refine wpC_block ?_
  refine wpC_seq_k (fun K hK73 => ?_)
  refine wpC_region ?_
  refine wpS_quick 2 rfl ?_
  refine wpS_nil ?_
  refine QH_seq_k hK73 ?_
  refine wpC_draw 12 [9, 11] (fun i b => (i = 9 → b = b48 ∨ b = b40 ∨ b = b4 ∨ b = b2) ∧ (i = 11 → b = b48 ∨ b = b40 ∨ b = b4 ∨ b = b2)) ⟨by kernel_rfl, by kernel_rfl⟩ hS (fun w hS hB => ?_)
  refine wpR_batch [true, true, true, false, false, false, true, true, true] (by decide +kernel) (by repeat (first | exact PF.body | exact PF.round | apply PF.then | apply PF.inBlock | apply PF.jump)) ?_
  refine LtK.put rfl rfl rfl (yv_fieldAddr fo_30_8 rfl) ?_
  refine LtK.put rfl rfl rfl (yv_load_box sc_28 rfl (RW.below _) hS hs9 trivial sg19_1) ?_
  refine LtK.put rfl rfl rfl (yv_move rfl) ?_
  refine LtK.put rfl rfl rfl (yv_move rfl) ?_
  refine LtK.put rfl rfl rfl (yx_add rfl rfl) ?_
  obtain ⟨e74, hi76, H⟩ := bind_some H
  obtain ⟨j75, hi76a, hi76b, hi76c⟩ := idx_some hi76
  refine LtK.put rfl rfl rfl (yx_idx el_28 rfl rfl hi76a (Nat.lt_of_lt_of_eq hi76c hl65) (Rd.el (hS.row_rd hs5) he_enI hi76b)) ?_
  refine LtK.nil ?_
  refine wpR_batchG [false, false, false, true, true, true] [9] (fun b => (b = b48 ∨ b = b40 ∨ b = b4 ∨ b = b2)) (by decide +kernel) (by intro j hj b hb; simp only [List.mem_cons, List.not_mem_nil, or_false] at hj; (try rcases hj with rfl | rfl | rfl | rfl | rfl) <;> first | (simp [hb]; done) | simp_all) (by repeat (first | exact PF.body | exact PF.round | apply PF.then | apply PF.inBlock | apply PF.jump)) ?_
  refine LtK.put rfl rfl rfl (yv_fieldAddr fo_30_9 rfl) ?_
  refine LtK.put rfl rfl rfl (yv_load_box sc_28 rfl (RW.keepB _ _) hS hs9 (.inr (.inr (.inr (rfl)))) sg20_1) ?_
  refine LtK.put rfl rfl rfl (yv_move rfl) ?_
  refine LtK.nil ?_
  refine wpR_seal [false, false, false, false, false, false, false, false, false, true] 9 ⟨by decide, by kernel_rfl, by kernel_rfl⟩ rfl rfl ?_
  try dsimp only [pickL]
  refine wpX_storeR3 (a' := (IntKind.wrap .i64 (r58 + 1))) (zs := (setI v63 v62 (IntKind.wrap .i64 (r58 + 1)))) he_enI rfl rfl rfl CellsOf.int hS ps5 (Rd.el (hS.row_rd hs5) he_enI hi76b) hi76a hi76b rfl st0_1 (by kernel_rfl) rfl (fun w hS hB => ?_)
  have hi77b := setI_at (a := (IntKind.wrap .i64 (r58 + 1))) hi76a hi76b
  have hi77a := hi76a
  refine wpS_nil ?_
  refine QH_stepG (hB.sub (fun b _ h => by have h0 : b = b48 ∨ b = b40 ∨ b = b4 ∨ b = b2 := (by simpa using h); rcases h0 with h0 | h0 | h0 | h0; (rw [h0]; exact hS.neRow 0 5 rfl rfl); (rw [h0]; exact hS.neRow 2 5 rfl rfl); (rw [h0]; exact hS.neRow 8 5 rfl rfl); (rw [h0]; exact hS.neRow 9 5 rfl rfl))) ?_
  refine wpR_batch [false, false, false, false, false, false, false, false, false, false, true] (by decide +kernel) (by repeat (first | exact PF.body | exact PF.round | apply PF.then | apply PF.inBlock | apply PF.jump)) ?_
  obtain ⟨e78, hi80, H⟩ := bind_some H
  obtain ⟨j79, hi80a, hi80b, hi80c⟩ := idx_some hi80
  refine LtK.put rfl rfl rfl (yx_idx el_28 rfl rfl hi80a (Nat.lt_of_lt_of_eq hi80c hl68) (Rd.el (hS.row_rd hs6) he_enI hi80b)) ?_
  refine LtK.nil ?_
  refine wpR_seal [false, false, false, false, false, false, false, false, false, false, false, true] 11 ⟨by decide, by kernel_rfl, by kernel_rfl⟩ rfl rfl ?_
  try dsimp only [pickL]
  refine wpX_storeR3 (a' := 0) (zs := (setI v66 v62 0)) he_enI rfl rfl rfl CellsOf.int hS ps6 (Rd.el (hS.row_rd hs6) he_enI hi80b) hi80a hi80b rfl st0_1 (by kernel_rfl) rfl (fun w hS hB => ?_)
  have hi81b := setI_at (a := 0) hi80a hi80b
  have hi81a := hi80a
  refine wpS_nil ?_
  refine QH_stepG (hB.sub (fun b _ h => by have h0 : b = b48 ∨ b = b40 ∨ b = b4 ∨ b = b2 := (by simpa using h); rcases h0 with h0 | h0 | h0 | h0; (rw [h0]; exact hS.neRow 0 6 rfl rfl); (rw [h0]; exact hS.neRow 2 6 rfl rfl); (rw [h0]; exact hS.neRow 8 6 rfl rfl); (rw [h0]; exact hS.neRow 9 6 rfl rfl))) ?_
  refine wpR_end (by kernel_rfl) ?_
  refine QH_block_normal ?_
  refine QH_seq_k hK72 ?_
  refine wpC_region ?_
  refine wpS_put rfl rfl rfl (yx_add rfl rfl) ?_
  refine wpS_quick 1 rfl ?_
  refine wpS_nil ?_
  exact QH_again (n, (IntKind.wrap .i64 (v62 + 1)), (setI v63 v62 (IntKind.wrap .i64 (r58 + 1))), (setI v66 v62 0)) (by repeat (first | exact Sub.nil | refine Sub.cons rfl ?_)) ⟨hS, (k_set k64), (setI_len hl65), (k_set k67), (setI_len hl68), H⟩ (Nat.lt_succ_self _)
theorem c_tuple_At (x0 : Tu) (x1 : Int) (A0_ : Option Addr) (c0_ : Nat) (w0 : World) (s0_ : SlI w0 enE A0_ c0_ x0.log) {r : En × Bool} (H : m_tuple_At x0 x1 = some r) : Calls Try.prog 93 #[.agg #[.int .i64 x0.snap.index, .int .i64 x0.snap.term, .int .i64 x0.snap.sum, .int .i64 x0.snap.level, .bool x0.snap.final, .slice A0_ x0.log.length c0_, .int .i64 x0.term, .int .i64 x0.vote], .int .i64 x1] w0 fun e w' => e = .returned (.tuple #[.agg #[.int .i64 r.1.term, .int .i64 r.1.kind, .int .i64 r.1.value], .bool r.2]) ∧ St0 All w0 w' [] := by
  unfold m_tuple_At at H
  refine gw_enter2 Try.func93 rfl Try.ntmps93 rfl ?_
  have hS := St0.start All w0
  refine wpC_seq_k (fun K hK1 => ?_)
  refine wpC_region ?_
  refine wpS_box rfl rfl rfl CellsOf.agg hS (fun b2 w hS hB => ?_)
  refine wpS_alloc rfl rfl zc_56 hS (fun b4 w hS hB => ?_)
  refine wpS_quick 1 rfl ?_
  refine wpS_nil ?_
  refine QH_seq_k hK1 ?_
  refine wpC_seq_k (fun K hK6 => ?_)
  refine wpC_seq_k (fun K hK7 => ?_)
  refine wpC_region ?_
  refine wpS_quick 1 rfl ?_
  refine wpS_put rfl rfl rfl (yv_fieldAddr fo_26_0 rfl) ?_
  refine wpS_put rfl rfl rfl (yv_fieldAddr fo_23_0 rfl) ?_
  refine wpS_put rfl rfl rfl (yv_load_box sc_3 rfl (RW.here _) hS hs1 trivial sg0_1) ?_
  refine wpS_put rfl rfl rfl (yv_leq rfl rfl) ?_
  refine wpS_quick 1 rfl ?_
  refine wpS_case 11 rfl (fun hb => ?_) (fun hb => ?_)
  · replace H := cond_t H hb
    refine wpS_quick 5 rfl ?_
    refine wpS_nil ?_
    refine QH_seq_k hK7 ?_
    refine wpC_cond_t rfl rfl ?_
    refine wpC_seq_k (fun K hK9 => ?_)
    refine wpC_region ?_
    refine wpS_put rfl rfl rfl (yv_load_boxA ag_56 rfl (RW.here _) hS hs0 trivial sg0_3) ?_
    refine wpS_store rfl rfl rfl CellsOf.agg hS ps0 st0_3 (by kernel_rfl) rfl (fun w hS hB => ?_)
    refine wpS_quick 1 rfl ?_
    refine wpS_nil ?_
    refine QH_seq_k hK9 ?_
    refine wpC_ret ?_
    refine QH_then_ret ?_
    refine QH_ret rfl (RV.cell rfl (load_boxA ag_56 hS hs0 sg0_3) (RV.tmp rfl RV.nil)) rfl ?_
    obtain rfl := Option.some.inj H
    replace hS := hS.cut 0
    exact ⟨rfl, hS⟩
  replace H := cond_f H hb
  refine wpS_quick 1 rfl ?_
  refine wpS_put rfl rfl rfl (yv_load_boxA ag_26 rfl (RW.here _) hS hs1 trivial sg0_8) ?_
  obtain ⟨r11, hm12, H⟩ := bind_some H
  refine wpS_call rfl rfl rfl rfl (by kernel_rfl) rfl (c_tuple_Last x0 A0_ c0_ _ (SlI.of_rd s0_.k (hS.rd0 s0_.rd) (hS.blk0 s0_.blk)) hm12) ?_
  rintro e w ⟨rfl, hN⟩; refine ⟨_, rfl, ?_⟩; have hB := hN.pure; have hS := hS.join hN; clear hN
  refine wpS_put rfl rfl rfl (yv_gtr rfl rfl) ?_
  refine wpS_quick 1 rfl ?_
  refine wpS_nil ?_
  refine QH_seq_k hK7 ?_
  refine wpC_cond rfl (fun hb => ?_) (fun hb => ?_)
  · replace H := cond_t H hb
    refine wpC_seq_k (fun K hK14 => ?_)
    refine wpC_region ?_
    refine wpS_put rfl rfl rfl (yv_load_boxA ag_56 rfl (RW.here _) hS hs0 trivial sg0_3) ?_
    refine wpS_store rfl rfl rfl CellsOf.agg hS ps0 st0_3 (by kernel_rfl) rfl (fun w hS hB => ?_)
    refine wpS_quick 1 rfl ?_
    refine wpS_nil ?_
    refine QH_seq_k hK14 ?_
    refine wpC_ret ?_
    refine QH_then_ret ?_
    refine QH_ret rfl (RV.cell rfl (load_boxA ag_56 hS hs0 sg0_3) (RV.tmp rfl RV.nil)) rfl ?_
    obtain rfl := Option.some.inj H
    replace hS := hS.cut 0
    exact ⟨rfl, hS⟩
  replace H := cond_f H hb
  refine wpC_skip ?_
  refine QH_seq_k hK6 ?_
  refine wpC_seq_k (fun K hK16 => ?_)
  refine wpC_region ?_
  refine wpS_put rfl rfl rfl (yv_fieldAddr fo_26_1 rfl) ?_
  refine wpS_put rfl rfl rfl (yv_load_box sc_24 rfl (RW.here _) hS hs1 trivial sg5_1) ?_
  refine wpS_quick 1 rfl ?_
  refine wpS_put rfl rfl rfl (yv_fieldAddr fo_26_0 rfl) ?_
  refine wpS_put rfl rfl rfl (yv_fieldAddr fo_23_0 rfl) ?_
  refine wpS_put rfl rfl rfl (yv_load_box sc_3 rfl (RW.here _) hS hs1 trivial sg0_1) ?_
  refine wpS_put rfl rfl rfl (yx_sub rfl rfl) ?_
  refine wpS_put rfl rfl rfl (yx_sub rfl rfl) ?_
  obtain ⟨e17, hi19, H⟩ := bind_some H
  obtain ⟨j18, hi19a, hi19b, hi19c⟩ := idx_some hi19
  refine wpS_put rfl rfl rfl (yx_idx el_24 rfl rfl hi19a hi19c (Rd.el (hS.rd0 s0_.rd) he_enE hi19b)) ?_
  refine wpS_put rfl rfl rfl (yx_ldA0 ag_56 rfl (RW.here _) (Rd.el (hS.rd0 s0_.rd) he_enE hi19b) sg0_3) ?_
  refine wpS_store rfl rfl rfl CellsOf.agg hS ps0 st0_3 (by kernel_rfl) rfl (fun w hS hB => ?_)
  refine wpS_quick 1 rfl ?_
  refine wpS_nil ?_
  refine QH_seq_k hK16 ?_
  refine wpC_ret ?_
  refine QH_ret rfl (RV.cell rfl (load_boxA ag_56 hS hs0 sg0_3) (RV.tmp rfl RV.nil)) rfl ?_
  obtain rfl := Option.some.inj H
  replace hS := hS.cut 0
  exact ⟨rfl, hS⟩
theorem c_tuple_TermAt (x0 : Tu) (x1 : Int) (A0_ : Option Addr) (c0_ : Nat) (w0 : World) (s0_ : SlI w0 enE A0_ c0_ x0.log) {r : Int × Bool} (H : m_tuple_TermAt x0 x1 = some r) : Calls Try.prog 57 #[.agg #[.int .i64 x0.snap.index, .int .i64 x0.snap.term, .int .i64 x0.snap.sum, .int .i64 x0.snap.level, .bool x0.snap.final, .slice A0_ x0.log.length c0_, .int .i64 x0.term, .int .i64 x0.vote], .int .i64 x1] w0 fun e w' => e = .returned (.tuple #[.int .i64 r.1, .bool r.2]) ∧ St0 All w0 w' [] := by
  unfold m_tuple_TermAt at H
  refine gw_enter2 Try.func57 rfl Try.ntmps57 rfl ?_
  have hS := St0.start All w0
  refine wpC_seq_k (fun K hK1 => ?_)
  refine wpC_region ?_
  refine wpS_box rfl rfl rfl CellsOf.agg hS (fun b2 w hS hB => ?_)
  refine wpS_quick 2 rfl ?_
  refine wpS_nil ?_
  refine QH_seq_k hK1 ?_
  refine wpC_seq_k (fun K hK4 => ?_)
  refine wpC_seq_k (fun K hK5 => ?_)
  refine wpC_region ?_
  refine wpS_quick 1 rfl ?_
  refine wpS_put rfl rfl rfl (yv_fieldAddr fo_26_0 rfl) ?_
  refine wpS_put rfl rfl rfl (yv_fieldAddr fo_23_0 rfl) ?_
  refine wpS_put rfl rfl rfl (yv_load_box sc_3 rfl (RW.here _) hS hs0 trivial sg0_1) ?_
  refine wpS_put rfl rfl rfl (yv_eql rfl rfl) ?_
  refine wpS_nil ?_
  refine QH_seq_k hK5 ?_
  refine wpC_cond rfl (fun hb => ?_) (fun hb => ?_)
  · replace H := cond_t H hb
    refine wpC_seq_k (fun K hK7 => ?_)
    refine wpC_region ?_
    refine wpS_put rfl rfl rfl (yv_fieldAddr fo_26_0 rfl) ?_
    refine wpS_put rfl rfl rfl (yv_fieldAddr fo_23_1 rfl) ?_
    refine wpS_put rfl rfl rfl (yv_load_box sc_3 rfl (RW.here _) hS hs0 trivial sg1_1) ?_
    refine wpS_quick 2 rfl ?_
    refine wpS_nil ?_
    refine QH_seq_k hK7 ?_
    refine wpC_ret ?_
    refine QH_then_ret ?_
    refine QH_ret rfl (RV.tmp rfl (RV.tmp rfl RV.nil)) rfl ?_
    obtain rfl := Option.some.inj H
    replace hS := hS.cut 0
    exact ⟨rfl, hS⟩
  replace H := cond_f H hb
  refine wpC_skip ?_
  refine QH_seq_k hK4 ?_
  refine wpC_seq_k (fun K hK9 => ?_)
  refine wpC_region ?_
  refine wpS_put rfl rfl rfl (yv_load_boxA ag_26 rfl (RW.here _) hS hs0 trivial sg0_8) ?_
  refine wpS_quick 1 rfl ?_
  obtain ⟨r10, hm11, H⟩ := bind_some H
  refine wpS_call rfl rfl rfl rfl (by kernel_rfl) rfl (c_tuple_At x0 x1 A0_ c0_ _ (SlI.of_rd s0_.k (hS.rd0 s0_.rd) (hS.blk0 s0_.blk)) hm11) ?_
  rintro e w ⟨rfl, hN⟩; refine ⟨_, rfl, ?_⟩; have hB := hN.pure; have hS := hS.join hN; clear hN
  refine wpS_quick 1 rfl ?_
  refine wpS_put rfl rfl rfl (yv_extract rfl rfl) ?_
  refine wpS_put rfl rfl rfl (yv_extract rfl rfl) ?_
  refine wpS_alloc rfl rfl zc_56 hS (fun b12 w hS hB => ?_)
  refine wpS_store rfl rfl rfl CellsOf.agg hS ps0 st0_3 (by kernel_rfl) rfl (fun w hS hB => ?_)
  refine wpS_quick 1 rfl ?_
  refine wpS_nil ?_
  refine QH_seq_k hK9 ?_
  refine wpC_seq_k (fun K hK14 => ?_)
  refine wpC_region ?_
  refine wpS_put rfl rfl rfl (yv_fieldAddr fo_56_0 rfl) ?_
  refine wpS_put rfl rfl rfl (yv_load_box sc_3 rfl (RW.here _) hS hs0 trivial sg0_1) ?_
  refine wpS_quick 3 rfl ?_
  refine wpS_nil ?_
  refine QH_seq_k hK14 ?_
  refine wpC_ret ?_
  refine QH_ret rfl (RV.tmp rfl (RV.tmp rfl RV.nil)) rfl ?_
  obtain rfl := Option.some.inj H
  replace hS := hS.cut 0
  exact ⟨rfl, hS⟩
theorem c_elect_end (x0 : Co) (A0_ : Option Addr) (c0_ : Nat) (A1_ : Option Addr) (c1_ : Nat) (A2_ : Option Addr) (c2_ : Nat) (A3_ : Option Addr) (c3_ : Nat) (A4_ : Option Addr) (c4_ : Nat) (w0 : World) (s0_ : SlI w0 enE A0_ c0_ x0.tuple.log) (s1_ : SlI w0 enO A1_ c1_ x0.votes) (s2_ : SlI w0 enI A2_ c2_ x0.next) (s3_ : SlI w0 enI A3_ c3_ x0.mtch) (s4_ : SlI w0 enI A4_ c4_ x0.caps) {r : Int × Int} (H : m_elect_end x0 = some r) : Calls Try.prog 46 #[.agg #[.int .i64 x0.id, .int .i64 x0.n, .int .u8 x0.role, .int .i64 x0.binary, .int .i64 x0.tuple.snap.index, .int .i64 x0.tuple.snap.term, .int .i64 x0.tuple.snap.sum, .int .i64 x0.tuple.snap.level, .bool x0.tuple.snap.final, .slice A0_ x0.tuple.log.length c0_, .int .i64 x0.tuple.term, .int .i64 x0.tuple.vote, .int .i64 x0.commit, .int .i64 x0.applied.index, .int .i64 x0.applied.term, .int .i64 x0.applied.sum, .int .i64 x0.applied.level, .bool x0.applied.final, .slice A1_ x0.votes.length c1_, .slice A2_ x0.next.length c2_, .slice A3_ x0.mtch.length c3_, .slice A4_ x0.caps.length c4_]] w0 fun e w' => e = .returned (.tuple #[.int .i64 r.1, .int .i64 r.2]) ∧ St0 All w0 w' [] := by
  unfold m_elect_end at H
  refine gw_enter1 Try.func46 rfl Try.ntmps46 rfl ?_
  have hS := St0.start All w0
  refine wpC_seq_k (fun K hK1 => ?_)
  refine wpC_region ?_
  refine wpS_box rfl rfl rfl CellsOf.agg hS (fun b2 w hS hB => ?_)
  refine wpS_quick 2 rfl ?_
  refine wpS_nil ?_
  refine QH_seq_k hK1 ?_
  refine wpC_seq_k (fun K hK4 => ?_)
  refine wpC_region ?_
  refine wpS_put rfl rfl rfl (yv_fieldAddr fo_30_4 rfl) ?_
  refine wpS_put rfl rfl rfl (yv_load_boxA ag_26 rfl (RW.here _) hS hs0 trivial sg4_8) ?_
  obtain ⟨r5, hm6, H⟩ := bind_some H
  refine wpS_call rfl rfl rfl rfl (by kernel_rfl) rfl (c_tuple_Last x0.tuple A0_ c0_ _ (SlI.of_rd s0_.k (hS.rd0 s0_.rd) (hS.blk0 s0_.blk)) hm6) ?_
  rintro e w ⟨rfl, hN⟩; refine ⟨_, rfl, ?_⟩; have hB := hN.pure; have hS := hS.join hN; clear hN
  refine wpS_quick 1 rfl ?_
  refine wpS_nil ?_
  refine QH_seq_k hK4 ?_
  refine wpC_seq_k (fun K hK7 => ?_)
  refine wpC_region ?_
  refine wpS_put rfl rfl rfl (yv_fieldAddr fo_30_4 rfl) ?_
  refine wpS_put rfl rfl rfl (yv_load_boxA ag_26 rfl (RW.here _) hS hs0 trivial sg4_8) ?_
  refine wpS_quick 1 rfl ?_
  obtain ⟨r8, hm9, H⟩ := bind_some H
  refine wpS_call rfl rfl rfl rfl (by kernel_rfl) rfl (c_tuple_TermAt x0.tuple r5 A0_ c0_ _ (SlI.of_rd s0_.k (hS.rd0 s0_.rd) (hS.blk0 s0_.blk)) hm9) ?_
  rintro e w ⟨rfl, hN⟩; refine ⟨_, rfl, ?_⟩; have hB := hN.pure; have hS := hS.join hN; clear hN
  refine wpS_quick 1 rfl ?_
  refine wpS_put rfl rfl rfl (yv_extract rfl rfl) ?_
  refine wpS_put rfl rfl rfl (yv_extract rfl rfl) ?_
  refine wpS_quick 1 rfl ?_
  refine wpS_nil ?_
  refine QH_seq_k hK7 ?_
  refine wpC_seq_k (fun K hK10 => ?_)
  refine wpC_region ?_
  refine wpS_quick 4 rfl ?_
  refine wpS_nil ?_
  refine QH_seq_k hK10 ?_
  refine wpC_ret ?_
  refine QH_ret rfl (RV.tmp rfl (RV.tmp rfl RV.nil)) rfl ?_
  obtain rfl := Option.some.inj H
  replace hS := hS.cut 0
  exact ⟨rfl, hS⟩
theorem c_msg_others (x0 : Co) (A0_ : Option Addr) (c0_ : Nat) (A1_ : Option Addr) (c1_ : Nat) (A2_ : Option Addr) (c2_ : Nat) (A3_ : Option Addr) (c3_ : Nat) (A4_ : Option Addr) (c4_ : Nat) (w0 : World) (s0_ : SlI w0 enE A0_ c0_ x0.tuple.log) (s1_ : SlI w0 enO A1_ c1_ x0.votes) (s2_ : SlI w0 enI A2_ c2_ x0.next) (s3_ : SlI w0 enI A3_ c3_ x0.mtch) (s4_ : SlI w0 enI A4_ c4_ x0.caps) : Calls Try.prog 82 #[.agg #[.int .i64 x0.id, .int .i64 x0.n, .int .u8 x0.role, .int .i64 x0.binary, .int .i64 x0.tuple.snap.index, .int .i64 x0.tuple.snap.term, .int .i64 x0.tuple.snap.sum, .int .i64 x0.tuple.snap.level, .bool x0.tuple.snap.final, .slice A0_ x0.tuple.log.length c0_, .int .i64 x0.tuple.term, .int .i64 x0.tuple.vote, .int .i64 x0.commit, .int .i64 x0.applied.index, .int .i64 x0.applied.term, .int .i64 x0.applied.sum, .int .i64 x0.applied.level, .bool x0.applied.final, .slice A1_ x0.votes.length c1_, .slice A2_ x0.next.length c2_, .slice A3_ x0.mtch.length c3_, .slice A4_ x0.caps.length c4_]] w0 fun e w' => ∃ (b0_ : Nat), e = .returned (.func (.func 110) #[] #[.pointer (some ⟨b0_, 0, none⟩)]) ∧ St0 All w0 w' [.box b0_ [.int .i64 x0.id, .int .i64 x0.n, .int .u8 x0.role, .int .i64 x0.binary, .int .i64 x0.tuple.snap.index, .int .i64 x0.tuple.snap.term, .int .i64 x0.tuple.snap.sum, .int .i64 x0.tuple.snap.level, .bool x0.tuple.snap.final, .slice A0_ x0.tuple.log.length c0_, .int .i64 x0.tuple.term, .int .i64 x0.tuple.vote, .int .i64 x0.commit, .int .i64 x0.applied.index, .int .i64 x0.applied.term, .int .i64 x0.applied.sum, .int .i64 x0.applied.level, .bool x0.applied.final, .slice A1_ x0.votes.length c1_, .slice A2_ x0.next.length c2_, .slice A3_ x0.mtch.length c3_, .slice A4_ x0.caps.length c4_] 30] := by
  refine gw_enter1 Try.func82 rfl Try.ntmps82 rfl ?_
  have hS := St0.start All w0
  refine wpC_seq_k (fun K hK1 => ?_)
  refine wpC_region ?_
  refine wpS_box rfl rfl rfl CellsOf.agg hS (fun b2 w hS hB => ?_)
  refine wpS_quick 1 rfl ?_
  refine wpS_nil ?_
  refine QH_seq_k hK1 ?_
  refine wpC_seq_k (fun K hK4 => ?_)
  refine wpC_region ?_
  refine wpS_put rfl rfl rfl (yv_makeFunc rfl rfl) ?_
  refine wpS_quick 1 rfl ?_
  refine wpS_nil ?_
  refine QH_seq_k hK4 ?_
  refine wpC_ret ?_
  refine QH_ret rfl (RV.tmp rfl RV.nil) rfl ?_
  exact ⟨b2, rfl, hS.sub (List.Sublist.cons_cons _ List.Sublist.slnil)⟩
theorem c_msg_Others (x0 : Co) (x1 : Ms) (A0_ : Option Addr) (c0_ : Nat) (A1_ : Option Addr) (c1_ : Nat) (A2_ : Option Addr) (c2_ : Nat) (A3_ : Option Addr) (c3_ : Nat) (A4_ : Option Addr) (c4_ : Nat) (A5_ : Option Addr) (c5_ : Nat) (w0 : World) (s0_ : SlI w0 enE A0_ c0_ x0.tuple.log) (s1_ : SlI w0 enO A1_ c1_ x0.votes) (s2_ : SlI w0 enI A2_ c2_ x0.next) (s3_ : SlI w0 enI A3_ c3_ x0.mtch) (s4_ : SlI w0 enI A4_ c4_ x0.caps) (s5_ : SlW w0 enE A5_ c5_ x1.entries) {r : List Ms} (H : m_msg_Others x0 x1 = some r) : Calls Try.prog 47 #[.agg #[.int .i64 x0.id, .int .i64 x0.n, .int .u8 x0.role, .int .i64 x0.binary, .int .i64 x0.tuple.snap.index, .int .i64 x0.tuple.snap.term, .int .i64 x0.tuple.snap.sum, .int .i64 x0.tuple.snap.level, .bool x0.tuple.snap.final, .slice A0_ x0.tuple.log.length c0_, .int .i64 x0.tuple.term, .int .i64 x0.tuple.vote, .int .i64 x0.commit, .int .i64 x0.applied.index, .int .i64 x0.applied.term, .int .i64 x0.applied.sum, .int .i64 x0.applied.level, .bool x0.applied.final, .slice A1_ x0.votes.length c1_, .slice A2_ x0.next.length c2_, .slice A3_ x0.mtch.length c3_, .slice A4_ x0.caps.length c4_], .agg #[.int .u8 x1.kind, .int .i64 x1.frm, .int .i64 x1.dst, .int .i64 x1.term, .int .i64 x1.cap, .int .i64 x1.last, .int .i64 x1.lastTerm, .int .i64 x1.commit, .bool x1.okk, .slice A5_ x1.entries.length c5_, .int .i64 x1.snap.index, .int .i64 x1.snap.term, .int .i64 x1.snap.sum, .int .i64 x1.snap.level, .bool x1.snap.final]] w0 fun e w' => ∃ (A0 : Option Addr) (c0 : Nat) (q0 : List Mq), e = .returned (.slice A0 r.length c0) ∧ (r.length ≤ c0 ∧ c0 ≤ maxLen) ∧ q0.map Mq.m = r ∧ (∀ y ∈ q0, okQ y) ∧ St0 All w0 w' [.rd A0 (encs enQ q0), .rds (q0.map subQ)] := by
  unfold m_msg_Others at H
  refine gw_enter2 Try.func47 rfl Try.ntmps47 rfl ?_
  have hS := St0.start All w0
  refine wpC_seq_k (fun K hK1 => ?_)
  refine wpC_region ?_
  refine wpS_box rfl rfl rfl CellsOf.agg hS (fun b2 w hS hB => ?_)
  refine wpS_box rfl rfl rfl CellsOf.agg hS (fun b4 w hS hB => ?_)
  refine wpS_alloc rfl rfl zc_32 hS (fun b6 w hS hB => ?_)
  refine wpS_nil ?_
  refine QH_seq_k hK1 ?_
  refine wpC_seq_k (fun K hK8 => ?_)
  refine wpC_seq_k (fun K hK9 => ?_)
  refine wpC_region ?_
  refine wpS_put rfl rfl rfl (yv_load_boxA ag_30 rfl (RW.here _) hS hs2 trivial sg0_22) ?_
  have hM10 := hS
  refine wpS_call rfl rfl rfl rfl (by kernel_rfl) rfl (c_msg_others x0 A0_ c0_ A1_ c1_ A2_ c2_ A3_ c3_ A4_ c4_ _ (SlI.of_rd s0_.k (hS.rd0 s0_.rd) (hS.blk0 s0_.blk)) (SlI.of_rd s1_.k (hS.rd0 s1_.rd) (hS.blk0 s1_.blk)) (SlI.of_rd s2_.k (hS.rd0 s2_.rd) (hS.blk0 s2_.blk)) (SlI.of_rd s3_.k (hS.rd0 s3_.rd) (hS.blk0 s3_.blk)) (SlI.of_rd s4_.k (hS.rd0 s4_.rd) (hS.blk0 s4_.blk))) ?_
  rintro e w ⟨b12, rfl, hN11⟩; refine ⟨_, rfl, ?_⟩; have hB := hN11.pure; have hS := hS.join hN11
  refine wpS_nil ?_
  refine QH_seq_k hK9 ?_
  refine wpC_block ?_
  replace hS := hS.nilRds
  replace hS := hS.nilRow 36 15
  replace hM10 := hM10.nilRds
  replace hM10 := hM10.nilRow 36 15
  obtain ⟨xs24, hx25, H⟩ := bind_some H
  refine wpC_range (w0 := w0) (X := List Ms × Option Addr × Nat × List Mq) rfl (by kernel_rfl) (it_others x0 _ _ _ hM10.pure b12 hN11 hx25) ⟨hM10.size, hN11.size⟩ (fun _ => rfl) (by kernel_rfl) (fun k x => .row (.slice x.2.1 x.1.length x.2.2.1) 36 15 x.1.length (encs enQ x.2.2.2) :: .rds (x.2.2.2.map subQ) :: .box b6 [.slice x.2.1 x.1.length x.2.2.1] 32 :: .box b4 [.int .u8 x1.kind, .int .i64 x1.frm, .int .i64 x1.dst, .int .i64 x1.term, .int .i64 x1.cap, .int .i64 x1.last, .int .i64 x1.lastTerm, .int .i64 x1.commit, .bool x1.okk, .slice A5_ x1.entries.length c5_, .int .i64 x1.snap.index, .int .i64 x1.snap.term, .int .i64 x1.snap.sum, .int .i64 x1.snap.level, .bool x1.snap.final] 36 :: .box b2 [.int .i64 x0.id, .int .i64 x0.n, .int .u8 x0.role, .int .i64 x0.binary, .int .i64 x0.tuple.snap.index, .int .i64 x0.tuple.snap.term, .int .i64 x0.tuple.snap.sum, .int .i64 x0.tuple.snap.level, .bool x0.tuple.snap.final, .slice A0_ x0.tuple.log.length c0_, .int .i64 x0.tuple.term, .int .i64 x0.tuple.vote, .int .i64 x0.commit, .int .i64 x0.applied.index, .int .i64 x0.applied.term, .int .i64 x0.applied.sum, .int .i64 x0.applied.level, .bool x0.applied.final, .slice A1_ x0.votes.length c1_, .slice A2_ x0.next.length c2_, .slice A3_ x0.mtch.length c3_, .slice A4_ x0.caps.length c4_] 30 :: []) (fun k x => (x.1.length ≤ x.2.2.1 ∧ x.2.2.1 ≤ maxLen) ∧ (x.2.2.2.map Mq.m = x.1) ∧ (∀ y ∈ x.2.2.2, okQ y) ∧ m_msg_Others_r1 x0 x1 (xs24.drop k) x.1 = some r) (fun _ _ => []) (fun _ _ => False) (fun _ => False) ([], none, 0, ([] : List Mq)) ⟨hS.sub (List.Sublist.cons_cons _ (List.Sublist.cons_cons _ (List.Sublist.cons _ (List.Sublist.cons_cons _ (List.Sublist.cons_cons _ (List.Sublist.cons_cons _ List.Sublist.slnil)))))), fun e he k hk => .inl (hM10.rng e he k hk).1⟩ ⟨⟨Nat.le_refl _, Nat.zero_le _⟩, rfl, okq_nil, H⟩ ?_ ?_ (fun _ _ _ h _ => h.elim) (fun _ _ h _ => h.elim)
  · rintro lo k e14 ⟨v15, A16, c17, q19⟩ A hke ⟨k18, hq20, okq21, H⟩ hzB hRB hS
    dsimp only at hRB k18 hq20 okq21 H ⊢
    rw [drop_of_get hke, m_msg_Others_r1] at H
    dsimp only [List.zip, List.zipWith, List.foldl]
    refine wpC_regionR (by repeat (first | exact NL.round | exact NL.false | exact NL.body (by intro _ h; simp at h) | apply NL.then | apply NL.inBlock | apply NL.jump)) (by kernel_rfl) ?_
    refine wpS_quick 1 rfl ?_
    refine wpS_nil ?_
    refine QH_asg hS ?_
    rintro A2 hS hBase hE
    dsimp only [List.cons_append, List.nil_append] at hS
    refine wpC_block ?_
    refine wpC_seq_k (fun K hK26 => ?_)
    refine wpC_regionR (by repeat (first | exact NL.round | exact NL.false | exact NL.body (by intro _ h; simp at h) | apply NL.then | apply NL.inBlock | apply NL.jump)) (by kernel_rfl) ?_
    refine wpS_put rfl rfl rfl (yv_load_boxA ag_36 rfl (RW.here _) hS hs3 trivial sg0_15) ?_
    refine wpS_alloc rfl rfl zc_36 hS (fun b27 w hS hB => ?_)
    refine wpS_store rfl rfl rfl CellsOf.agg hS ps0 st0_15 (by kernel_rfl) rfl (fun w hS hB => ?_)
    refine wpS_nil ?_
    refine QH_seq_k hK26 ?_
    refine wpC_seq_k (fun K hK29 => ?_)
    refine wpC_drawR (by repeat (first | exact NL.round | exact NL.false | exact NL.body (by intro _ h; simp at h) | apply NL.then | apply NL.inBlock | apply NL.jump)) (by kernel_rfl) 21 [12, 14, 16, 18, 20] (fun i b => (i = 12 → b ≠ b27) ∧ (i = 14 → b ≠ b27) ∧ (i = 16 → b ≠ b27) ∧ (i = 18 → b ≠ b27) ∧ (i = 20 → b ≠ b27)) ⟨by kernel_rfl, by kernel_rfl⟩ hS (fun w hS hB => ?_)
    refine wpR_batch [true, true, false, false, false, false, false, false, true, true, false, true] (by decide +kernel) (by repeat (first | exact PF.body | exact PF.round | apply PF.then | apply PF.inBlock | apply PF.jump)) ?_
    refine LtK.put rfl rfl rfl (yv_fieldAddr fo_30_0 rfl) ?_
    refine LtK.put rfl rfl rfl (yv_load_box sc_3 rfl (RW.below _) hS hs5 trivial sg0_1) ?_
    refine LtK.put rfl rfl rfl (yv_fieldAddr fo_36_9 rfl) ?_
    refine LtK.put rfl rfl rfl (yv_load_box sc_24 rfl (RW.below _) hS hs4 trivial sg9_1) ?_
    refine LtK.put rfl rfl rfl (yv_fieldAddr fo_36_1 rfl) ?_
    refine LtK.nil ?_
    refine wpR_batchG [false, false, true, true, true, true, true, true] [12, 14, 16] (fun b => b ≠ b27) (by decide +kernel) (by intro j hj b hb; simp only [List.mem_cons, List.not_mem_nil, or_false] at hj; (try rcases hj with rfl | rfl | rfl | rfl | rfl) <;> first | (simp [hb]; done) | simp_all) (by repeat (first | exact PF.body | exact PF.round | apply PF.then | apply PF.inBlock | apply PF.jump)) ?_
    refine LtK.put rfl rfl rfl (yv_move rfl) ?_
    refine LtK.put rfl rfl rfl (yv_fieldAddr fo_30_4 rfl) ?_
    refine LtK.put rfl rfl rfl (yv_fieldAddr fo_26_2 rfl) ?_
    refine LtK.put rfl rfl rfl (yv_load_box sc_3 rfl (RW.keepB _ _) hS hs5 (hS.ne 5 0 rfl rfl rfl) sg10_1) ?_
    refine LtK.put rfl rfl rfl (yv_fieldAddr fo_30_3 rfl) ?_
    refine LtK.put rfl rfl rfl (yv_load_box sc_3 rfl (RW.keepB _ _) hS hs5 (hS.ne 5 0 rfl rfl rfl) sg3_1) ?_
    refine LtK.nil ?_
    refine wpR_call [false, false, false, false, false, false, false, false, false, false, true] 10 ⟨by decide, by kernel_rfl, by kernel_rfl⟩ rfl rfl ?_
    try dsimp only [pickL]
    obtain ⟨r30, hm31, H⟩ := bind_some H
    refine wpS_call rfl rfl rfl rfl (by kernel_rfl) rfl (c_slices_Clone___api_Entry_api_Entry_ x1.entries A5_ c5_ _ (SlW.of_rd s5_.k (hS.rdR hBase s5_.rd)) hm31) ?_
    rintro e w ⟨A32, c33, rfl, k34, hN⟩; refine ⟨_, rfl, ?_⟩; have hB := hN.pure; have hS := hS.join hN; clear hN
    refine wpS_nil ?_
    refine QH_step hB ?_
    refine wpR_seal [false, false, false, false, false, false, false, false, false, false, false, false, true] 12 ⟨by decide, by kernel_rfl, by kernel_rfl⟩ rfl rfl ?_
    try dsimp only [pickL]
    refine wpS_store rfl rfl rfl CellsOf.int hS ps1 st1_1 (by kernel_rfl) rfl (fun w hS hB => ?_)
    refine wpS_nil ?_
    refine QH_stepG (hB.sub (fun _ _ h => by simpa using h)) ?_
    refine wpR_batch [false, false, false, false, false, false, false, false, false, false, false, false, false, true] (by decide +kernel) (by repeat (first | exact PF.body | exact PF.round | apply PF.then | apply PF.inBlock | apply PF.jump)) ?_
    refine LtK.put rfl rfl rfl (yv_fieldAddr fo_36_2 rfl) ?_
    refine LtK.nil ?_
    refine wpR_seal [false, false, false, false, false, false, false, false, false, false, false, false, false, false, true] 14 ⟨by decide, by kernel_rfl, by kernel_rfl⟩ rfl rfl ?_
    try dsimp only [pickL]
    refine wpS_store rfl rfl rfl CellsOf.int hS ps1 st2_1 (by kernel_rfl) rfl (fun w hS hB => ?_)
    refine wpS_nil ?_
    refine QH_stepG (hB.sub (fun _ _ h => by simpa using h)) ?_
    refine wpR_batch [false, false, false, false, false, false, false, false, false, false, false, false, false, false, false, true] (by decide +kernel) (by repeat (first | exact PF.body | exact PF.round | apply PF.then | apply PF.inBlock | apply PF.jump)) ?_
    refine LtK.put rfl rfl rfl (yv_fieldAddr fo_36_3 rfl) ?_
    refine LtK.nil ?_
    refine wpR_seal [false, false, false, false, false, false, false, false, false, false, false, false, false, false, false, false, true] 16 ⟨by decide, by kernel_rfl, by kernel_rfl⟩ rfl rfl ?_
    try dsimp only [pickL]
    refine wpS_store rfl rfl rfl CellsOf.int hS ps1 st3_1 (by kernel_rfl) rfl (fun w hS hB => ?_)
    refine wpS_nil ?_
    refine QH_stepG (hB.sub (fun _ _ h => by simpa using h)) ?_
    refine wpR_batch [false, false, false, false, false, false, false, false, false, false, false, false, false, false, false, false, false, true] (by decide +kernel) (by repeat (first | exact PF.body | exact PF.round | apply PF.then | apply PF.inBlock | apply PF.jump)) ?_
    refine LtK.put rfl rfl rfl (yv_fieldAddr fo_36_4 rfl) ?_
    refine LtK.nil ?_
    refine wpR_seal [false, false, false, false, false, false, false, false, false, false, false, false, false, false, false, false, false, false, true] 18 ⟨by decide, by kernel_rfl, by kernel_rfl⟩ rfl rfl ?_
    try dsimp only [pickL]
    refine wpS_store rfl rfl rfl CellsOf.int hS ps1 st4_1 (by kernel_rfl) rfl (fun w hS hB => ?_)
    refine wpS_nil ?_
    refine QH_stepG (hB.sub (fun _ _ h => by simpa using h)) ?_
    refine wpR_batch [false, false, false, false, false, false, false, false, false, false, false, false, false, false, false, false, false, false, false, true] (by decide +kernel) (by repeat (first | exact PF.body | exact PF.round | apply PF.then | apply PF.inBlock | apply PF.jump)) ?_
    refine LtK.put rfl rfl rfl (yv_fieldAddr fo_36_9 rfl) ?_
    refine LtK.nil ?_
    refine wpR_seal [false, false, false, false, false, false, false, false, false, false, false, false, false, false, false, false, false, false, false, false, true] 20 ⟨by decide, by kernel_rfl, by kernel_rfl⟩ rfl rfl ?_
    try dsimp only [pickL]
    refine wpS_store rfl rfl rfl CellsOf.slice hS ps1 st9_1 (by kernel_rfl) rfl (fun w hS hB => ?_)
    refine wpS_nil ?_
    refine QH_stepG (hB.sub (fun _ _ h => by simpa using h)) ?_
    refine wpR_end (by kernel_rfl) ?_
    refine QH_seq_k hK29 ?_
    refine wpC_regionR (by repeat (first | exact NL.round | exact NL.false | exact NL.body (by intro _ h; simp at h) | apply NL.then | apply NL.inBlock | apply NL.jump)) (by kernel_rfl) ?_
    refine wpS_put rfl rfl rfl (yv_load_box sc_32 rfl (RW.here _) hS hs4 trivial sg0_1) ?_
    refine wpS_put rfl rfl rfl (yv_load_boxA ag_36 rfl (RW.here _) hS hs1 trivial sg0_15) ?_
    refine wpS_sliceM (ps := [(0, .tmp 28)]) [.int .u8 x1.kind, .int .i64 x0.id, .int .i64 e14, .int .i64 x0.tuple.term, .int .i64 x0.binary, .int .i64 x1.last, .int .i64 x1.lastTerm, .int .i64 x1.commit, .bool x1.okk, .slice A32 r30.length c33, .int .i64 x1.snap.index, .int .i64 x1.snap.term, .int .i64 x1.snap.sum, .int .i64 x1.snap.level, .bool x1.snap.final] el_32 zc_36 rfl rfl rfl rfl rfl (by kernel_rfl) hS (fun b36 w hS hB => ?_)
    obtain ⟨l38, hf39, H⟩ := bind_some H
    refine wpX_appendQ (l := v15) (q := q19) (y := ⟨(⟨x1.kind, x0.id, e14, x0.tuple.term, x0.binary, x1.last, x1.lastTerm, x1.commit, x1.okk, r30, x1.snap⟩ : Ms), A32, c33⟩) em_32 (by decide) rfl rfl rfl rfl hS hq20 (fun _ => ps3) (hS.box_rd hs0) hf39 (fun A40 c41 w k42 hS hq43 hB => ?_)
    have okq44 := okq_snoc okq21 (show okQ ⟨(⟨x1.kind, x0.id, e14, x0.tuple.term, x0.binary, x1.last, x1.lastTerm, x1.commit, x1.okk, r30, x1.snap⟩ : Ms), A32, c33⟩ from k34)
    replace hS := hS.front 4 rfl
    replace hS := hS.front 2 rfl
    replace hS := hS.weak Weak.rowRd
    replace hS := hS.absorbQ ⟨(⟨x1.kind, x0.id, e14, x0.tuple.term, x0.binary, x1.last, x1.lastTerm, x1.commit, x1.okk, r30, x1.snap⟩ : Ms), A32, c33⟩
    replace hS := hS.front 3 rfl
    refine wpS_store rfl rfl rfl CellsOf.slice hS ps4 st0_1 (by kernel_rfl) rfl (fun w hS hB => ?_)
    refine wpS_nil ?_
    refine QH_block_normal ?_
    exact QH_round hBase hE hS (l38, A40, c41, (q19 ++ [⟨(⟨x1.kind, x0.id, e14, x0.tuple.term, x0.binary, x1.last, x1.lastTerm, x1.commit, x1.okk, r30, x1.snap⟩ : Ms), A32, c33⟩])) (List.Sublist.cons_cons _ (List.Sublist.cons_cons _ (List.Sublist.cons _ (List.Sublist.cons _ (List.Sublist.cons_cons _ (List.Sublist.cons_cons _ (List.Sublist.cons_cons _ List.Sublist.slnil))))))) ⟨k42, hq43, okq44, H⟩
  · rintro ⟨v15, A16, c17, q19⟩ A ⟨k18, hq20, okq21, H⟩ hS
    dsimp only at hS k18 hq20 okq21 H ⊢
    rw [List.drop_length, m_msg_Others_r1] at H
    refine QH_block_normal ?_
    refine QH_seq_k hK8 ?_
    refine wpC_seq_k (fun K hK46 => ?_)
    refine wpC_region ?_
    refine wpS_put rfl rfl rfl (yv_load_box sc_32 rfl (RW.here _) hS hs3 trivial sg0_1) ?_
    refine wpS_store rfl rfl rfl CellsOf.slice hS ps3 st0_1 (by kernel_rfl) rfl (fun w hS hB => ?_)
    refine wpS_nil ?_
    refine QH_seq_k hK46 ?_
    refine wpC_ret ?_
    refine QH_shut (.inl rfl) hS ps0 (fun w hS => ?_)
    replace hS := hS.sub (List.Sublist.cons _ (List.Sublist.cons_cons _ (List.Sublist.cons_cons _ (List.Sublist.cons_cons _ (List.Sublist.cons_cons _ (List.Sublist.cons_cons _ List.Sublist.slnil))))))
    refine QH_ret rfl (RV.cell rfl (load_box1 sc_32 hS hs2 sg0_1) RV.nil) rfl ?_
    obtain rfl := Option.some.inj H
    have hS := hS.front 1 rfl
    replace hS := hS.front 1 rfl
    replace hS := hS.weak Weak.rowRd
    replace hS := hS.cut 2
    exact ⟨A16, c17, q19, rfl, k18, hq20, okq21, hS⟩
theorem c_elect_Timeout (x0 : Co) (A0_ : Option Addr) (c0_ : Nat) (A1_ : Option Addr) (c1_ : Nat) (A2_ : Option Addr) (c2_ : Nat) (A3_ : Option Addr) (c3_ : Nat) (A4_ : Option Addr) (c4_ : Nat) (w0 : World) (s0_ : SlI w0 enE A0_ c0_ x0.tuple.log) (s1_ : SlI w0 enO A1_ c1_ x0.votes) (s2_ : SlI w0 enI A2_ c2_ x0.next) (s3_ : SlI w0 enI A3_ c3_ x0.mtch) (s4_ : SlI w0 enI A4_ c4_ x0.caps) {r : Co × List Ms} (H : m_elect_Timeout x0 = some r) : Calls Try.prog 17 #[.agg #[.int .i64 x0.id, .int .i64 x0.n, .int .u8 x0.role, .int .i64 x0.binary, .int .i64 x0.tuple.snap.index, .int .i64 x0.tuple.snap.term, .int .i64 x0.tuple.snap.sum, .int .i64 x0.tuple.snap.level, .bool x0.tuple.snap.final, .slice A0_ x0.tuple.log.length c0_, .int .i64 x0.tuple.term, .int .i64 x0.tuple.vote, .int .i64 x0.commit, .int .i64 x0.applied.index, .int .i64 x0.applied.term, .int .i64 x0.applied.sum, .int .i64 x0.applied.level, .bool x0.applied.final, .slice A1_ x0.votes.length c1_, .slice A2_ x0.next.length c2_, .slice A3_ x0.mtch.length c3_, .slice A4_ x0.caps.length c4_]] w0 fun e w' => ∃ (A0 : Option Addr) (c0 : Nat) (A1 : Option Addr) (c1 : Nat) (A2 : Option Addr) (c2 : Nat) (A3 : Option Addr) (c3 : Nat) (A4 : Option Addr) (c4 : Nat) (A5 : Option Addr) (c5 : Nat) (q5 : List Mq), e = .returned (.tuple #[.agg #[.int .i64 r.1.id, .int .i64 r.1.n, .int .u8 r.1.role, .int .i64 r.1.binary, .int .i64 r.1.tuple.snap.index, .int .i64 r.1.tuple.snap.term, .int .i64 r.1.tuple.snap.sum, .int .i64 r.1.tuple.snap.level, .bool r.1.tuple.snap.final, .slice A0 r.1.tuple.log.length c0, .int .i64 r.1.tuple.term, .int .i64 r.1.tuple.vote, .int .i64 r.1.commit, .int .i64 r.1.applied.index, .int .i64 r.1.applied.term, .int .i64 r.1.applied.sum, .int .i64 r.1.applied.level, .bool r.1.applied.final, .slice A1 r.1.votes.length c1, .slice A2 r.1.next.length c2, .slice A3 r.1.mtch.length c3, .slice A4 r.1.caps.length c4], .slice A5 r.2.length c5]) ∧ (r.1.tuple.log.length ≤ c0 ∧ c0 ≤ maxLen) ∧ (r.1.votes.length ≤ c1 ∧ c1 ≤ maxLen) ∧ (r.1.next.length ≤ c2 ∧ c2 ≤ maxLen) ∧ (r.1.mtch.length ≤ c3 ∧ c3 ≤ maxLen) ∧ (r.1.caps.length ≤ c4 ∧ c4 ≤ maxLen) ∧ (r.2.length ≤ c5 ∧ c5 ≤ maxLen) ∧ q5.map Mq.m = r.2 ∧ (∀ y ∈ q5, okQ y) ∧ St0 All w0 w' [.rd A0 (encs enE r.1.tuple.log), .row (.slice A1 r.1.votes.length c1) 4 1 r.1.votes.length (encs enO r.1.votes), .row (.slice A2 r.1.next.length c2) 3 1 r.1.next.length (encs enI r.1.next), .row (.slice A3 r.1.mtch.length c3) 3 1 r.1.mtch.length (encs enI r.1.mtch), .row (.slice A4 r.1.caps.length c4) 3 1 r.1.caps.length (encs enI r.1.caps), .rd A5 (encs enQ q5), .rds (q5.map subQ)] := by
  unfold m_elect_Timeout at H
  refine gw_enter1 Try.func17 rfl Try.ntmps17 rfl ?_
  have hS := St0.start All w0
  refine wpC_seq_k (fun K hK1 => ?_)
  refine wpC_region ?_
  refine wpS_box rfl rfl rfl CellsOf.agg hS (fun b2 w hS hB => ?_)
  refine wpS_alloc rfl rfl zc_30 hS (fun b4 w hS hB => ?_)
  refine wpS_quick 1 rfl ?_
  refine wpS_nil ?_
  refine QH_seq_k hK1 ?_
  refine wpC_seq_k (fun K hK6 => ?_)
  refine wpC_region ?_
  refine wpS_put rfl rfl rfl (yv_load_boxA ag_30 rfl (RW.here _) hS hs1 trivial sg0_22) ?_
  obtain ⟨r7, hm8, H⟩ := bind_some H
  refine wpS_call rfl rfl rfl rfl (by kernel_rfl) rfl (c_msg_Own x0 A0_ c0_ A1_ c1_ A2_ c2_ A3_ c3_ A4_ c4_ _ (SlI.of_rd s0_.k (hS.rd0 s0_.rd) (hS.blk0 s0_.blk)) (SlI.of_rd s1_.k (hS.rd0 s1_.rd) (hS.blk0 s1_.blk)) (SlI.of_rd s2_.k (hS.rd0 s2_.rd) (hS.blk0 s2_.blk)) (SlI.of_rd s3_.k (hS.rd0 s3_.rd) (hS.blk0 s3_.blk)) (SlI.of_rd s4_.k (hS.rd0 s4_.rd) (hS.blk0 s4_.blk)) hm8) ?_
  rintro e w ⟨A9, c10, A13, c14, A17, c18, A21, c22, A25, c26, rfl, k11, k15, k19, k23, k27, hN⟩; refine ⟨_, rfl, ?_⟩; have hB := hN.pure; have hS := hS.join hN; clear hN
  refine wpS_store rfl rfl rfl CellsOf.agg hS ps6 st0_22 (by kernel_rfl) rfl (fun w hS hB => ?_)
  refine wpS_nil ?_
  refine QH_seq_k hK6 ?_
  refine wpC_seq_k (fun K hK29 => ?_)
  refine wpC_seq_k (fun K hK30 => ?_)
  refine wpC_region ?_
  refine wpS_put rfl rfl rfl (yv_load_boxA ag_30 rfl (RW.here _) hS hs6 trivial sg0_22) ?_
  obtain ⟨r31, hm32, H⟩ := bind_some H
  refine wpS_call rfl rfl rfl rfl (by kernel_rfl) rfl (c_msg_Right r7 A9 c10 A13 c14 A17 c18 A21 c22 A25 c26 _ (SlI.of_rd k11 (hS.row_rd hs0) (hS.row_blk hs0)) (SlI.of_rd k15 (hS.row_rd hs1) (hS.row_blk hs1)) (SlI.of_rd k19 (hS.row_rd hs2) (hS.row_blk hs2)) (SlI.of_rd k23 (hS.row_rd hs3) (hS.row_blk hs3)) (SlI.of_rd k27 (hS.row_rd hs4) (hS.row_blk hs4)) hm32) ?_
  rintro e w ⟨rfl, hN⟩; refine ⟨_, rfl, ?_⟩; have hB := hN.pure; have hS := hS.join hN; clear hN
  refine wpS_put rfl rfl rfl (yv_not rfl) ?_
  refine wpS_quick 1 rfl ?_
  refine wpS_case 11 rfl (fun hb => ?_) (fun hb => ?_)
  · replace H := cond_t H hb
    refine wpS_quick 10 rfl ?_
    refine wpS_nil ?_
    refine QH_seq_k hK30 ?_
    refine wpC_cond_t rfl rfl ?_
    refine wpC_seq_k (fun K hK34 => ?_)
    refine wpC_region ?_
    refine wpS_put rfl rfl rfl (yv_load_boxA ag_30 rfl (RW.here _) hS hs6 trivial sg0_22) ?_
    refine wpS_store rfl rfl rfl CellsOf.agg hS ps5 st0_22 (by kernel_rfl) rfl (fun w hS hB => ?_)
    refine wpS_quick 1 rfl ?_
    refine wpS_nil ?_
    refine QH_seq_k hK34 ?_
    refine wpC_ret ?_
    refine QH_then_ret ?_
    refine QH_ret rfl (RV.cell rfl (load_boxA ag_30 hS hs5 sg0_22) (RV.tmp rfl RV.nil)) rfl ?_
    obtain rfl := Option.some.inj H
    have hS := hS.nilRds
    replace hS := hS.nilRd
    have hS := hS.front 6 rfl
    have hS := hS.front 6 rfl
    have hS := hS.front 6 rfl
    have hS := hS.front 6 rfl
    have hS := hS.front 6 rfl
    replace hS := hS.weak Weak.rowRd
    replace hS := hS.cut 7
    exact ⟨A9, c10, A13, c14, A17, c18, A21, c22, A25, c26, none, 0, ([] : List Mq), rfl, k11, k15, k19, k23, k27, ⟨Nat.le_refl _, Nat.zero_le _⟩, rfl, okq_nil, hS⟩
  replace H := cond_f H hb
  refine wpS_put rfl rfl rfl (yv_fieldAddr fo_30_2 rfl) ?_
  refine wpS_put rfl rfl rfl (yv_load_box sc_5 rfl (RW.here _) hS hs6 trivial sg2_1) ?_
  refine wpS_put rfl rfl rfl (yv_eql rfl rfl) ?_
  refine wpS_quick 2 rfl ?_
  refine wpS_case 16 rfl (fun hb => ?_) (fun hb => ?_)
  · replace H := cond_t H hb
    refine wpS_quick 5 rfl ?_
    refine wpS_nil ?_
    refine QH_seq_k hK30 ?_
    refine wpC_cond_t rfl rfl ?_
    refine wpC_seq_k (fun K hK37 => ?_)
    refine wpC_region ?_
    refine wpS_put rfl rfl rfl (yv_load_boxA ag_30 rfl (RW.here _) hS hs6 trivial sg0_22) ?_
    refine wpS_store rfl rfl rfl CellsOf.agg hS ps5 st0_22 (by kernel_rfl) rfl (fun w hS hB => ?_)
    refine wpS_quick 1 rfl ?_
    refine wpS_nil ?_
    refine QH_seq_k hK37 ?_
    refine wpC_ret ?_
    refine QH_then_ret ?_
    refine QH_ret rfl (RV.cell rfl (load_boxA ag_30 hS hs5 sg0_22) (RV.tmp rfl RV.nil)) rfl ?_
    obtain rfl := Option.some.inj H
    have hS := hS.nilRds
    replace hS := hS.nilRd
    have hS := hS.front 6 rfl
    have hS := hS.front 6 rfl
    have hS := hS.front 6 rfl
    have hS := hS.front 6 rfl
    have hS := hS.front 6 rfl
    replace hS := hS.weak Weak.rowRd
    replace hS := hS.cut 7
    exact ⟨A9, c10, A13, c14, A17, c18, A21, c22, A25, c26, none, 0, ([] : List Mq), rfl, k11, k15, k19, k23, k27, ⟨Nat.le_refl _, Nat.zero_le _⟩, rfl, okq_nil, hS⟩
  replace H := cond_f H hb
  refine wpS_put rfl rfl rfl (yv_fieldAddr fo_30_4 rfl) ?_
  refine wpS_put rfl rfl rfl (yv_fieldAddr fo_26_2 rfl) ?_
  refine wpS_put rfl rfl rfl (yv_load_box sc_3 rfl (RW.here _) hS hs6 trivial sg10_1) ?_
  refine wpS_put rfl rfl rfl (yv_eql rfl rfl) ?_
  refine wpS_quick 1 rfl ?_
  refine wpS_nil ?_
  refine QH_seq_k hK30 ?_
  refine wpC_cond rfl (fun hb => ?_) (fun hb => ?_)
  · replace H := cond_t H hb
    refine wpC_seq_k (fun K hK40 => ?_)
    refine wpC_region ?_
    refine wpS_put rfl rfl rfl (yv_load_boxA ag_30 rfl (RW.here _) hS hs6 trivial sg0_22) ?_
    refine wpS_store rfl rfl rfl CellsOf.agg hS ps5 st0_22 (by kernel_rfl) rfl (fun w hS hB => ?_)
    refine wpS_quick 1 rfl ?_
    refine wpS_nil ?_
    refine QH_seq_k hK40 ?_
    refine wpC_ret ?_
    refine QH_then_ret ?_
    refine QH_ret rfl (RV.cell rfl (load_boxA ag_30 hS hs5 sg0_22) (RV.tmp rfl RV.nil)) rfl ?_
    obtain rfl := Option.some.inj H
    have hS := hS.nilRds
    replace hS := hS.nilRd
    have hS := hS.front 6 rfl
    have hS := hS.front 6 rfl
    have hS := hS.front 6 rfl
    have hS := hS.front 6 rfl
    have hS := hS.front 6 rfl
    replace hS := hS.weak Weak.rowRd
    replace hS := hS.cut 7
    exact ⟨A9, c10, A13, c14, A17, c18, A21, c22, A25, c26, none, 0, ([] : List Mq), rfl, k11, k15, k19, k23, k27, ⟨Nat.le_refl _, Nat.zero_le _⟩, rfl, okq_nil, hS⟩
  replace H := cond_f H hb
  refine wpC_skip ?_
  refine QH_seq_k hK29 ?_
  refine wpC_seq_k (fun K hK42 => ?_)
  refine wpC_region ?_
  refine wpS_put rfl rfl rfl (yv_load_boxA ag_30 rfl (RW.here _) hS hs6 trivial sg0_22) ?_
  refine wpS_put rfl rfl rfl (yv_fieldAddr fo_30_4 rfl) ?_
  refine wpS_put rfl rfl rfl (yv_fieldAddr fo_26_2 rfl) ?_
  refine wpS_put rfl rfl rfl (yv_load_box sc_3 rfl (RW.here _) hS hs6 trivial sg10_1) ?_
  refine wpS_put rfl rfl rfl (yx_add rfl rfl) ?_
  refine wpS_put rfl rfl rfl (yv_fieldAddr fo_30_0 rfl) ?_
  refine wpS_put rfl rfl rfl (yv_load_box sc_3 rfl (RW.here _) hS hs6 trivial sg0_1) ?_
  refine wpS_put rfl rfl rfl (yv_fieldAddr fo_30_0 rfl) ?_
  refine wpS_put rfl rfl rfl (yv_load_box sc_3 rfl (RW.here _) hS hs6 trivial sg0_1) ?_
  refine wpS_sliceM (ps := [(0, .tmp 31)]) [.int .i64 r7.id] el_28 zc_3 rfl rfl rfl rfl rfl (by kernel_rfl) hS (fun b43 w hS hB => ?_)
  refine wpS_in rfl rfl rfl rfl (by kernel_rfl) rfl ?_
  show Calls _ _ #[_, _, _, _, _] _ _
  refine gw_enter5 Try.func45 rfl Try.ntmps45 rfl ?_
  refine wpC_seq_k (fun K hK45 => ?_)
  refine wpC_region ?_
  refine wpS_box rfl rfl rfl CellsOf.agg hS (fun b46 w hS hB => ?_)
  refine wpS_alloc rfl rfl zc_30 hS (fun b48 w hS hB => ?_)
  refine wpS_nil ?_
  refine QH_seq_k hK45 ?_
  refine wpC_seq_k (fun K hK50 => ?_)
  refine wpC_region ?_
  refine wpS_put rfl rfl rfl (yv_fieldAddr fo_30_4 rfl) ?_
  refine wpS_put rfl rfl rfl (yv_load_boxA ag_26 rfl (RW.here _) hS hs1 trivial sg4_8) ?_
  refine wpS_quick 2 rfl ?_
  obtain ⟨r51, hm52, H⟩ := bind_some H
  refine wpS_call rfl rfl rfl rfl (by kernel_rfl) rfl (c_tuple_Hard r7.tuple (IntKind.wrap .i64 (r7.tuple.term + 1)) r7.id A9 c10 _ (SlI.of_rd k11 (hS.row_rd hs3) (hS.row_blk hs3)) hm52) ?_
  rintro e w ⟨A53, c54, rfl, k55, hN⟩; refine ⟨_, rfl, ?_⟩; have hB := hN.pure; have hS := hS.join hN; clear hN
  refine wpS_quick 1 rfl ?_
  refine wpS_put rfl rfl rfl (yv_extract rfl rfl) ?_
  refine wpS_put rfl rfl rfl (yv_extract rfl rfl) ?_
  refine wpS_put rfl rfl rfl (yv_fieldAddr fo_30_4 rfl) ?_
  refine wpS_store rfl rfl rfl CellsOf.agg hS ps2 st4_8 (by kernel_rfl) rfl (fun w hS hB => ?_)
  refine wpS_nil ?_
  refine QH_seq_k hK50 ?_
  refine wpC_seq_k (fun K hK57 => ?_)
  refine wpC_draw 8 [5, 7] (fun i b => (i = 5 → b ≠ b46) ∧ (i = 7 → b ≠ b46)) ⟨by kernel_rfl, by kernel_rfl⟩ hS (fun w hS hB => ?_)
  refine wpR_batch [true, true, true, false, true] (by decide +kernel) (by repeat (first | exact PF.body | exact PF.round | apply PF.then | apply PF.inBlock | apply PF.jump)) ?_
  refine LtK.put rfl rfl rfl (yv_move rfl) ?_
  refine LtK.put rfl rfl rfl (yv_fieldAddr fo_30_1 rfl) ?_
  refine LtK.put rfl rfl rfl (yv_load_box sc_3 rfl (RW.below _) hS hs2 trivial sg1_1) ?_
  refine LtK.put rfl rfl rfl (yv_fieldAddr fo_30_2 rfl) ?_
  refine LtK.nil ?_
  refine wpR_many [3, 5] ⟨by decide, by kernel_rfl⟩ rfl (.call [false, false, false, true] 3 rfl rfl rfl ?_ (.put [false, false, false, false, false, true] 5 rfl rfl rfl ?_ .nil))
  · try dsimp only [pickL]
    obtain ⟨l58, hm59, H⟩ := bind_some H
    refine wpX_make he_enO em_27 rfl (by decide) rfl rfl rfl rfl hS hm59 (fun A60 c61 w k62 hS hB => ?_)
    refine wpS_nil ?_
    refine QH_step hB ?_
    refine wpR_seal [false, false, false, false, false, true] 5 ⟨by decide, by kernel_rfl, by kernel_rfl⟩ rfl rfl ?_
    try dsimp only [pickL]
    refine wpS_store rfl rfl rfl CellsOf.int hS ps3 st2_1 (by kernel_rfl) rfl (fun w hS hB => ?_)
    refine wpS_nil ?_
    refine QH_stepG (hB.sub (fun _ _ h => by simpa using h)) ?_
    refine wpR_batch [false, false, false, false, false, false, true] (by decide +kernel) (by repeat (first | exact PF.body | exact PF.round | apply PF.then | apply PF.inBlock | apply PF.jump)) ?_
    refine LtK.put rfl rfl rfl (yv_fieldAddr fo_30_7 rfl) ?_
    refine LtK.nil ?_
    refine wpR_seal [false, false, false, false, false, false, false, true] 7 ⟨by decide, by kernel_rfl, by kernel_rfl⟩ rfl rfl ?_
    try dsimp only [pickL]
    refine wpS_store rfl rfl rfl CellsOf.slice hS ps3 st18_1 (by kernel_rfl) rfl (fun w hS hB => ?_)
    refine wpS_nil ?_
    refine QH_stepG (hB.sub (fun _ _ h => by simpa using h)) ?_
    refine wpR_end (by kernel_rfl) ?_
    refine QH_seq_k hK57 ?_
    refine wpC_seq_k (fun K hK64 => ?_)
    refine wpC_seq_k (fun K hK65 => ?_)
    refine wpC_region ?_
    refine wpS_quick 1 rfl ?_
    refine wpS_put rfl rfl rfl (yv_len el_28 rfl) ?_
    refine wpS_quick 1 rfl ?_
    refine wpS_nil ?_
    refine QH_seq_k hK65 ?_
    refine wpC_block ?_
    refine wpC_rounds 60 ?_
    refine wpC_seq_k (fun K hK66 => ?_)
    refine wpC_region ?_
    refine wpS_put rfl rfl rfl (yv_lss rfl rfl) ?_
    refine wpS_nil ?_
    refine QH_seq_k hK66 ?_
    refine wpC_seq_k (fun K hK67 => ?_)
    refine wpC_cond_t rfl rfl ?_
    refine wpC_skip ?_
    refine QH_seq_k hK67 ?_
    refine wpC_seq_k (fun K hK68 => ?_)
    refine wpC_block ?_
    refine wpC_seq_k (fun K hK69 => ?_)
    refine wpC_region ?_
    obtain ⟨e70, hi72, H⟩ := bind_some H
    obtain ⟨j71, hi72a, hi72b, hi72c⟩ := idx_some hi72
    refine wpS_put rfl rfl rfl (yx_idx el_28 rfl rfl hi72a hi72c (Rd.el (hS.box_rd hs4) he_enI hi72b)) ?_
    refine wpS_put rfl rfl rfl (yx_ld0 sc_3 rfl (RW.here _) (Rd.el (hS.box_rd hs4) he_enI hi72b) rfl) ?_
    refine wpS_quick 1 rfl ?_
    refine wpS_nil ?_
    refine QH_seq_k hK69 ?_
    refine wpC_region ?_
    refine wpS_put rfl rfl rfl (yv_fieldAddr fo_30_7 rfl) ?_
    refine wpS_put rfl rfl rfl (yv_load_box sc_27 rfl (RW.here _) hS hs3 trivial sg18_1) ?_
    refine wpS_quick 1 rfl ?_
    refine wpS_put rfl rfl rfl (yx_sub rfl rfl) ?_
    obtain ⟨e73, hi75, H⟩ := bind_some H
    obtain ⟨j74, hi75a, hi75b, hi75c⟩ := idx_some hi75
    refine wpS_put rfl rfl rfl (yx_idx el_27 rfl rfl hi75a hi75c (Rd.el (hS.row_rd hs0) he_enO hi75b)) ?_
    refine wpX_storeR (a' := true) (zs := (setI l58 (IntKind.wrap .i64 (e70 - 1)) true)) he_enO rfl rfl rfl CellsOf.bool hS ps0 (Rd.el (hS.row_rd hs0) he_enO hi75b) hi75a hi75b rfl st0_1 (by kernel_rfl) rfl (fun w hS => ?_)
    have hi76b := setI_at (a := true) hi75a hi75b
    have hi76a := hi75a
    refine wpS_nil ?_
    refine QH_block_normal ?_
    refine QH_seq_k hK68 ?_
    refine wpC_region ?_
    refine wpS_put rfl rfl rfl (yx_add rfl rfl) ?_
    refine wpS_quick 1 rfl ?_
    refine wpS_nil ?_
    refine QH_more ?_
    refine wpC_seq_k (fun K hK77 => ?_)
    refine wpC_region ?_
    refine wpS_put rfl rfl rfl (yv_lss rfl rfl) ?_
    refine wpS_nil ?_
    refine QH_seq_k hK77 ?_
    refine wpC_seq_k (fun K hK78 => ?_)
    refine wpC_cond_f rfl rfl ?_
    refine wpC_exit ?_
    refine QH_then_exit ?_
    refine QH_then_exit ?_
    refine QH_block_hit ?_
    refine QH_seq_k hK64 ?_
    refine wpC_seq_k (fun K hK79 => ?_)
    refine wpC_region ?_
    refine wpS_put rfl rfl rfl (yv_load_boxA ag_30 rfl (RW.here _) hS hs3 trivial sg0_22) ?_
    refine wpS_store rfl rfl rfl CellsOf.agg hS ps2 st0_22 (by kernel_rfl) rfl (fun w hS hB => ?_)
    refine wpS_nil ?_
    refine QH_seq_k hK79 ?_
    refine wpC_ret ?_
    refine QH_ret rfl (RV.cell rfl (load_boxA ag_30 hS hs2 sg0_22) RV.nil) rfl ?_
    refine ⟨_, rfl, ?_⟩
    refine wpS_store rfl rfl rfl CellsOf.agg hS ps11 st0_22 (by kernel_rfl) rfl (fun w hS hB => ?_)
    refine wpS_nil ?_
    refine QH_seq_k hK42 ?_
    refine wpC_seq_k (fun K hK80 => ?_)
    refine wpC_seq_k (fun K hK81 => ?_)
    refine wpC_region ?_
    refine wpS_put rfl rfl rfl (yv_fieldAddr fo_30_7 rfl) ?_
    refine wpS_put rfl rfl rfl (yv_load_box sc_27 rfl (RW.here _) hS hs11 trivial sg18_1) ?_
    obtain ⟨r82, hm83, H⟩ := bind_some H
    refine wpS_call rfl rfl rfl rfl (by kernel_rfl) (by (repeat rw [(setI_len rfl)]); rfl) (c_elect_Half (setI l58 (IntKind.wrap .i64 (e70 - 1)) true) A60 c61 _ (SlI.of_rd (k_set k62) (hS.row_rd hs0) (hS.row_blk hs0)) hm83) ?_
    rintro e w ⟨rfl, hN⟩; refine ⟨_, rfl, ?_⟩; have hB := hN.pure; have hS := hS.join hN; clear hN
    refine wpS_nil ?_
    refine QH_seq_k hK81 ?_
    refine wpC_cond rfl (fun hb => ?_) (fun hb => ?_)
    · replace H := cond_t H hb
      have hw84 := hb
      refine wpC_seq_k (fun K hK85 => ?_)
      refine wpC_region ?_
      refine wpS_put rfl rfl rfl (yv_load_boxA ag_30 rfl (RW.here _) hS hs11 trivial sg0_22) ?_
      obtain ⟨r86, hm87, H⟩ := bind_some H
      refine wpS_call rfl rfl rfl rfl (by kernel_rfl) (by (repeat rw [(setI_len rfl)]); rfl) (c_elect_Lead (⟨r7.id, r7.n, 1, r7.binary, r51.1, r7.commit, r7.applied, (setI l58 (IntKind.wrap .i64 (e70 - 1)) true), r7.next, r7.mtch, r7.caps⟩ : Co) A53 c54 A60 c61 A17 c18 A21 c22 A25 c26 _ (SlI.of_rd k55 (hS.rd hs1) (hS.rd_blk hs1)) (SlI.of_rd (k_set k62) (hS.row_rd hs0) (hS.row_blk hs0)) (SlI.of_rd k19 (hS.row_rd hs7) (hS.row_blk hs7)) (SlI.of_rd k23 (hS.row_rd hs8) (hS.row_blk hs8)) (SlI.of_rd k27 (hS.row_rd hs9) (hS.row_blk hs9)) hm87) ?_
      rintro e w ⟨A88, c89, A92, c93, A96, c97, A100, c101, A104, c105, rfl, k90, k94, k98, k102, k106, hN⟩; refine ⟨_, rfl, ?_⟩; have hB := hN.pure; have hS := hS.join hN; clear hN
      refine wpS_store rfl rfl rfl CellsOf.agg hS ps15 st0_22 (by kernel_rfl) rfl (fun w hS hB => ?_)
      refine wpS_quick 1 rfl ?_
      refine wpS_nil ?_
      refine QH_seq_k hK85 ?_
      refine wpC_ret ?_
      refine QH_then_ret ?_
      refine QH_ret rfl (RV.cell rfl (load_boxA ag_30 hS hs15 sg0_22) (RV.tmp rfl RV.nil)) rfl ?_
      obtain rfl := Option.some.inj H
      have hS := hS.nilRds
      replace hS := hS.nilRd
      have hS := hS.front 6 rfl
      have hS := hS.front 6 rfl
      have hS := hS.front 6 rfl
      have hS := hS.front 6 rfl
      have hS := hS.front 6 rfl
      replace hS := hS.cut 7
      exact ⟨A88, c89, A92, c93, A96, c97, A100, c101, A104, c105, none, 0, ([] : List Mq), rfl, k90, k94, k98, k102, k106, ⟨Nat.le_refl _, Nat.zero_le _⟩, rfl, okq_nil, hS⟩
    replace H := cond_f H hb
    have hw108 := hb
    refine wpC_skip ?_
    refine QH_seq_k hK80 ?_
    refine wpC_seq_k (fun K hK109 => ?_)
    refine wpC_region ?_
    refine wpS_put rfl rfl rfl (yv_load_boxA ag_30 rfl (RW.here _) hS hs11 trivial sg0_22) ?_
    obtain ⟨r110, hm111, H⟩ := bind_some H
    refine wpS_call rfl rfl rfl rfl (by kernel_rfl) (by (repeat rw [(setI_len rfl)]); rfl) (c_elect_end (⟨r7.id, r7.n, 1, r7.binary, r51.1, r7.commit, r7.applied, (setI l58 (IntKind.wrap .i64 (e70 - 1)) true), r7.next, r7.mtch, r7.caps⟩ : Co) A53 c54 A60 c61 A17 c18 A21 c22 A25 c26 _ (SlI.of_rd k55 (hS.rd hs1) (hS.rd_blk hs1)) (SlI.of_rd (k_set k62) (hS.row_rd hs0) (hS.row_blk hs0)) (SlI.of_rd k19 (hS.row_rd hs7) (hS.row_blk hs7)) (SlI.of_rd k23 (hS.row_rd hs8) (hS.row_blk hs8)) (SlI.of_rd k27 (hS.row_rd hs9) (hS.row_blk hs9)) hm111) ?_
    rintro e w ⟨rfl, hN⟩; refine ⟨_, rfl, ?_⟩; have hB := hN.pure; have hS := hS.join hN; clear hN
    refine wpS_quick 1 rfl ?_
    refine wpS_put rfl rfl rfl (yv_extract rfl rfl) ?_
    refine wpS_put rfl rfl rfl (yv_extract rfl rfl) ?_
    refine wpS_quick 2 rfl ?_
    refine wpS_nil ?_
    refine QH_seq_k hK109 ?_
    refine wpC_seq_k (fun K hK112 => ?_)
    refine wpC_draw 8 [6] (fun i b => (i = 6 → b ≠ b4)) ⟨by kernel_rfl, by kernel_rfl⟩ hS (fun w hS hB => ?_)
    refine wpR_batch [true, true, true, true, true] (by decide +kernel) (by repeat (first | exact PF.body | exact PF.round | apply PF.then | apply PF.inBlock | apply PF.jump)) ?_
    refine LtK.put rfl rfl rfl (yv_load_boxA ag_30 rfl (RW.below _) hS hs11 trivial sg0_22) ?_
    refine LtK.put rfl rfl rfl (yv_load_boxA ag_30 rfl (RW.below _) hS hs11 trivial sg0_22) ?_
    refine LtK.put rfl rfl rfl (yv_move rfl) ?_
    refine LtK.put rfl rfl rfl (yv_move rfl) ?_
    refine LtK.put rfl rfl rfl (yv_build (cells := [.int .u8 1, .int .i64 0, .int .i64 0, .int .i64 0, .int .i64 0, .int .i64 r110.1, .int .i64 r110.2, .int .i64 0, .bool false, .slice none 0 0, .int .i64 0, .int .i64 0, .int .i64 0, .int .i64 0, .bool false]) rfl (by kernel_rfl)) ?_
    refine LtK.nil ?_
    refine wpR_call [false, false, false, false, false, true] 5 ⟨by decide, by kernel_rfl, by kernel_rfl⟩ rfl rfl ?_
    try dsimp only [pickL]
    obtain ⟨r113, hm114, H⟩ := bind_some H
    refine wpS_call rfl rfl rfl rfl (by kernel_rfl) (by (repeat rw [(setI_len rfl)]); rfl) (c_msg_Others (⟨r7.id, r7.n, 1, r7.binary, r51.1, r7.commit, r7.applied, (setI l58 (IntKind.wrap .i64 (e70 - 1)) true), r7.next, r7.mtch, r7.caps⟩ : Co) (⟨1, 0, 0, 0, 0, r110.1, r110.2, 0, false, [], (⟨0, 0, 0, 0, false⟩ : St)⟩ : Ms) A53 c54 A60 c61 A17 c18 A21 c22 A25 c26 none 0 _ (SlI.of_rd k55 (hS.rd hs1) (hS.rd_blk hs1)) (SlI.of_rd (k_set k62) (hS.row_rd hs0) (hS.row_blk hs0)) (SlI.of_rd k19 (hS.row_rd hs7) (hS.row_blk hs7)) (SlI.of_rd k23 (hS.row_rd hs8) (hS.row_blk hs8)) (SlI.of_rd k27 (hS.row_rd hs9) (hS.row_blk hs9)) (SlW.nil _ _) hm114) ?_
    rintro e w ⟨A115, c116, q119, rfl, k117, hq120, okq121, hN⟩; refine ⟨_, rfl, ?_⟩; have hB := hN.pure; have hS := hS.join hN; clear hN
    refine wpS_nil ?_
    refine QH_step hB ?_
    refine wpR_seal [false, false, false, false, false, false, true] 6 ⟨by decide, by kernel_rfl, by kernel_rfl⟩ rfl rfl ?_
    try dsimp only [pickL]
    refine wpS_store rfl rfl rfl CellsOf.agg hS ps12 st0_22 (by kernel_rfl) rfl (fun w hS hB => ?_)
    refine wpS_nil ?_
    refine QH_stepG (hB.sub (fun _ _ h => by simpa using h)) ?_
    refine wpR_batch [false, false, false, false, false, false, false, true] (by decide +kernel) (by repeat (first | exact PF.body | exact PF.round | apply PF.then | apply PF.inBlock | apply PF.jump)) ?_
    refine LtK.put rfl rfl rfl (yv_assign rfl) ?_
    refine LtK.nil ?_
    refine wpR_end (by kernel_rfl) ?_
    refine QH_seq_k hK112 ?_
    refine wpC_ret ?_
    refine QH_ret rfl (RV.cell rfl (load_boxA ag_30 hS hs12 sg0_22) (RV.tmp rfl RV.nil)) rfl ?_
    obtain rfl := Option.some.inj H
    have hS := hS.front 1 rfl
    replace hS := hS.front 1 rfl
    have hS := hS.front 11 rfl
    have hS := hS.front 11 rfl
    have hS := hS.front 11 rfl
    have hS := hS.front 5 rfl
    have hS := hS.front 6 rfl
    replace hS := hS.cut 7
    exact ⟨A53, c54, A60, c61, A17, c18, A21, c22, A25, c26, A115, c116, q119, by (repeat rw [(setI_len rfl)]); rfl, k55, (k_set k62), k19, k23, k27, k117, hq120, okq121, hS.eqv (by (repeat rw [(setI_len rfl)]); rfl)⟩
  · try dsimp only [pickL]
    refine wpS_store rfl rfl rfl CellsOf.int hS ps2 st2_1 (by kernel_rfl) rfl (fun w hS hB => ?_)
    refine wpS_nil ?_
    refine QH_stepG (hB.sub (fun _ _ h => by simpa using h)) ?_
    refine wpR_call [false, false, false, true] 3 ⟨by decide, by kernel_rfl, by kernel_rfl⟩ rfl rfl ?_
    try dsimp only [pickL]
    obtain ⟨l58, hm59, H⟩ := bind_some H
    refine wpX_make he_enO em_27 rfl (by decide) rfl rfl rfl rfl hS hm59 (fun A60 c61 w k62 hS hB => ?_)
    refine wpS_nil ?_
    refine QH_step hB ?_
    refine wpR_batch [false, false, false, false, false, false, true] (by decide +kernel) (by repeat (first | exact PF.body | exact PF.round | apply PF.then | apply PF.inBlock | apply PF.jump)) ?_
    refine LtK.put rfl rfl rfl (yv_fieldAddr fo_30_7 rfl) ?_
    refine LtK.nil ?_
    refine wpR_seal [false, false, false, false, false, false, false, true] 7 ⟨by decide, by kernel_rfl, by kernel_rfl⟩ rfl rfl ?_
    try dsimp only [pickL]
    refine wpS_store rfl rfl rfl CellsOf.slice hS ps3 st18_1 (by kernel_rfl) rfl (fun w hS hB => ?_)
    refine wpS_nil ?_
    refine QH_stepG (hB.sub (fun _ _ h => by simpa using h)) ?_
    refine wpR_end (by kernel_rfl) ?_
    refine QH_seq_k hK57 ?_
    refine wpC_seq_k (fun K hK64 => ?_)
    refine wpC_seq_k (fun K hK65 => ?_)
    refine wpC_region ?_
    refine wpS_quick 1 rfl ?_
    refine wpS_put rfl rfl rfl (yv_len el_28 rfl) ?_
    refine wpS_quick 1 rfl ?_
    refine wpS_nil ?_
    refine QH_seq_k hK65 ?_
    refine wpC_block ?_
    refine wpC_rounds 60 ?_
    refine wpC_seq_k (fun K hK66 => ?_)
    refine wpC_region ?_
    refine wpS_put rfl rfl rfl (yv_lss rfl rfl) ?_
    refine wpS_nil ?_
    refine QH_seq_k hK66 ?_
    refine wpC_seq_k (fun K hK67 => ?_)
    refine wpC_cond_t rfl rfl ?_
    refine wpC_skip ?_
    refine QH_seq_k hK67 ?_
    refine wpC_seq_k (fun K hK68 => ?_)
    refine wpC_block ?_
    refine wpC_seq_k (fun K hK69 => ?_)
    refine wpC_region ?_
    obtain ⟨e70, hi72, H⟩ := bind_some H
    obtain ⟨j71, hi72a, hi72b, hi72c⟩ := idx_some hi72
    refine wpS_put rfl rfl rfl (yx_idx el_28 rfl rfl hi72a hi72c (Rd.el (hS.box_rd hs4) he_enI hi72b)) ?_
    refine wpS_put rfl rfl rfl (yx_ld0 sc_3 rfl (RW.here _) (Rd.el (hS.box_rd hs4) he_enI hi72b) rfl) ?_
    refine wpS_quick 1 rfl ?_
    refine wpS_nil ?_
    refine QH_seq_k hK69 ?_
    refine wpC_region ?_
    refine wpS_put rfl rfl rfl (yv_fieldAddr fo_30_7 rfl) ?_
    refine wpS_put rfl rfl rfl (yv_load_box sc_27 rfl (RW.here _) hS hs3 trivial sg18_1) ?_
    refine wpS_quick 1 rfl ?_
    refine wpS_put rfl rfl rfl (yx_sub rfl rfl) ?_
    obtain ⟨e73, hi75, H⟩ := bind_some H
    obtain ⟨j74, hi75a, hi75b, hi75c⟩ := idx_some hi75
    refine wpS_put rfl rfl rfl (yx_idx el_27 rfl rfl hi75a hi75c (Rd.el (hS.row_rd hs0) he_enO hi75b)) ?_
    refine wpX_storeR (a' := true) (zs := (setI l58 (IntKind.wrap .i64 (e70 - 1)) true)) he_enO rfl rfl rfl CellsOf.bool hS ps0 (Rd.el (hS.row_rd hs0) he_enO hi75b) hi75a hi75b rfl st0_1 (by kernel_rfl) rfl (fun w hS => ?_)
    have hi76b := setI_at (a := true) hi75a hi75b
    have hi76a := hi75a
    refine wpS_nil ?_
    refine QH_block_normal ?_
    refine QH_seq_k hK68 ?_
    refine wpC_region ?_
    refine wpS_put rfl rfl rfl (yx_add rfl rfl) ?_
    refine wpS_quick 1 rfl ?_
    refine wpS_nil ?_
    refine QH_more ?_
    refine wpC_seq_k (fun K hK77 => ?_)
    refine wpC_region ?_
    refine wpS_put rfl rfl rfl (yv_lss rfl rfl) ?_
    refine wpS_nil ?_
    refine QH_seq_k hK77 ?_
    refine wpC_seq_k (fun K hK78 => ?_)
    refine wpC_cond_f rfl rfl ?_
    refine wpC_exit ?_
    refine QH_then_exit ?_
    refine QH_then_exit ?_
    refine QH_block_hit ?_
    refine QH_seq_k hK64 ?_
    refine wpC_seq_k (fun K hK79 => ?_)
    refine wpC_region ?_
    refine wpS_put rfl rfl rfl (yv_load_boxA ag_30 rfl (RW.here _) hS hs3 trivial sg0_22) ?_
    refine wpS_store rfl rfl rfl CellsOf.agg hS ps2 st0_22 (by kernel_rfl) rfl (fun w hS hB => ?_)
    refine wpS_nil ?_
    refine QH_seq_k hK79 ?_
    refine wpC_ret ?_
    refine QH_ret rfl (RV.cell rfl (load_boxA ag_30 hS hs2 sg0_22) RV.nil) rfl ?_
    refine ⟨_, rfl, ?_⟩
    refine wpS_store rfl rfl rfl CellsOf.agg hS ps11 st0_22 (by kernel_rfl) rfl (fun w hS hB => ?_)
    refine wpS_nil ?_
    refine QH_seq_k hK42 ?_
    refine wpC_seq_k (fun K hK80 => ?_)
    refine wpC_seq_k (fun K hK81 => ?_)
    refine wpC_region ?_
    refine wpS_put rfl rfl rfl (yv_fieldAddr fo_30_7 rfl) ?_
    refine wpS_put rfl rfl rfl (yv_load_box sc_27 rfl (RW.here _) hS hs11 trivial sg18_1) ?_
    obtain ⟨r82, hm83, H⟩ := bind_some H
    refine wpS_call rfl rfl rfl rfl (by kernel_rfl) (by (repeat rw [(setI_len rfl)]); rfl) (c_elect_Half (setI l58 (IntKind.wrap .i64 (e70 - 1)) true) A60 c61 _ (SlI.of_rd (k_set k62) (hS.row_rd hs0) (hS.row_blk hs0)) hm83) ?_
    rintro e w ⟨rfl, hN⟩; refine ⟨_, rfl, ?_⟩; have hB := hN.pure; have hS := hS.join hN; clear hN
    refine wpS_nil ?_
    refine QH_seq_k hK81 ?_
    refine wpC_cond rfl (fun hb => ?_) (fun hb => ?_)
    · replace H := cond_t H hb
      have hw84 := hb
      refine wpC_seq_k (fun K hK85 => ?_)
      refine wpC_region ?_
      refine wpS_put rfl rfl rfl (yv_load_boxA ag_30 rfl (RW.here _) hS hs11 trivial sg0_22) ?_
      obtain ⟨r86, hm87, H⟩ := bind_some H
      refine wpS_call rfl rfl rfl rfl (by kernel_rfl) (by (repeat rw [(setI_len rfl)]); rfl) (c_elect_Lead (⟨r7.id, r7.n, 1, r7.binary, r51.1, r7.commit, r7.applied, (setI l58 (IntKind.wrap .i64 (e70 - 1)) true), r7.next, r7.mtch, r7.caps⟩ : Co) A53 c54 A60 c61 A17 c18 A21 c22 A25 c26 _ (SlI.of_rd k55 (hS.rd hs1) (hS.rd_blk hs1)) (SlI.of_rd (k_set k62) (hS.row_rd hs0) (hS.row_blk hs0)) (SlI.of_rd k19 (hS.row_rd hs7) (hS.row_blk hs7)) (SlI.of_rd k23 (hS.row_rd hs8) (hS.row_blk hs8)) (SlI.of_rd k27 (hS.row_rd hs9) (hS.row_blk hs9)) hm87) ?_
      rintro e w ⟨A88, c89, A92, c93, A96, c97, A100, c101, A104, c105, rfl, k90, k94, k98, k102, k106, hN⟩; refine ⟨_, rfl, ?_⟩; have hB := hN.pure; have hS := hS.join hN; clear hN
      refine wpS_store rfl rfl rfl CellsOf.agg hS ps15 st0_22 (by kernel_rfl) rfl (fun w hS hB => ?_)
      refine wpS_quick 1 rfl ?_
      refine wpS_nil ?_
      refine QH_seq_k hK85 ?_
      refine wpC_ret ?_
      refine QH_then_ret ?_
      refine QH_ret rfl (RV.cell rfl (load_boxA ag_30 hS hs15 sg0_22) (RV.tmp rfl RV.nil)) rfl ?_
      obtain rfl := Option.some.inj H
      have hS := hS.nilRds
      replace hS := hS.nilRd
      have hS := hS.front 6 rfl
      have hS := hS.front 6 rfl
      have hS := hS.front 6 rfl
      have hS := hS.front 6 rfl
      have hS := hS.front 6 rfl
      replace hS := hS.cut 7
      exact ⟨A88, c89, A92, c93, A96, c97, A100, c101, A104, c105, none, 0, ([] : List Mq), rfl, k90, k94, k98, k102, k106, ⟨Nat.le_refl _, Nat.zero_le _⟩, rfl, okq_nil, hS⟩
    replace H := cond_f H hb
    have hw108 := hb
    refine wpC_skip ?_
    refine QH_seq_k hK80 ?_
    refine wpC_seq_k (fun K hK109 => ?_)
    refine wpC_region ?_
    refine wpS_put rfl rfl rfl (yv_load_boxA ag_30 rfl (RW.here _) hS hs11 trivial sg0_22) ?_
    obtain ⟨r110, hm111, H⟩ := bind_some H
    refine wpS_call rfl rfl rfl rfl (by kernel_rfl) (by (repeat rw [(setI_len rfl)]); rfl) (c_elect_end (⟨r7.id, r7.n, 1, r7.binary, r51.1, r7.commit, r7.applied, (setI l58 (IntKind.wrap .i64 (e70 - 1)) true), r7.next, r7.mtch, r7.caps⟩ : Co) A53 c54 A60 c61 A17 c18 A21 c22 A25 c26 _ (SlI.of_rd k55 (hS.rd hs1) (hS.rd_blk hs1)) (SlI.of_rd (k_set k62) (hS.row_rd hs0) (hS.row_blk hs0)) (SlI.of_rd k19 (hS.row_rd hs7) (hS.row_blk hs7)) (SlI.of_rd k23 (hS.row_rd hs8) (hS.row_blk hs8)) (SlI.of_rd k27 (hS.row_rd hs9) (hS.row_blk hs9)) hm111) ?_
    rintro e w ⟨rfl, hN⟩; refine ⟨_, rfl, ?_⟩; have hB := hN.pure; have hS := hS.join hN; clear hN
    refine wpS_quick 1 rfl ?_
    refine wpS_put rfl rfl rfl (yv_extract rfl rfl) ?_
    refine wpS_put rfl rfl rfl (yv_extract rfl rfl) ?_
    refine wpS_quick 2 rfl ?_
    refine wpS_nil ?_
    refine QH_seq_k hK109 ?_
    refine wpC_seq_k (fun K hK112 => ?_)
    refine wpC_draw 8 [6] (fun i b => (i = 6 → b ≠ b4)) ⟨by kernel_rfl, by kernel_rfl⟩ hS (fun w hS hB => ?_)
    refine wpR_batch [true, true, true, true, true] (by decide +kernel) (by repeat (first | exact PF.body | exact PF.round | apply PF.then | apply PF.inBlock | apply PF.jump)) ?_
    refine LtK.put rfl rfl rfl (yv_load_boxA ag_30 rfl (RW.below _) hS hs11 trivial sg0_22) ?_
    refine LtK.put rfl rfl rfl (yv_load_boxA ag_30 rfl (RW.below _) hS hs11 trivial sg0_22) ?_
    refine LtK.put rfl rfl rfl (yv_move rfl) ?_
    refine LtK.put rfl rfl rfl (yv_move rfl) ?_
    refine LtK.put rfl rfl rfl (yv_build (cells := [.int .u8 1, .int .i64 0, .int .i64 0, .int .i64 0, .int .i64 0, .int .i64 r110.1, .int .i64 r110.2, .int .i64 0, .bool false, .slice none 0 0, .int .i64 0, .int .i64 0, .int .i64 0, .int .i64 0, .bool false]) rfl (by kernel_rfl)) ?_
    refine LtK.nil ?_
    refine wpR_call [false, false, false, false, false, true] 5 ⟨by decide, by kernel_rfl, by kernel_rfl⟩ rfl rfl ?_
    try dsimp only [pickL]
    obtain ⟨r113, hm114, H⟩ := bind_some H
    refine wpS_call rfl rfl rfl rfl (by kernel_rfl) (by (repeat rw [(setI_len rfl)]); rfl) (c_msg_Others (⟨r7.id, r7.n, 1, r7.binary, r51.1, r7.commit, r7.applied, (setI l58 (IntKind.wrap .i64 (e70 - 1)) true), r7.next, r7.mtch, r7.caps⟩ : Co) (⟨1, 0, 0, 0, 0, r110.1, r110.2, 0, false, [], (⟨0, 0, 0, 0, false⟩ : St)⟩ : Ms) A53 c54 A60 c61 A17 c18 A21 c22 A25 c26 none 0 _ (SlI.of_rd k55 (hS.rd hs1) (hS.rd_blk hs1)) (SlI.of_rd (k_set k62) (hS.row_rd hs0) (hS.row_blk hs0)) (SlI.of_rd k19 (hS.row_rd hs7) (hS.row_blk hs7)) (SlI.of_rd k23 (hS.row_rd hs8) (hS.row_blk hs8)) (SlI.of_rd k27 (hS.row_rd hs9) (hS.row_blk hs9)) (SlW.nil _ _) hm114) ?_
    rintro e w ⟨A115, c116, q119, rfl, k117, hq120, okq121, hN⟩; refine ⟨_, rfl, ?_⟩; have hB := hN.pure; have hS := hS.join hN; clear hN
    refine wpS_nil ?_
    refine QH_step hB ?_
    refine wpR_seal [false, false, false, false, false, false, true] 6 ⟨by decide, by kernel_rfl, by kernel_rfl⟩ rfl rfl ?_
    try dsimp only [pickL]
    refine wpS_store rfl rfl rfl CellsOf.agg hS ps12 st0_22 (by kernel_rfl) rfl (fun w hS hB => ?_)
    refine wpS_nil ?_
    refine QH_stepG (hB.sub (fun _ _ h => by simpa using h)) ?_
    refine wpR_batch [false, false, false, false, false, false, false, true] (by decide +kernel) (by repeat (first | exact PF.body | exact PF.round | apply PF.then | apply PF.inBlock | apply PF.jump)) ?_
    refine LtK.put rfl rfl rfl (yv_assign rfl) ?_
    refine LtK.nil ?_
    refine wpR_end (by kernel_rfl) ?_
    refine QH_seq_k hK112 ?_
    refine wpC_ret ?_
    refine QH_ret rfl (RV.cell rfl (load_boxA ag_30 hS hs12 sg0_22) (RV.tmp rfl RV.nil)) rfl ?_
    obtain rfl := Option.some.inj H
    have hS := hS.front 1 rfl
    replace hS := hS.front 1 rfl
    have hS := hS.front 11 rfl
    have hS := hS.front 11 rfl
    have hS := hS.front 11 rfl
    have hS := hS.front 5 rfl
    have hS := hS.front 6 rfl
    replace hS := hS.cut 7
    exact ⟨A53, c54, A60, c61, A17, c18, A21, c22, A25, c26, A115, c116, q119, by (repeat rw [(setI_len rfl)]); rfl, k55, (k_set k62), k19, k23, k27, k117, hq120, okq121, hS.eqv (by (repeat rw [(setI_len rfl)]); rfl)⟩
theorem c_msg_entries (x0 : Ms) (A0_ : Option Addr) (c0_ : Nat) (w0 : World) (s0_ : SlW w0 enE A0_ c0_ x0.entries) {r : Bool} (H : m_msg_entries x0 = some r) : Calls Try.prog 111 #[.agg #[.int .u8 x0.kind, .int .i64 x0.frm, .int .i64 x0.dst, .int .i64 x0.term, .int .i64 x0.cap, .int .i64 x0.last, .int .i64 x0.lastTerm, .int .i64 x0.commit, .bool x0.okk, .slice A0_ x0.entries.length c0_, .int .i64 x0.snap.index, .int .i64 x0.snap.term, .int .i64 x0.snap.sum, .int .i64 x0.snap.level, .bool x0.snap.final]] w0 fun e w' => e = .returned (.bool r) ∧ St0 All w0 w' [] := by
  unfold m_msg_entries at H
  refine gw_enter1 Try.func111 rfl Try.ntmps111 rfl ?_
  have hS := St0.start All w0
  refine wpC_seq_k (fun K hK1 => ?_)
  refine wpC_region ?_
  refine wpS_box rfl rfl rfl CellsOf.agg hS (fun b2 w hS hB => ?_)
  refine wpS_quick 1 rfl ?_
  refine wpS_nil ?_
  refine QH_seq_k hK1 ?_
  refine wpC_seq_k (fun K hK4 => ?_)
  refine wpC_region ?_
  refine wpS_put rfl rfl rfl (yv_fieldAddr fo_36_6 rfl) ?_
  refine wpS_put rfl rfl rfl (yv_load_box sc_3 rfl (RW.here _) hS hs0 trivial sg6_1) ?_
  refine wpS_quick 1 rfl ?_
  refine wpS_nil ?_
  refine QH_seq_k hK4 ?_
  refine wpC_seq_k (fun K hK5 => ?_)
  refine wpC_seq_k (fun K hK6 => ?_)
  refine wpC_region ?_
  refine wpS_put rfl rfl rfl (yv_fieldAddr fo_36_9 rfl) ?_
  refine wpS_put rfl rfl rfl (yv_load_box sc_24 rfl (RW.here _) hS hs0 trivial sg9_1) ?_
  refine wpS_put rfl rfl rfl (yv_len el_24 rfl) ?_
  refine wpS_quick 1 rfl ?_
  refine wpS_nil ?_
  refine QH_seq_k hK6 ?_
  refine wpC_block ?_
  refine wpC_loop (X := Nat × Bool × Int × Int) (fun x => (1, .pointer (some ⟨b2, 0, none⟩)) :: (2, .bool x.2.1) :: (3, .int .i64 x.2.2.1) :: (9, .slice A0_ x0.entries.length c0_) :: (10, .int .i64 (x0.entries.length : Int)) :: (11, .int .i64 x.2.2.2) :: []) (fun x w => St0 All w0 w (.box b2 [.int .u8 x0.kind, .int .i64 x0.frm, .int .i64 x0.dst, .int .i64 x0.term, .int .i64 x0.cap, .int .i64 x0.last, .int .i64 x0.lastTerm, .int .i64 x0.commit, .bool x0.okk, .slice A0_ x0.entries.length c0_, .int .i64 x0.snap.index, .int .i64 x0.snap.term, .int .i64 x0.snap.sum, .int .i64 x0.snap.level, .bool x0.snap.final] 36 :: []) ∧ m_msg_entries_l1 x0 x.1 x.2.1 x.2.2.1 x.2.2.2 = some r) (fun x => x.1) (fuelN, false, x0.lastTerm, 0) (by repeat (first | exact Sub.nil | refine Sub.cons rfl ?_)) ⟨hS, H⟩ ?_
  rintro ⟨n, v7, v8, v9⟩ w ⟨hS, H⟩
  dsimp only at hS H ⊢
  obtain _ | n := n
  · have H0 : none = some r := H
    cases H0
  rw [m_msg_entries_l1] at H
  refine wpC_seq_k (fun K hK10 => ?_)
  refine wpC_region ?_
  refine wpS_put rfl rfl rfl (yv_lss rfl rfl) ?_
  refine wpS_nil ?_
  refine QH_seq_k hK10 ?_
  refine wpC_seq_k (fun K hK11 => ?_)
  refine wpC_cond rfl (fun hb => ?_) (fun hb => ?_)
  rotate_left
  · replace H := cond_f H hb
    refine wpC_exit ?_
    refine QH_then_exit ?_
    refine QH_then_exit ?_
    refine QH_block_hit ?_
    refine QH_seq_k hK5 ?_
    refine wpC_seq_k (fun K hK33 => ?_)
    refine wpC_region ?_
    refine wpS_put rfl rfl rfl (yv_fieldAddr fo_36_9 rfl) ?_
    refine wpS_put rfl rfl rfl (yv_load_box sc_24 rfl (RW.here _) hS hs0 trivial sg9_1) ?_
    refine wpS_put rfl rfl rfl (yv_len el_24 rfl) ?_
    refine wpS_put rfl rfl rfl (yv_leq rfl rfl) ?_
    refine wpS_quick 1 rfl ?_
    refine wpS_nil ?_
    refine QH_seq_k hK33 ?_
    refine wpC_ret ?_
    refine QH_ret rfl (RV.tmp rfl RV.nil) rfl ?_
    obtain rfl := Option.some.inj H
    replace hS := hS.cut 0
    exact ⟨rfl, hS⟩
  replace H := cond_t H hb
  refine wpC_skip ?_
  refine QH_seq_k hK11 ?_
  refine wpC_seq_k (fun K hK13 => ?_)
  refine wpC_block ?_
  refine wpC_seq_k (fun K hK14 => ?_)
  refine wpC_region ?_
  obtain ⟨e15, hi17, H⟩ := bind_some H
  obtain ⟨j16, hi17a, hi17b, hi17c⟩ := idx_some hi17
  refine wpS_put rfl rfl rfl (yx_idx el_24 rfl rfl hi17a hi17c (Rd.el (hS.rd0 s0_.rd) he_enE hi17b)) ?_
  refine wpS_put rfl rfl rfl (yx_ldA0 ag_56 rfl (RW.here _) (Rd.el (hS.rd0 s0_.rd) he_enE hi17b) sg0_3) ?_
  refine wpS_alloc rfl rfl zc_56 hS (fun b18 w hS hB => ?_)
  refine wpS_store rfl rfl rfl CellsOf.agg hS ps0 st0_3 (by kernel_rfl) rfl (fun w hS hB => ?_)
  refine wpS_nil ?_
  refine QH_seq_k hK14 ?_
  refine wpC_seq_k (fun K hK20 => ?_)
  refine wpC_seq_k (fun K hK21 => ?_)
  refine wpC_region ?_
  refine wpS_put rfl rfl rfl (yv_load_boxA ag_56 rfl (RW.here _) hS hs0 trivial sg0_3) ?_
  obtain ⟨r22, hm23, H⟩ := bind_some H
  refine wpS_call rfl rfl rfl rfl (by kernel_rfl) rfl (c_entry_Right e15 _ hm23) ?_
  rintro e w ⟨rfl, hN⟩; refine ⟨_, rfl, ?_⟩; have hB := hN.pure; have hS := hS.join hN; clear hN
  refine wpS_put rfl rfl rfl (yv_not rfl) ?_
  refine wpS_quick 1 rfl ?_
  refine wpS_case 18 rfl (fun hb => ?_) (fun hb => ?_)
  · replace H := cond_t H hb
    refine wpS_quick 8 rfl ?_
    refine wpS_nil ?_
    refine QH_seq_k hK21 ?_
    refine wpC_cond_t rfl rfl ?_
    refine wpC_seq_k (fun K hK25 => ?_)
    refine wpC_region ?_
    refine wpS_quick 1 rfl ?_
    refine wpS_nil ?_
    refine QH_seq_k hK25 ?_
    refine wpC_ret ?_
    refine QH_then_ret ?_
    refine QH_block_ret ?_
    refine QH_then_ret ?_
    refine QH_then_ret ?_
    refine QH_block_ret ?_
    refine QH_then_ret ?_
    refine QH_ret rfl (RV.tmp rfl RV.nil) rfl ?_
    obtain rfl := Option.some.inj H
    replace hS := hS.cut 0
    exact ⟨rfl, hS⟩
  replace H := cond_f H hb
  refine wpS_put rfl rfl rfl (yv_fieldAddr fo_56_0 rfl) ?_
  refine wpS_put rfl rfl rfl (yv_load_box sc_3 rfl (RW.here _) hS hs0 trivial sg0_1) ?_
  refine wpS_quick 1 rfl ?_
  refine wpS_put rfl rfl rfl (yv_fieldAddr fo_36_3 rfl) ?_
  refine wpS_put rfl rfl rfl (yv_load_box sc_3 rfl (RW.here _) hS hs1 trivial sg3_1) ?_
  obtain ⟨r27, hm28, H⟩ := bind_some H
  refine wpS_call rfl rfl rfl rfl (by kernel_rfl) rfl (c_msg_within e15.term v8 x0.term _ hm28) ?_
  rintro e w ⟨rfl, hN⟩; refine ⟨_, rfl, ?_⟩; have hB := hN.pure; have hS := hS.join hN; clear hN
  refine wpS_put rfl rfl rfl (yv_not rfl) ?_
  refine wpS_quick 1 rfl ?_
  refine wpS_nil ?_
  refine QH_seq_k hK21 ?_
  refine wpC_cond rfl (fun hb => ?_) (fun hb => ?_)
  rotate_left
  · replace H := cond_f H hb
    refine wpC_skip ?_
    refine QH_seq_k hK20 ?_
    refine wpC_region ?_
    refine wpS_put rfl rfl rfl (yv_fieldAddr fo_56_0 rfl) ?_
    refine wpS_put rfl rfl rfl (yv_load_box sc_3 rfl (RW.here _) hS hs0 trivial sg0_1) ?_
    refine wpS_quick 1 rfl ?_
    refine wpS_nil ?_
    refine QH_block_normal ?_
    refine QH_seq_k hK13 ?_
    refine wpC_region ?_
    refine wpS_put rfl rfl rfl (yx_add rfl rfl) ?_
    refine wpS_quick 1 rfl ?_
    refine wpS_nil ?_
    exact QH_again (n, v7, e15.term, (IntKind.wrap .i64 (v9 + 1))) (by repeat (first | exact Sub.nil | refine Sub.cons rfl ?_)) ⟨(hS.sub (List.Sublist.cons _ (List.Sublist.cons_cons _ List.Sublist.slnil))), H⟩ (Nat.lt_succ_self _)
  replace H := cond_t H hb
  refine wpC_seq_k (fun K hK30 => ?_)
  refine wpC_region ?_
  refine wpS_quick 1 rfl ?_
  refine wpS_nil ?_
  refine QH_seq_k hK30 ?_
  refine wpC_ret ?_
  refine QH_then_ret ?_
  refine QH_block_ret ?_
  refine QH_then_ret ?_
  refine QH_then_ret ?_
  refine QH_block_ret ?_
  refine QH_then_ret ?_
  refine QH_ret rfl (RV.tmp rfl RV.nil) rfl ?_
  obtain rfl := Option.some.inj H
  replace hS := hS.cut 0
  exact ⟨rfl, hS⟩
end Go.Proofs.Ytamjlcaoieliaaa
