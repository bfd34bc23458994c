/- What functions compute, in plain terms, and that they do; printed. -/
import Derived.Test.YtofheinbbefbcaaDoorMx1
import Derived.Test.YtofheinbbefbcaaDoorMx2
import Derived.Test.YtofheinbbefbcaaDoorMx3
namespace Go.Proofs.YtofheinbbefbcaaDoor
open Go Go.RowKit
set_option maxRecDepth 100000
set_option maxHeartbeats 4000000
theorem c_law11_ManifestOne (x0 : Mf) (x1 : Int) (x2 : Int) (A0_ : Option Addr) (c0_ : Nat) (w0 : World) (s0_ : SlI w0 enSg A0_ c0_ x0.segs) (hT_ : SlI w0 enU (some ⟨0, 0, none⟩) 16 tabU) {r : Bool} (H : m_law11_ManifestOne x0 x1 x2 = some r) : Calls Tryd.prog 11 #[.agg #[.int .i64 x0.next, .int .i64 x0.term, .int .i64 x0.vote, .int .i64 x0.snap.seq, .int .i64 x0.snap.fmt, .slice A0_ x0.segs.length c0_], .int .i64 x1, .int .i64 x2] w0 fun e w' => e = .returned (.bool r) ∧ St0 All w0 w' [] := by
  unfold m_law11_ManifestOne at H
  refine gw_enter3 Tryd.func11 rfl Tryd.ntmps11 rfl ?_
  have hS := St0.start All w0
  refine wpC_seq_k (fun K hK1 => ?_)
  refine wpC_region ?_
  refine wpS_box rfl rfl rfl CellsOf.agg hS (fun b2 w hS hB => ?_)
  refine wpS_quick 1 rfl ?_
  refine wpS_nil ?_
  refine QH_seq_k hK1 ?_
  refine wpC_seq_k (fun K hK4 => ?_)
  refine wpC_seq_k (fun K hK5 => ?_)
  refine wpC_region ?_
  refine wpS_put rfl rfl rfl (yv_fieldAddr fo_50_4 rfl) ?_
  refine wpS_put rfl rfl rfl (yv_load_box sc_48 rfl (RW.here _) hS hs0 trivial sg5_1) ?_
  refine wpS_put rfl rfl rfl (yv_len el_48 rfl) ?_
  refine wpS_put rfl rfl rfl (yv_gtr rfl rfl) ?_
  refine wpS_quick 1 rfl ?_
  refine wpS_case 18 rfl (fun hb => ?_) (fun hb => ?_)
  · replace H := cond_t H hb
    refine wpS_quick 12 rfl ?_
    refine wpS_nil ?_
    refine QH_seq_k hK5 ?_
    refine wpC_cond_t rfl rfl ?_
    refine wpC_seq_k (fun K hK7 => ?_)
    refine wpC_region ?_
    obtain ⟨r8, hm9, H⟩ := bind_some H
    refine wpS_call rfl rfl rfl rfl (by kernel_rfl) rfl (c_law11_wakes _ (SlI.of_rd hT_.k (hS.rd0 hT_.rd) (hS.blk0 hT_.blk)) hm9) ?_
    rintro e w ⟨rfl, hN⟩; refine ⟨_, rfl, ?_⟩; have hB := hN.pure; have hS := hS.join hN; clear hN
    refine wpS_quick 1 rfl ?_
    refine wpS_nil ?_
    refine QH_seq_k hK7 ?_
    refine wpC_ret ?_
    refine QH_then_ret ?_
    refine QH_ret rfl (RV.tmp rfl RV.nil) rfl ?_
    obtain rfl := Option.some.inj H
    replace hS := hS.cut 0
    exact ⟨rfl, hS⟩
  replace H := cond_f H hb
  refine wpS_put rfl rfl rfl (yv_load_boxA ag_50 rfl (RW.here _) hS hs0 trivial sg0_6) ?_
  obtain ⟨r11, hm12, H⟩ := bind_some H
  refine wpS_call rfl rfl rfl rfl (by kernel_rfl) rfl (c_ref11_Check x0 A0_ c0_ _ (SlI.of_rd s0_.k (hS.rd0 s0_.rd) (hS.blk0 s0_.blk)) hm12) ?_
  rintro e w ⟨rfl, hN⟩; refine ⟨_, rfl, ?_⟩; have hB := hN.pure; have hS := hS.join hN; clear hN
  refine wpS_put rfl rfl rfl (yv_neq rfl rfl) ?_
  refine wpS_quick 2 rfl ?_
  refine wpS_case 23 rfl (fun hb => ?_) (fun hb => ?_)
  · replace H := cond_t H hb
    refine wpS_quick 7 rfl ?_
    refine wpS_nil ?_
    refine QH_seq_k hK5 ?_
    refine wpC_cond_t rfl rfl ?_
    refine wpC_seq_k (fun K hK14 => ?_)
    refine wpC_region ?_
    obtain ⟨r15, hm16, H⟩ := bind_some H
    refine wpS_call rfl rfl rfl rfl (by kernel_rfl) rfl (c_law11_wakes _ (SlI.of_rd hT_.k (hS.rd0 hT_.rd) (hS.blk0 hT_.blk)) hm16) ?_
    rintro e w ⟨rfl, hN⟩; refine ⟨_, rfl, ?_⟩; have hB := hN.pure; have hS := hS.join hN; clear hN
    refine wpS_quick 1 rfl ?_
    refine wpS_nil ?_
    refine QH_seq_k hK14 ?_
    refine wpC_ret ?_
    refine QH_then_ret ?_
    refine QH_ret rfl (RV.tmp rfl RV.nil) rfl ?_
    obtain rfl := Option.some.inj H
    replace hS := hS.cut 0
    exact ⟨rfl, hS⟩
  replace H := cond_f H hb
  refine wpS_quick 1 rfl ?_
  refine wpS_put rfl rfl rfl (yv_lss rfl rfl) ?_
  refine wpS_quick 2 rfl ?_
  refine wpS_case 27 rfl (fun hb => ?_) (fun hb => ?_)
  · replace H := cond_t H hb
    refine wpS_quick 3 rfl ?_
    refine wpS_nil ?_
    refine QH_seq_k hK5 ?_
    refine wpC_cond_t rfl rfl ?_
    refine wpC_seq_k (fun K hK19 => ?_)
    refine wpC_region ?_
    obtain ⟨r20, hm21, H⟩ := bind_some H
    refine wpS_call rfl rfl rfl rfl (by kernel_rfl) rfl (c_law11_wakes _ (SlI.of_rd hT_.k (hS.rd0 hT_.rd) (hS.blk0 hT_.blk)) hm21) ?_
    rintro e w ⟨rfl, hN⟩; refine ⟨_, rfl, ?_⟩; have hB := hN.pure; have hS := hS.join hN; clear hN
    refine wpS_quick 1 rfl ?_
    refine wpS_nil ?_
    refine QH_seq_k hK19 ?_
    refine wpC_ret ?_
    refine QH_then_ret ?_
    refine QH_ret rfl (RV.tmp rfl RV.nil) rfl ?_
    obtain rfl := Option.some.inj H
    replace hS := hS.cut 0
    exact ⟨rfl, hS⟩
  replace H := cond_f H hb
  refine wpS_quick 1 rfl ?_
  refine wpS_put rfl rfl rfl (yv_gtr rfl rfl) ?_
  refine wpS_quick 1 rfl ?_
  refine wpS_nil ?_
  refine QH_seq_k hK5 ?_
  refine wpC_cond rfl (fun hb => ?_) (fun hb => ?_)
  · replace H := cond_t H hb
    refine wpC_seq_k (fun K hK24 => ?_)
    refine wpC_region ?_
    obtain ⟨r25, hm26, H⟩ := bind_some H
    refine wpS_call rfl rfl rfl rfl (by kernel_rfl) rfl (c_law11_wakes _ (SlI.of_rd hT_.k (hS.rd0 hT_.rd) (hS.blk0 hT_.blk)) hm26) ?_
    rintro e w ⟨rfl, hN⟩; refine ⟨_, rfl, ?_⟩; have hB := hN.pure; have hS := hS.join hN; clear hN
    refine wpS_quick 1 rfl ?_
    refine wpS_nil ?_
    refine QH_seq_k hK24 ?_
    refine wpC_ret ?_
    refine QH_then_ret ?_
    refine QH_ret rfl (RV.tmp rfl RV.nil) rfl ?_
    obtain rfl := Option.some.inj H
    replace hS := hS.cut 0
    exact ⟨rfl, hS⟩
  replace H := cond_f H hb
  refine wpC_skip ?_
  refine QH_seq_k hK4 ?_
  refine wpC_seq_k (fun K hK28 => ?_)
  refine wpC_draw 16 [12, 13, 14, 15] (fun i b => (i = 12 → b = b2) ∧ (i = 13 → b = b2) ∧ (i = 14 → b = b2) ∧ (i = 15 → b = b2)) ⟨by kernel_rfl, by kernel_rfl⟩ hS (fun w hS hB => ?_)
  refine wpRF_start [⟨8, 7, 50, [.int .i64 0, .int .i64 0, .int .i64 0, .int .i64 0, .int .i64 0, .slice none 0 0]⟩, ⟨9, 8, 50, [.int .i64 0, .int .i64 0, .int .i64 0, .int .i64 0, .int .i64 0, .slice none 0 0]⟩, ⟨10, 9, 50, [.int .i64 0, .int .i64 0, .int .i64 0, .int .i64 0, .int .i64 0, .slice none 0 0]⟩, ⟨11, 10, 50, [.int .i64 0, .int .i64 0, .int .i64 0, .int .i64 0, .int .i64 0, .slice none 0 0]⟩] (.cons rfl zc_50 rfl rfl rfl (.cons rfl zc_50 rfl rfl rfl (.cons rfl zc_50 rfl rfl rfl (.cons rfl zc_50 rfl rfl rfl .nil)))) hS (fun hok => ?_)
  dsimp only [List.cons_append, List.nil_append]
  refine wpRF_batch [true, false, true, false, true, false, true] [] (fun _ => True) (by decide +kernel) (fun _ h => by cases h) (by repeat (first | exact PF.body | exact PF.round | apply PF.then | apply PF.inBlock | apply PF.jump)) (fun X Y tk ht w hS => ?_)
  refine LtK.put rfl rfl rfl (yv_load_boxA ag_50 rfl (RW.keepB _ _) hS hs0 trivial sg0_6) ?_
  refine LtK.put rfl rfl rfl (yv_load_boxA ag_50 rfl (RW.keepB _ _) hS hs0 trivial sg0_6) ?_
  refine LtK.put rfl rfl rfl (yv_load_boxA ag_50 rfl (RW.keepB _ _) hS hs0 trivial sg0_6) ?_
  refine LtK.put rfl rfl rfl (yv_load_boxA ag_50 rfl (RW.keepB _ _) hS hs0 trivial sg0_6) ?_
  refine LtK_F' ht hS (by repeat (first | exact App.nil | apply App.cons)) (by repeat (first | exact App.nil | apply App.cons)) ?_
  dsimp only [List.cons_append, List.nil_append]
  refine wpRF_call [false, true] 1 hok ⟨by decide, by decide +kernel, by decide, by decide⟩ rfl rfl (fun _ => rfl) (fun _ => rfl) rfl (hend_of (by decide +kernel)) (fun X Y tk ht w hS => ?_)
  try dsimp only [pickL]
  obtain ⟨r29, hm30, H⟩ := bind_some H
  refine wpS_call rfl rfl rfl rfl (by kernel_rfl) rfl (c_ref11_Own x0 A0_ c0_ _ (SlI.of_rd s0_.k (hS.rd0 s0_.rd) (hS.blk0 s0_.blk)) hm30) ?_
  rintro e w ⟨A31, c32, rfl, k33, hN⟩; refine ⟨_, rfl, ?_⟩; have hB := hN.pure; have hS := hS.join hN; clear hN
  refine wpS_nil ?_
  refine QH_stepF' ht hS hB (by repeat (first | exact App.nil | apply App.cons)) (by repeat (first | exact App.nil | apply App.cons)) ?_
  dsimp only [List.cons_append, List.nil_append]
  refine wpRF_call [false, false, false, true] 3 hok ⟨by decide, by decide +kernel, by decide, by decide⟩ rfl rfl (fun _ => rfl) (fun _ => rfl) rfl (hend_of (by decide +kernel)) (fun X Y tk ht w hS => ?_)
  try dsimp only [pickL]
  obtain ⟨r35, hm36, H⟩ := bind_some H
  refine wpS_call rfl rfl rfl rfl (by kernel_rfl) rfl (c_ref11_Own x0 A0_ c0_ _ (SlI.of_rd s0_.k (hS.rd0 s0_.rd) (hS.blk0 s0_.blk)) hm36) ?_
  rintro e w ⟨A37, c38, rfl, k39, hN⟩; refine ⟨_, rfl, ?_⟩; have hB := hN.pure; have hS := hS.join hN; clear hN
  refine wpS_nil ?_
  refine QH_stepF' ht hS hB (by repeat (first | exact App.nil | apply App.cons)) (by repeat (first | exact App.nil | apply App.cons)) ?_
  dsimp only [List.cons_append, List.nil_append]
  refine wpRF_call [false, false, false, false, false, true] 5 hok ⟨by decide, by decide +kernel, by decide, by decide⟩ rfl rfl (fun _ => rfl) (fun _ => rfl) rfl (hend_of (by decide +kernel)) (fun X Y tk ht w hS => ?_)
  try dsimp only [pickL]
  obtain ⟨r41, hm42, H⟩ := bind_some H
  refine wpS_call rfl rfl rfl rfl (by kernel_rfl) rfl (c_ref11_Own x0 A0_ c0_ _ (SlI.of_rd s0_.k (hS.rd0 s0_.rd) (hS.blk0 s0_.blk)) hm42) ?_
  rintro e w ⟨A43, c44, rfl, k45, hN⟩; refine ⟨_, rfl, ?_⟩; have hB := hN.pure; have hS := hS.join hN; clear hN
  refine wpS_nil ?_
  refine QH_stepF' ht hS hB (by repeat (first | exact App.nil | apply App.cons)) (by repeat (first | exact App.nil | apply App.cons)) ?_
  dsimp only [List.cons_append, List.nil_append]
  refine wpRF_call [false, false, false, false, false, false, false, true] 7 hok ⟨by decide, by decide +kernel, by decide, by decide⟩ rfl rfl (fun _ => rfl) (fun _ => rfl) rfl (hend_of (by decide +kernel)) (fun X Y tk ht w hS => ?_)
  try dsimp only [pickL]
  obtain ⟨r47, hm48, H⟩ := bind_some H
  refine wpS_call rfl rfl rfl rfl (by kernel_rfl) rfl (c_ref11_Own x0 A0_ c0_ _ (SlI.of_rd s0_.k (hS.rd0 s0_.rd) (hS.blk0 s0_.blk)) hm48) ?_
  rintro e w ⟨A49, c50, rfl, k51, hN⟩; refine ⟨_, rfl, ?_⟩; have hB := hN.pure; have hS := hS.join hN; clear hN
  refine wpS_nil ?_
  refine QH_stepF' ht hS hB (by repeat (first | exact App.nil | apply App.cons)) (by repeat (first | exact App.nil | apply App.cons)) ?_
  dsimp only [List.cons_append, List.nil_append]
  refine wpRF_done hok (by decide) (by decide +kernel) (fun _ => rfl) (fun _ => rfl) rfl (fun tk htk w hS => ?_)
  obtain ⟨b53, tkb53, rfl, htk55⟩ := tk_cons htk
  obtain ⟨b56, tkb56, rfl, htk58⟩ := tk_cons htk55
  obtain ⟨b59, tkb59, rfl, htk61⟩ := tk_cons htk58
  obtain ⟨b62, tkb62, rfl, htk64⟩ := tk_cons htk61
  obtain rfl := tk_nil htk64
  dsimp only [tkH, tkL, List.map] at hS ⊢
  refine wpR_seal [false, false, false, false, false, false, false, false, false, false, false, false, true] 12 ⟨by decide, by kernel_rfl, by kernel_rfl⟩ rfl rfl ?_
  try dsimp only [pickL]
  refine wpS_store rfl rfl rfl CellsOf.agg hS ps5 st0_6 (by kernel_rfl) rfl (fun w hS hB => ?_)
  refine wpS_nil ?_
  refine QH_stepG (hB.sub (fun b _ h => by have h0 : b = b2 := (by simpa using h); (rw [h0]; exact hS.ne 4 5 rfl rfl rfl))) ?_
  refine wpR_seal [false, false, false, false, false, false, false, false, false, false, false, false, false, true] 13 ⟨by decide, by kernel_rfl, by kernel_rfl⟩ rfl rfl ?_
  try dsimp only [pickL]
  refine wpS_store rfl rfl rfl CellsOf.agg hS ps6 st0_6 (by kernel_rfl) rfl (fun w hS hB => ?_)
  refine wpS_nil ?_
  refine QH_stepG (hB.sub (fun b _ h => by have h0 : b = b2 := (by simpa using h); (rw [h0]; exact hS.ne 4 6 rfl rfl rfl))) ?_
  refine wpR_seal [false, false, false, false, false, false, false, false, false, false, false, false, false, false, true] 14 ⟨by decide, by kernel_rfl, by kernel_rfl⟩ rfl rfl ?_
  try dsimp only [pickL]
  refine wpS_store rfl rfl rfl CellsOf.agg hS ps7 st0_6 (by kernel_rfl) rfl (fun w hS hB => ?_)
  refine wpS_nil ?_
  refine QH_stepG (hB.sub (fun b _ h => by have h0 : b = b2 := (by simpa using h); (rw [h0]; exact hS.ne 4 7 rfl rfl rfl))) ?_
  refine wpR_seal [false, false, false, false, false, false, false, false, false, false, false, false, false, false, false, true] 15 ⟨by decide, by kernel_rfl, by kernel_rfl⟩ rfl rfl ?_
  try dsimp only [pickL]
  refine wpS_store rfl rfl rfl CellsOf.agg hS ps8 st0_6 (by kernel_rfl) rfl (fun w hS hB => ?_)
  refine wpS_nil ?_
  refine QH_stepG (hB.sub (fun b _ h => by have h0 : b = b2 := (by simpa using h); (rw [h0]; exact hS.ne 4 8 rfl rfl rfl))) ?_
  refine wpR_end (by kernel_rfl) ?_
  refine QH_seq_k hK28 ?_
  refine wpC_seq_k (fun K hK65 => ?_)
  refine wpC_draw 20 [13, 15, 17, 19] (fun i b => (i = 13 → b ≠ b53) ∧ (i = 15 → b ≠ b56) ∧ (i = 17 → b ≠ b59) ∧ (i = 19 → b ≠ b62)) ⟨by kernel_rfl, by kernel_rfl⟩ hS (fun w hS hB => ?_)
  refine wpR_batch [true, true, false, false, false, false, false, false, false, false, false, false, true] (by decide +kernel) (by repeat (first | exact PF.body | exact PF.round | apply PF.then | apply PF.inBlock | apply PF.jump)) ?_
  refine LtK.put rfl rfl rfl (yv_move rfl) ?_
  refine LtK.put rfl rfl rfl (yx_neg rfl) ?_
  refine LtK.put rfl rfl rfl (yv_fieldAddr fo_50_0 rfl) ?_
  refine LtK.nil ?_
  refine wpR_batchG [false, false, true, true, true, true, true, true, true, true, true, true] [13, 15, 17] (fun b => b ≠ b53 ∧ b ≠ b56 ∧ b ≠ b59) (by decide +kernel) (by intro j hj b hb; simp only [List.mem_cons, List.not_mem_nil, or_false] at hj; (try rcases hj with rfl | rfl | rfl | rfl | rfl) <;> first | (simp [hb]; done) | simp_all) (by repeat (first | exact PF.body | exact PF.round | apply PF.then | apply PF.inBlock | apply PF.jump)) ?_
  refine LtK.put rfl rfl rfl (yv_move rfl) ?_
  refine LtK.put rfl rfl rfl (yx_neg rfl) ?_
  refine LtK.put rfl rfl rfl (yv_move rfl) ?_
  refine LtK.put rfl rfl rfl (yx_add rfl rfl) ?_
  refine LtK.put rfl rfl rfl (yv_fieldAddr fo_50_0 rfl) ?_
  refine LtK.put rfl rfl rfl (yv_load_box sc_3 rfl (RW.keepB _ _) hS hs4 ⟨(hS.ne 4 5 rfl rfl rfl), (hS.ne 4 6 rfl rfl rfl), (hS.ne 4 7 rfl rfl rfl)⟩ sg0_1) ?_
  refine LtK.put rfl rfl rfl (yx_sub rfl rfl) ?_
  refine LtK.put rfl rfl rfl (yv_move rfl) ?_
  refine LtK.put rfl rfl rfl (yx_add rfl rfl) ?_
  refine LtK.put rfl rfl rfl (yv_build (cells := [.int .i64 (IntKind.wrap .i64 ((IntKind.wrap .i64 (x0.next - 1)) + x2)), .int .i64 1]) rfl (by kernel_rfl)) ?_
  refine LtK.nil ?_
  refine wpR_seal [false, false, false, false, false, false, false, false, false, false, false, false, false, true] 13 ⟨by decide, by kernel_rfl, by kernel_rfl⟩ rfl rfl ?_
  try dsimp only [pickL]
  refine wpS_store rfl rfl rfl CellsOf.int hS ps5 st0_1 (by kernel_rfl) rfl (fun w hS hB => ?_)
  refine wpS_nil ?_
  refine QH_stepG (hB.sub (fun _ _ h => by simpa using h)) ?_
  refine wpR_batch [false, false, false, false, false, false, false, false, false, false, false, false, false, false, true] (by decide +kernel) (by repeat (first | exact PF.body | exact PF.round | apply PF.then | apply PF.inBlock | apply PF.jump)) ?_
  refine LtK.put rfl rfl rfl (yv_fieldAddr fo_50_1 rfl) ?_
  refine LtK.nil ?_
  refine wpR_seal [false, false, false, false, false, false, false, false, false, false, false, false, false, false, false, true] 15 ⟨by decide, by kernel_rfl, by kernel_rfl⟩ rfl rfl ?_
  try dsimp only [pickL]
  refine wpS_store rfl rfl rfl CellsOf.int hS ps6 st1_1 (by kernel_rfl) rfl (fun w hS hB => ?_)
  refine wpS_nil ?_
  refine QH_stepG (hB.sub (fun _ _ h => by simpa using h)) ?_
  refine wpR_batch [false, false, false, false, false, false, false, false, false, false, false, false, false, false, false, false, true] (by decide +kernel) (by repeat (first | exact PF.body | exact PF.round | apply PF.then | apply PF.inBlock | apply PF.jump)) ?_
  refine LtK.put rfl rfl rfl (yv_fieldAddr fo_50_2 rfl) ?_
  refine LtK.nil ?_
  refine wpR_seal [false, false, false, false, false, false, false, false, false, false, false, false, false, false, false, false, false, true] 17 ⟨by decide, by kernel_rfl, by kernel_rfl⟩ rfl rfl ?_
  try dsimp only [pickL]
  refine wpS_store rfl rfl rfl CellsOf.int hS ps7 st2_1 (by kernel_rfl) rfl (fun w hS hB => ?_)
  refine wpS_nil ?_
  refine QH_stepG (hB.sub (fun _ _ h => by simpa using h)) ?_
  refine wpR_batch [false, false, false, false, false, false, false, false, false, false, false, false, false, false, false, false, false, false, true] (by decide +kernel) (by repeat (first | exact PF.body | exact PF.round | apply PF.then | apply PF.inBlock | apply PF.jump)) ?_
  refine LtK.put rfl rfl rfl (yv_fieldAddr fo_50_3 rfl) ?_
  refine LtK.nil ?_
  refine wpR_seal [false, false, false, false, false, false, false, false, false, false, false, false, false, false, false, false, false, false, false, true] 19 ⟨by decide, by kernel_rfl, by kernel_rfl⟩ rfl rfl ?_
  try dsimp only [pickL]
  refine wpS_store rfl rfl rfl CellsOf.agg hS ps8 st3_2 (by kernel_rfl) rfl (fun w hS hB => ?_)
  refine wpS_nil ?_
  refine QH_stepG (hB.sub (fun _ _ h => by simpa using h)) ?_
  refine wpR_end (by kernel_rfl) ?_
  refine QH_seq_k hK65 ?_
  refine wpC_seq_k (fun K hK66 => ?_)
  refine wpC_seq_k (fun K hK67 => ?_)
  refine wpC_region ?_
  refine wpS_put rfl rfl rfl (yv_load_boxA ag_50 rfl (RW.here _) hS hs5 trivial sg0_6) ?_
  obtain ⟨r68, hm69, H⟩ := bind_some H
  refine wpS_call rfl rfl rfl rfl (by kernel_rfl) rfl (c_manifest_Check (⟨(IntKind.wrap .i64 (0 - x2)), r29.term, r29.vote, r29.snap, r29.segs⟩ : Mf) A31 c32 _ (SlI.of_rd k33 (hS.row_rd hs3) (hS.row_blk hs3)) hm69) ?_
  rintro e w ⟨rfl, hN⟩; refine ⟨_, rfl, ?_⟩; have hB := hN.pure; have hS := hS.join hN; clear hN
  refine wpS_put rfl rfl rfl (yv_neq rfl rfl) ?_
  refine wpS_quick 1 rfl ?_
  refine wpS_case 59 rfl (fun hb => ?_) (fun hb => ?_)
  · replace H := cond_t H hb
    refine wpS_quick 14 rfl ?_
    refine wpS_nil ?_
    refine QH_seq_k hK67 ?_
    refine wpC_cond_t rfl rfl ?_
    refine wpC_seq_k (fun K hK71 => ?_)
    refine wpC_region ?_
    refine wpS_quick 1 rfl ?_
    refine wpS_nil ?_
    refine QH_seq_k hK71 ?_
    refine wpC_ret ?_
    refine QH_then_ret ?_
    refine QH_ret rfl (RV.tmp rfl RV.nil) rfl ?_
    obtain rfl := Option.some.inj H
    replace hS := hS.cut 0
    exact ⟨rfl, hS⟩
  replace H := cond_f H hb
  refine wpS_put rfl rfl rfl (yv_load_boxA ag_50 rfl (RW.here _) hS hs6 trivial sg0_6) ?_
  obtain ⟨r73, hm74, H⟩ := bind_some H
  refine wpS_call rfl rfl rfl rfl (by kernel_rfl) rfl (c_manifest_Check (⟨r35.next, (IntKind.wrap .i64 (0 - x2)), r35.vote, r35.snap, r35.segs⟩ : Mf) A37 c38 _ (SlI.of_rd k39 (hS.row_rd hs2) (hS.row_blk hs2)) hm74) ?_
  rintro e w ⟨rfl, hN⟩; refine ⟨_, rfl, ?_⟩; have hB := hN.pure; have hS := hS.join hN; clear hN
  refine wpS_put rfl rfl rfl (yv_neq rfl rfl) ?_
  refine wpS_quick 2 rfl ?_
  refine wpS_case 64 rfl (fun hb => ?_) (fun hb => ?_)
  · replace H := cond_t H hb
    refine wpS_quick 9 rfl ?_
    refine wpS_nil ?_
    refine QH_seq_k hK67 ?_
    refine wpC_cond_t rfl rfl ?_
    refine wpC_seq_k (fun K hK76 => ?_)
    refine wpC_region ?_
    refine wpS_quick 1 rfl ?_
    refine wpS_nil ?_
    refine QH_seq_k hK76 ?_
    refine wpC_ret ?_
    refine QH_then_ret ?_
    refine QH_ret rfl (RV.tmp rfl RV.nil) rfl ?_
    obtain rfl := Option.some.inj H
    replace hS := hS.cut 0
    exact ⟨rfl, hS⟩
  replace H := cond_f H hb
  refine wpS_put rfl rfl rfl (yv_load_boxA ag_50 rfl (RW.here _) hS hs7 trivial sg0_6) ?_
  obtain ⟨r78, hm79, H⟩ := bind_some H
  refine wpS_call rfl rfl rfl rfl (by kernel_rfl) rfl (c_manifest_Check (⟨r41.next, r41.term, (IntKind.wrap .i64 (5 + x2)), r41.snap, r41.segs⟩ : Mf) A43 c44 _ (SlI.of_rd k45 (hS.row_rd hs1) (hS.row_blk hs1)) hm79) ?_
  rintro e w ⟨rfl, hN⟩; refine ⟨_, rfl, ?_⟩; have hB := hN.pure; have hS := hS.join hN; clear hN
  refine wpS_put rfl rfl rfl (yv_neq rfl rfl) ?_
  refine wpS_quick 2 rfl ?_
  refine wpS_case 69 rfl (fun hb => ?_) (fun hb => ?_)
  · replace H := cond_t H hb
    refine wpS_quick 4 rfl ?_
    refine wpS_nil ?_
    refine QH_seq_k hK67 ?_
    refine wpC_cond_t rfl rfl ?_
    refine wpC_seq_k (fun K hK81 => ?_)
    refine wpC_region ?_
    refine wpS_quick 1 rfl ?_
    refine wpS_nil ?_
    refine QH_seq_k hK81 ?_
    refine wpC_ret ?_
    refine QH_then_ret ?_
    refine QH_ret rfl (RV.tmp rfl RV.nil) rfl ?_
    obtain rfl := Option.some.inj H
    replace hS := hS.cut 0
    exact ⟨rfl, hS⟩
  replace H := cond_f H hb
  refine wpS_put rfl rfl rfl (yv_load_boxA ag_50 rfl (RW.here _) hS hs8 trivial sg0_6) ?_
  obtain ⟨r83, hm84, H⟩ := bind_some H
  refine wpS_call rfl rfl rfl rfl (by kernel_rfl) rfl (c_manifest_Check (⟨r47.next, r47.term, r47.vote, (⟨(IntKind.wrap .i64 ((IntKind.wrap .i64 (x0.next - 1)) + x2)), 1⟩ : Rf), r47.segs⟩ : Mf) A49 c50 _ (SlI.of_rd k51 (hS.row_rd hs0) (hS.row_blk hs0)) hm84) ?_
  rintro e w ⟨rfl, hN⟩; refine ⟨_, rfl, ?_⟩; have hB := hN.pure; have hS := hS.join hN; clear hN
  refine wpS_put rfl rfl rfl (yv_neq rfl rfl) ?_
  refine wpS_quick 1 rfl ?_
  refine wpS_nil ?_
  refine QH_seq_k hK67 ?_
  refine wpC_cond rfl (fun hb => ?_) (fun hb => ?_)
  · replace H := cond_t H hb
    refine wpC_seq_k (fun K hK86 => ?_)
    refine wpC_region ?_
    refine wpS_quick 1 rfl ?_
    refine wpS_nil ?_
    refine QH_seq_k hK86 ?_
    refine wpC_ret ?_
    refine QH_then_ret ?_
    refine QH_ret rfl (RV.tmp rfl RV.nil) rfl ?_
    obtain rfl := Option.some.inj H
    replace hS := hS.cut 0
    exact ⟨rfl, hS⟩
  replace H := cond_f H hb
  refine wpC_skip ?_
  refine QH_seq_k hK66 ?_
  refine wpC_seq_k (fun K hK88 => ?_)
  refine wpC_seq_k (fun K hK89 => ?_)
  refine wpC_region ?_
  refine wpS_put rfl rfl rfl (yv_fieldAddr fo_50_4 rfl) ?_
  refine wpS_put rfl rfl rfl (yv_load_box sc_48 rfl (RW.here _) hS hs4 trivial sg5_1) ?_
  refine wpS_put rfl rfl rfl (yv_len el_48 rfl) ?_
  refine wpS_put rfl rfl rfl (yv_eql rfl rfl) ?_
  refine wpS_nil ?_
  refine QH_seq_k hK89 ?_
  refine wpC_cond rfl (fun hb => ?_) (fun hb => ?_)
  · replace H := cond_t H hb
    refine wpC_seq_k (fun K hK91 => ?_)
    refine wpC_region ?_
    obtain ⟨r92, hm93, H⟩ := bind_some H
    refine wpS_call rfl rfl rfl rfl (by kernel_rfl) rfl (c_law11_wakes _ (SlI.of_rd hT_.k (hS.rd0 hT_.rd) (hS.blk0 hT_.blk)) hm93) ?_
    rintro e w ⟨rfl, hN⟩; refine ⟨_, rfl, ?_⟩; have hB := hN.pure; have hS := hS.join hN; clear hN
    refine wpS_quick 1 rfl ?_
    refine wpS_nil ?_
    refine QH_seq_k hK91 ?_
    refine wpC_ret ?_
    refine QH_then_ret ?_
    refine QH_ret rfl (RV.tmp rfl RV.nil) rfl ?_
    obtain rfl := Option.some.inj H
    replace hS := hS.cut 0
    exact ⟨rfl, hS⟩
  replace H := cond_f H hb
  refine wpC_skip ?_
  refine QH_seq_k hK88 ?_
  refine wpC_seq_k (fun K hK95 => ?_)
  refine wpC_draw 14 [] (fun _ _ => True) ⟨by kernel_rfl, by kernel_rfl⟩ hS (fun w hS hB => ?_)
  refine wpR_batch [true, true, true, true, true, true, true, true, true, true, true, true, true, true] (by decide +kernel) (by repeat (first | exact PF.body | exact PF.round | apply PF.then | apply PF.inBlock | apply PF.jump)) ?_
  refine LtK.put rfl rfl rfl (yv_move rfl) ?_
  refine LtK.put rfl rfl rfl (yv_fieldAddr fo_50_4 rfl) ?_
  refine LtK.put rfl rfl rfl (yv_load_box sc_48 rfl (RW.below _) hS hs4 trivial sg5_1) ?_
  refine LtK.put rfl rfl rfl (yv_len el_48 rfl) ?_
  obtain ⟨q96, hq97, H⟩ := bind_some H
  obtain ⟨hq97n, rfl⟩ := remI_some hq97
  refine LtK.put rfl rfl rfl (yx_rem rfl rfl hq97n) ?_
  refine LtK.put rfl rfl rfl (yv_fieldAddr fo_50_4 rfl) ?_
  refine LtK.put rfl rfl rfl (yv_load_box sc_48 rfl (RW.below _) hS hs4 trivial sg5_1) ?_
  refine LtK.put rfl rfl rfl (yv_len el_48 rfl) ?_
  refine LtK.put rfl rfl rfl (yx_add rfl rfl) ?_
  refine LtK.put rfl rfl rfl (yv_fieldAddr fo_50_4 rfl) ?_
  refine LtK.put rfl rfl rfl (yv_load_box sc_48 rfl (RW.below _) hS hs4 trivial sg5_1) ?_
  refine LtK.put rfl rfl rfl (yv_len el_48 rfl) ?_
  obtain ⟨q98, hq99, H⟩ := bind_some H
  obtain ⟨hq99n, rfl⟩ := remI_some hq99
  refine LtK.put rfl rfl rfl (yx_rem rfl rfl hq99n) ?_
  refine LtK.put rfl rfl rfl (yv_assign rfl) ?_
  refine LtK.nil ?_
  refine wpR_end (by kernel_rfl) ?_
  refine QH_seq_k hK95 ?_
  refine wpC_seq_k (fun K hK100 => ?_)
  refine wpC_seq_k (fun K hK101 => ?_)
  refine wpC_region ?_
  refine wpS_quick 1 rfl ?_
  refine wpS_nil ?_
  refine QH_seq_k hK101 ?_
  refine wpC_block ?_
  refine wpC_rounds 60 ?_
  refine wpC_seq_k (fun K hK102 => ?_)
  refine wpC_seq_k (fun K hK103 => ?_)
  refine wpC_region ?_
  refine wpS_quick 1 rfl ?_
  refine wpS_put rfl rfl rfl (yv_lss rfl rfl) ?_
  refine wpS_nil ?_
  refine QH_seq_k hK103 ?_
  refine wpC_cond_t rfl rfl ?_
  refine wpC_skip ?_
  refine QH_seq_k hK102 ?_
  refine wpC_seq_k (fun K hK104 => ?_)
  refine wpC_block ?_
  refine wpC_seq_k (fun K hK105 => ?_)
  refine wpC_region ?_
  refine wpS_put rfl rfl rfl (yv_load_boxA ag_50 rfl (RW.here _) hS hs4 trivial sg0_6) ?_
  obtain ⟨r106, hm107, H⟩ := bind_some H
  refine wpS_call rfl rfl rfl rfl (by kernel_rfl) rfl (c_ref11_Own x0 A0_ c0_ _ (SlI.of_rd s0_.k (hS.rd0 s0_.rd) (hS.blk0 s0_.blk)) hm107) ?_
  rintro e w ⟨A108, c109, rfl, k110, hN⟩; refine ⟨_, rfl, ?_⟩; have hB := hN.pure; have hS := hS.join hN; clear hN
  refine wpS_alloc rfl rfl zc_50 hS (fun b112 w hS hB => ?_)
  refine wpS_store rfl rfl rfl CellsOf.agg hS ps0 st0_6 (by kernel_rfl) rfl (fun w hS hB => ?_)
  refine wpS_nil ?_
  refine QH_seq_k hK105 ?_
  refine wpC_seq_k (fun K hK114 => ?_)
  refine wpC_region ?_
  refine wpS_put rfl rfl rfl (yv_fieldAddr fo_50_4 rfl) ?_
  refine wpS_put rfl rfl rfl (yv_load_box sc_48 rfl (RW.here _) hS hs0 trivial sg5_1) ?_
  refine wpS_quick 1 rfl ?_
  obtain ⟨e115, hi117, H⟩ := bind_some H
  obtain ⟨j116, hi117a, hi117b, hi117c⟩ := idx_some hi117
  refine wpS_put rfl rfl rfl (yx_idx el_48 rfl rfl hi117a hi117c (Rd.el (hS.row_rd hs1) he_enSg hi117b)) ?_
  refine wpS_quick 1 rfl ?_
  refine wpS_nil ?_
  refine QH_seq_k hK114 ?_
  refine wpC_seq_k (fun K hK118 => ?_)
  refine wpC_seq_k (fun K hK119 => ?_)
  refine wpC_region ?_
  refine wpS_quick 1 rfl ?_
  refine wpS_nil ?_
  refine QH_seq_k hK119 ?_
  refine wpC_block ?_
  refine wpC_seq_k (fun K hK120 => ?_)
  refine wpC_region ?_
  refine wpS_put rfl rfl rfl (yv_eql rfl rfl) ?_
  refine wpS_quick 1 rfl ?_
  refine wpS_nil ?_
  refine QH_seq_k hK120 ?_
  refine wpC_cond_t rfl rfl ?_
  refine wpC_region ?_
  refine wpS_quick 1 rfl ?_
  refine wpS_put rfl rfl rfl (yv_fieldAddr fo_50_0 rfl) ?_
  refine wpS_put rfl rfl rfl (yv_load_box sc_3 rfl (RW.here _) hS hs6 trivial sg0_1) ?_
  refine wpS_put rfl rfl rfl (yx_sub rfl rfl) ?_
  refine wpS_quick 1 rfl ?_
  refine wpS_put rfl rfl rfl (yx_add rfl rfl) ?_
  refine wpS_put rfl rfl rfl (yx_nilCheck rfl (Rd.el (hS.row_rd hs1) he_enSg hi117b)) ?_
  refine wpS_put rfl rfl rfl (yx_fieldAddr fo_66_0 rfl (Rd.el (hS.row_rd hs1) he_enSg hi117b)) ?_
  refine wpX_storeR (a' := (⟨(IntKind.wrap .i64 ((IntKind.wrap .i64 (x0.next - 1)) + x2)), e115.fmt, e115.first, e115.count⟩ : Sg)) (zs := (setI r106.segs (Int.tmod (IntKind.wrap .i64 ((Int.tmod x1 (x0.segs.length : Int)) + (x0.segs.length : Int))) (x0.segs.length : Int)) (⟨(IntKind.wrap .i64 ((IntKind.wrap .i64 (x0.next - 1)) + x2)), e115.fmt, e115.first, e115.count⟩ : Sg))) he_enSg rfl rfl rfl CellsOf.int hS ps1 (Rd.el (hS.row_rd hs1) he_enSg hi117b) hi117a hi117b rfl st0_1 (by kernel_rfl) rfl (fun w hS => ?_)
  have hi121b := setI_at (a := (⟨(IntKind.wrap .i64 ((IntKind.wrap .i64 (x0.next - 1)) + x2)), e115.fmt, e115.first, e115.count⟩ : Sg)) hi117a hi117b
  have hi121a := hi117a
  refine wpS_nil ?_
  refine QH_block_normal ?_
  refine QH_seq_k hK118 ?_
  refine wpC_seq_k (fun K hK122 => ?_)
  refine wpC_region ?_
  refine wpS_put rfl rfl rfl (yv_load_boxA ag_50 rfl (RW.here _) hS hs0 trivial sg0_6) ?_
  obtain ⟨r123, hm124, H⟩ := bind_some H
  refine wpS_call rfl rfl rfl rfl (by kernel_rfl) (by (repeat rw [(setI_len rfl)]); rfl) (c_manifest_Check (⟨r106.next, r106.term, r106.vote, r106.snap, (setI r106.segs (Int.tmod (IntKind.wrap .i64 ((Int.tmod x1 (x0.segs.length : Int)) + (x0.segs.length : Int))) (x0.segs.length : Int)) (⟨(IntKind.wrap .i64 ((IntKind.wrap .i64 (x0.next - 1)) + x2)), e115.fmt, e115.first, e115.count⟩ : Sg))⟩ : Mf) A108 c109 _ (SlI.of_rd (k_set k110) (hS.row_rd hs1) (hS.row_blk hs1)) hm124) ?_
  rintro e w ⟨rfl, hN⟩; refine ⟨_, rfl, ?_⟩; have hB := hN.pure; have hS := hS.join hN; clear hN
  refine wpS_put rfl rfl rfl (yv_neq rfl rfl) ?_
  refine wpS_quick 1 rfl ?_
  refine wpS_case 156 rfl (fun hb => ?_) (fun hb => ?_)
  · replace H := cond_t H hb
    refine wpS_quick 4 rfl ?_
    refine wpS_nil ?_
    refine QH_seq_k hK122 ?_
    refine wpC_cond_t rfl rfl ?_
    refine wpC_seq_k (fun K hK126 => ?_)
    refine wpC_region ?_
    refine wpS_quick 1 rfl ?_
    refine wpS_nil ?_
    refine QH_seq_k hK126 ?_
    refine wpC_ret ?_
    refine QH_block_ret ?_
    refine QH_then_ret ?_
    refine QH_then_ret ?_
    refine QH_block_ret ?_
    refine QH_then_ret ?_
    refine QH_ret rfl (RV.tmp rfl RV.nil) rfl ?_
    obtain rfl := Option.some.inj H
    replace hS := hS.cut 0
    exact ⟨rfl, hS⟩
  replace H := cond_f H hb
  refine wpS_put rfl rfl rfl (yv_load_boxA ag_50 rfl (RW.here _) hS hs0 trivial sg0_6) ?_
  refine wpS_put rfl rfl rfl (yv_load_boxA ag_50 rfl (RW.here _) hS hs6 trivial sg0_6) ?_
  obtain ⟨r128, hm129, H⟩ := bind_some H
  refine wpS_call rfl rfl rfl rfl (by kernel_rfl) (by (repeat rw [(setI_len rfl)]); rfl) (c_manifest_Same (⟨r106.next, r106.term, r106.vote, r106.snap, (setI r106.segs (Int.tmod (IntKind.wrap .i64 ((Int.tmod x1 (x0.segs.length : Int)) + (x0.segs.length : Int))) (x0.segs.length : Int)) (⟨(IntKind.wrap .i64 ((IntKind.wrap .i64 (x0.next - 1)) + x2)), e115.fmt, e115.first, e115.count⟩ : Sg))⟩ : Mf) x0 A108 c109 A0_ c0_ _ (SlI.of_rd (k_set k110) (hS.row_rd hs1) (hS.row_blk hs1)) (SlI.of_rd s0_.k (hS.rd0 s0_.rd) (hS.blk0 s0_.blk)) hm129) ?_
  rintro e w ⟨rfl, hN⟩; refine ⟨_, rfl, ?_⟩; have hB := hN.pure; have hS := hS.join hN; clear hN
  refine wpS_quick 1 rfl ?_
  refine wpS_nil ?_
  refine QH_seq_k hK122 ?_
  refine wpC_cond rfl (fun hb => ?_) (fun hb => ?_)
  · replace H := cond_t H hb
    refine wpC_seq_k (fun K hK131 => ?_)
    refine wpC_region ?_
    refine wpS_quick 1 rfl ?_
    refine wpS_nil ?_
    refine QH_seq_k hK131 ?_
    refine wpC_ret ?_
    refine QH_block_ret ?_
    refine QH_then_ret ?_
    refine QH_then_ret ?_
    refine QH_block_ret ?_
    refine QH_then_ret ?_
    refine QH_ret rfl (RV.tmp rfl RV.nil) rfl ?_
    obtain rfl := Option.some.inj H
    replace hS := hS.cut 0
    exact ⟨rfl, hS⟩
  replace H := cond_f H hb
  refine wpC_skip ?_
  refine QH_block_normal ?_
  refine QH_seq_k hK104 ?_
  refine wpC_region ?_
  refine wpS_quick 1 rfl ?_
  refine wpS_put rfl rfl rfl (yx_add rfl rfl) ?_
  refine wpS_quick 1 rfl ?_
  refine wpS_nil ?_
  refine QH_more ?_
  refine wpC_seq_k (fun K hK133 => ?_)
  refine wpC_seq_k (fun K hK134 => ?_)
  refine wpC_region ?_
  refine wpS_quick 1 rfl ?_
  refine wpS_put rfl rfl rfl (yv_lss rfl rfl) ?_
  refine wpS_nil ?_
  refine QH_seq_k hK134 ?_
  refine wpC_cond_t rfl rfl ?_
  refine wpC_skip ?_
  refine QH_seq_k hK133 ?_
  refine wpC_seq_k (fun K hK135 => ?_)
  refine wpC_block ?_
  refine wpC_seq_k (fun K hK136 => ?_)
  refine wpC_region ?_
  refine wpS_put rfl rfl rfl (yv_load_boxA ag_50 rfl (RW.here _) hS hs6 trivial sg0_6) ?_
  obtain ⟨r137, hm138, H⟩ := bind_some H
  refine wpS_call rfl rfl rfl rfl (by kernel_rfl) rfl (c_ref11_Own x0 A0_ c0_ _ (SlI.of_rd s0_.k (hS.rd0 s0_.rd) (hS.blk0 s0_.blk)) hm138) ?_
  rintro e w ⟨A139, c140, rfl, k141, hN⟩; refine ⟨_, rfl, ?_⟩; have hB := hN.pure; have hS := hS.join hN; clear hN
  refine wpS_alloc rfl rfl zc_50 hS (fun b143 w hS hB => ?_)
  refine wpS_store rfl rfl rfl CellsOf.agg hS ps0 st0_6 (by kernel_rfl) rfl (fun w hS hB => ?_)
  refine wpS_nil ?_
  refine QH_seq_k hK136 ?_
  refine wpC_seq_k (fun K hK145 => ?_)
  refine wpC_region ?_
  refine wpS_put rfl rfl rfl (yv_fieldAddr fo_50_4 rfl) ?_
  refine wpS_put rfl rfl rfl (yv_load_box sc_48 rfl (RW.here _) hS hs0 trivial sg5_1) ?_
  refine wpS_quick 1 rfl ?_
  obtain ⟨e146, hi148, H⟩ := bind_some H
  obtain ⟨j147, hi148a, hi148b, hi148c⟩ := idx_some hi148
  refine wpS_put rfl rfl rfl (yx_idx el_48 rfl rfl hi148a hi148c (Rd.el (hS.row_rd hs1) he_enSg hi148b)) ?_
  refine wpS_quick 1 rfl ?_
  refine wpS_nil ?_
  refine QH_seq_k hK145 ?_
  refine wpC_seq_k (fun K hK149 => ?_)
  refine wpC_seq_k (fun K hK150 => ?_)
  refine wpC_region ?_
  refine wpS_quick 1 rfl ?_
  refine wpS_nil ?_
  refine QH_seq_k hK150 ?_
  refine wpC_block ?_
  refine wpC_seq_k (fun K hK151 => ?_)
  refine wpC_region ?_
  refine wpS_put rfl rfl rfl (yv_eql rfl rfl) ?_
  refine wpS_quick 1 rfl ?_
  refine wpS_nil ?_
  refine QH_seq_k hK151 ?_
  refine wpC_cond_f rfl rfl ?_
  refine wpC_seq_k (fun K hK152 => ?_)
  refine wpC_region ?_
  refine wpS_put rfl rfl rfl (yv_eql rfl rfl) ?_
  refine wpS_quick 1 rfl ?_
  refine wpS_nil ?_
  refine QH_seq_k hK152 ?_
  refine wpC_cond_t rfl rfl ?_
  refine wpC_region ?_
  refine wpS_quick 2 rfl ?_
  refine wpS_put rfl rfl rfl (yx_add rfl rfl) ?_
  refine wpS_put rfl rfl rfl (yx_nilCheck rfl (Rd.el (hS.row_rd hs1) he_enSg hi148b)) ?_
  refine wpS_put rfl rfl rfl (yx_fieldAddr fo_66_1 rfl (Rd.el (hS.row_rd hs1) he_enSg hi148b)) ?_
  refine wpX_storeR (a' := (⟨e146.seq, (IntKind.wrap .i64 (2 + x2)), e146.first, e146.count⟩ : Sg)) (zs := (setI r137.segs (Int.tmod (IntKind.wrap .i64 ((Int.tmod x1 (x0.segs.length : Int)) + (x0.segs.length : Int))) (x0.segs.length : Int)) (⟨e146.seq, (IntKind.wrap .i64 (2 + x2)), e146.first, e146.count⟩ : Sg))) he_enSg rfl rfl rfl CellsOf.int hS ps1 (Rd.el (hS.row_rd hs1) he_enSg hi148b) hi148a hi148b rfl st1_1 (by kernel_rfl) rfl (fun w hS => ?_)
  have hi153b := setI_at (a := (⟨e146.seq, (IntKind.wrap .i64 (2 + x2)), e146.first, e146.count⟩ : Sg)) hi148a hi148b
  have hi153a := hi148a
  refine wpS_nil ?_
  refine QH_block_normal ?_
  refine QH_seq_k hK149 ?_
  refine wpC_seq_k (fun K hK154 => ?_)
  refine wpC_region ?_
  refine wpS_put rfl rfl rfl (yv_load_boxA ag_50 rfl (RW.here _) hS hs0 trivial sg0_6) ?_
  obtain ⟨r155, hm156, H⟩ := bind_some H
  refine wpS_call rfl rfl rfl rfl (by kernel_rfl) (by (repeat rw [(setI_len rfl)]); rfl) (c_manifest_Check (⟨r137.next, r137.term, r137.vote, r137.snap, (setI r137.segs (Int.tmod (IntKind.wrap .i64 ((Int.tmod x1 (x0.segs.length : Int)) + (x0.segs.length : Int))) (x0.segs.length : Int)) (⟨e146.seq, (IntKind.wrap .i64 (2 + x2)), e146.first, e146.count⟩ : Sg))⟩ : Mf) A139 c140 _ (SlI.of_rd (k_set k141) (hS.row_rd hs1) (hS.row_blk hs1)) hm156) ?_
  rintro e w ⟨rfl, hN⟩; refine ⟨_, rfl, ?_⟩; have hB := hN.pure; have hS := hS.join hN; clear hN
  refine wpS_put rfl rfl rfl (yv_neq rfl rfl) ?_
  refine wpS_quick 1 rfl ?_
  refine wpS_case 156 rfl (fun hb => ?_) (fun hb => ?_)
  · replace H := cond_t H hb
    refine wpS_quick 4 rfl ?_
    refine wpS_nil ?_
    refine QH_seq_k hK154 ?_
    refine wpC_cond_t rfl rfl ?_
    refine wpC_seq_k (fun K hK158 => ?_)
    refine wpC_region ?_
    refine wpS_quick 1 rfl ?_
    refine wpS_nil ?_
    refine QH_seq_k hK158 ?_
    refine wpC_ret ?_
    refine QH_block_ret ?_
    refine QH_then_ret ?_
    refine QH_then_ret ?_
    refine QH_block_ret ?_
    refine QH_then_ret ?_
    refine QH_ret rfl (RV.tmp rfl RV.nil) rfl ?_
    obtain rfl := Option.some.inj H
    replace hS := hS.cut 0
    exact ⟨rfl, hS⟩
  replace H := cond_f H hb
  refine wpS_put rfl rfl rfl (yv_load_boxA ag_50 rfl (RW.here _) hS hs0 trivial sg0_6) ?_
  refine wpS_put rfl rfl rfl (yv_load_boxA ag_50 rfl (RW.here _) hS hs8 trivial sg0_6) ?_
  obtain ⟨r160, hm161, H⟩ := bind_some H
  refine wpS_call rfl rfl rfl rfl (by kernel_rfl) (by (repeat rw [(setI_len rfl)]); rfl) (c_manifest_Same (⟨r137.next, r137.term, r137.vote, r137.snap, (setI r137.segs (Int.tmod (IntKind.wrap .i64 ((Int.tmod x1 (x0.segs.length : Int)) + (x0.segs.length : Int))) (x0.segs.length : Int)) (⟨e146.seq, (IntKind.wrap .i64 (2 + x2)), e146.first, e146.count⟩ : Sg))⟩ : Mf) x0 A139 c140 A0_ c0_ _ (SlI.of_rd (k_set k141) (hS.row_rd hs1) (hS.row_blk hs1)) (SlI.of_rd s0_.k (hS.rd0 s0_.rd) (hS.blk0 s0_.blk)) hm161) ?_
  rintro e w ⟨rfl, hN⟩; refine ⟨_, rfl, ?_⟩; have hB := hN.pure; have hS := hS.join hN; clear hN
  refine wpS_quick 1 rfl ?_
  refine wpS_nil ?_
  refine QH_seq_k hK154 ?_
  refine wpC_cond rfl (fun hb => ?_) (fun hb => ?_)
  · replace H := cond_t H hb
    refine wpC_seq_k (fun K hK163 => ?_)
    refine wpC_region ?_
    refine wpS_quick 1 rfl ?_
    refine wpS_nil ?_
    refine QH_seq_k hK163 ?_
    refine wpC_ret ?_
    refine QH_block_ret ?_
    refine QH_then_ret ?_
    refine QH_then_ret ?_
    refine QH_block_ret ?_
    refine QH_then_ret ?_
    refine QH_ret rfl (RV.tmp rfl RV.nil) rfl ?_
    obtain rfl := Option.some.inj H
    replace hS := hS.cut 0
    exact ⟨rfl, hS⟩
  replace H := cond_f H hb
  refine wpC_skip ?_
  refine QH_block_normal ?_
  refine QH_seq_k hK135 ?_
  refine wpC_region ?_
  refine wpS_quick 1 rfl ?_
  refine wpS_put rfl rfl rfl (yx_add rfl rfl) ?_
  refine wpS_quick 1 rfl ?_
  refine wpS_nil ?_
  refine QH_more ?_
  refine wpC_seq_k (fun K hK165 => ?_)
  refine wpC_seq_k (fun K hK166 => ?_)
  refine wpC_region ?_
  refine wpS_quick 1 rfl ?_
  refine wpS_put rfl rfl rfl (yv_lss rfl rfl) ?_
  refine wpS_nil ?_
  refine QH_seq_k hK166 ?_
  refine wpC_cond_t rfl rfl ?_
  refine wpC_skip ?_
  refine QH_seq_k hK165 ?_
  refine wpC_seq_k (fun K hK167 => ?_)
  refine wpC_block ?_
  refine wpC_seq_k (fun K hK168 => ?_)
  refine wpC_region ?_
  refine wpS_put rfl rfl rfl (yv_load_boxA ag_50 rfl (RW.here _) hS hs8 trivial sg0_6) ?_
  obtain ⟨r169, hm170, H⟩ := bind_some H
  refine wpS_call rfl rfl rfl rfl (by kernel_rfl) rfl (c_ref11_Own x0 A0_ c0_ _ (SlI.of_rd s0_.k (hS.rd0 s0_.rd) (hS.blk0 s0_.blk)) hm170) ?_
  rintro e w ⟨A171, c172, rfl, k173, hN⟩; refine ⟨_, rfl, ?_⟩; have hB := hN.pure; have hS := hS.join hN; clear hN
  refine wpS_alloc rfl rfl zc_50 hS (fun b175 w hS hB => ?_)
  refine wpS_store rfl rfl rfl CellsOf.agg hS ps0 st0_6 (by kernel_rfl) rfl (fun w hS hB => ?_)
  refine wpS_nil ?_
  refine QH_seq_k hK168 ?_
  refine wpC_seq_k (fun K hK177 => ?_)
  refine wpC_region ?_
  refine wpS_put rfl rfl rfl (yv_fieldAddr fo_50_4 rfl) ?_
  refine wpS_put rfl rfl rfl (yv_load_box sc_48 rfl (RW.here _) hS hs0 trivial sg5_1) ?_
  refine wpS_quick 1 rfl ?_
  obtain ⟨e178, hi180, H⟩ := bind_some H
  obtain ⟨j179, hi180a, hi180b, hi180c⟩ := idx_some hi180
  refine wpS_put rfl rfl rfl (yx_idx el_48 rfl rfl hi180a hi180c (Rd.el (hS.row_rd hs1) he_enSg hi180b)) ?_
  refine wpS_quick 1 rfl ?_
  refine wpS_nil ?_
  refine QH_seq_k hK177 ?_
  refine wpC_seq_k (fun K hK181 => ?_)
  refine wpC_seq_k (fun K hK182 => ?_)
  refine wpC_region ?_
  refine wpS_quick 1 rfl ?_
  refine wpS_nil ?_
  refine QH_seq_k hK182 ?_
  refine wpC_block ?_
  refine wpC_seq_k (fun K hK183 => ?_)
  refine wpC_region ?_
  refine wpS_put rfl rfl rfl (yv_eql rfl rfl) ?_
  refine wpS_quick 1 rfl ?_
  refine wpS_nil ?_
  refine QH_seq_k hK183 ?_
  refine wpC_cond_f rfl rfl ?_
  refine wpC_seq_k (fun K hK184 => ?_)
  refine wpC_region ?_
  refine wpS_put rfl rfl rfl (yv_eql rfl rfl) ?_
  refine wpS_quick 1 rfl ?_
  refine wpS_nil ?_
  refine QH_seq_k hK184 ?_
  refine wpC_cond_f rfl rfl ?_
  refine wpC_seq_k (fun K hK185 => ?_)
  refine wpC_region ?_
  refine wpS_put rfl rfl rfl (yv_eql rfl rfl) ?_
  refine wpS_quick 1 rfl ?_
  refine wpS_nil ?_
  refine QH_seq_k hK185 ?_
  refine wpC_cond_t rfl rfl ?_
  refine wpC_region ?_
  refine wpS_quick 2 rfl ?_
  refine wpS_put rfl rfl rfl (yx_neg rfl) ?_
  refine wpS_put rfl rfl rfl (yx_nilCheck rfl (Rd.el (hS.row_rd hs1) he_enSg hi180b)) ?_
  refine wpS_put rfl rfl rfl (yx_fieldAddr fo_66_2 rfl (Rd.el (hS.row_rd hs1) he_enSg hi180b)) ?_
  refine wpX_storeR (a' := (⟨e178.seq, e178.fmt, (IntKind.wrap .i64 (0 - x2)), e178.count⟩ : Sg)) (zs := (setI r169.segs (Int.tmod (IntKind.wrap .i64 ((Int.tmod x1 (x0.segs.length : Int)) + (x0.segs.length : Int))) (x0.segs.length : Int)) (⟨e178.seq, e178.fmt, (IntKind.wrap .i64 (0 - x2)), e178.count⟩ : Sg))) he_enSg rfl rfl rfl CellsOf.int hS ps1 (Rd.el (hS.row_rd hs1) he_enSg hi180b) hi180a hi180b rfl st2_1 (by kernel_rfl) rfl (fun w hS => ?_)
  have hi186b := setI_at (a := (⟨e178.seq, e178.fmt, (IntKind.wrap .i64 (0 - x2)), e178.count⟩ : Sg)) hi180a hi180b
  have hi186a := hi180a
  refine wpS_nil ?_
  refine QH_block_normal ?_
  refine QH_seq_k hK181 ?_
  refine wpC_seq_k (fun K hK187 => ?_)
  refine wpC_region ?_
  refine wpS_put rfl rfl rfl (yv_load_boxA ag_50 rfl (RW.here _) hS hs0 trivial sg0_6) ?_
  obtain ⟨r188, hm189, H⟩ := bind_some H
  refine wpS_call rfl rfl rfl rfl (by kernel_rfl) (by (repeat rw [(setI_len rfl)]); rfl) (c_manifest_Check (⟨r169.next, r169.term, r169.vote, r169.snap, (setI r169.segs (Int.tmod (IntKind.wrap .i64 ((Int.tmod x1 (x0.segs.length : Int)) + (x0.segs.length : Int))) (x0.segs.length : Int)) (⟨e178.seq, e178.fmt, (IntKind.wrap .i64 (0 - x2)), e178.count⟩ : Sg))⟩ : Mf) A171 c172 _ (SlI.of_rd (k_set k173) (hS.row_rd hs1) (hS.row_blk hs1)) hm189) ?_
  rintro e w ⟨rfl, hN⟩; refine ⟨_, rfl, ?_⟩; have hB := hN.pure; have hS := hS.join hN; clear hN
  refine wpS_put rfl rfl rfl (yv_neq rfl rfl) ?_
  refine wpS_quick 1 rfl ?_
  refine wpS_case 156 rfl (fun hb => ?_) (fun hb => ?_)
  · replace H := cond_t H hb
    refine wpS_quick 4 rfl ?_
    refine wpS_nil ?_
    refine QH_seq_k hK187 ?_
    refine wpC_cond_t rfl rfl ?_
    refine wpC_seq_k (fun K hK191 => ?_)
    refine wpC_region ?_
    refine wpS_quick 1 rfl ?_
    refine wpS_nil ?_
    refine QH_seq_k hK191 ?_
    refine wpC_ret ?_
    refine QH_block_ret ?_
    refine QH_then_ret ?_
    refine QH_then_ret ?_
    refine QH_block_ret ?_
    refine QH_then_ret ?_
    refine QH_ret rfl (RV.tmp rfl RV.nil) rfl ?_
    obtain rfl := Option.some.inj H
    replace hS := hS.cut 0
    exact ⟨rfl, hS⟩
  replace H := cond_f H hb
  refine wpS_put rfl rfl rfl (yv_load_boxA ag_50 rfl (RW.here _) hS hs0 trivial sg0_6) ?_
  refine wpS_put rfl rfl rfl (yv_load_boxA ag_50 rfl (RW.here _) hS hs10 trivial sg0_6) ?_
  obtain ⟨r193, hm194, H⟩ := bind_some H
  refine wpS_call rfl rfl rfl rfl (by kernel_rfl) (by (repeat rw [(setI_len rfl)]); rfl) (c_manifest_Same (⟨r169.next, r169.term, r169.vote, r169.snap, (setI r169.segs (Int.tmod (IntKind.wrap .i64 ((Int.tmod x1 (x0.segs.length : Int)) + (x0.segs.length : Int))) (x0.segs.length : Int)) (⟨e178.seq, e178.fmt, (IntKind.wrap .i64 (0 - x2)), e178.count⟩ : Sg))⟩ : Mf) x0 A171 c172 A0_ c0_ _ (SlI.of_rd (k_set k173) (hS.row_rd hs1) (hS.row_blk hs1)) (SlI.of_rd s0_.k (hS.rd0 s0_.rd) (hS.blk0 s0_.blk)) hm194) ?_
  rintro e w ⟨rfl, hN⟩; refine ⟨_, rfl, ?_⟩; have hB := hN.pure; have hS := hS.join hN; clear hN
  refine wpS_quick 1 rfl ?_
  refine wpS_nil ?_
  refine QH_seq_k hK187 ?_
  refine wpC_cond rfl (fun hb => ?_) (fun hb => ?_)
  · replace H := cond_t H hb
    refine wpC_seq_k (fun K hK196 => ?_)
    refine wpC_region ?_
    refine wpS_quick 1 rfl ?_
    refine wpS_nil ?_
    refine QH_seq_k hK196 ?_
    refine wpC_ret ?_
    refine QH_block_ret ?_
    refine QH_then_ret ?_
    refine QH_then_ret ?_
    refine QH_block_ret ?_
    refine QH_then_ret ?_
    refine QH_ret rfl (RV.tmp rfl RV.nil) rfl ?_
    obtain rfl := Option.some.inj H
    replace hS := hS.cut 0
    exact ⟨rfl, hS⟩
  replace H := cond_f H hb
  refine wpC_skip ?_
  refine QH_block_normal ?_
  refine QH_seq_k hK167 ?_
  refine wpC_region ?_
  refine wpS_quick 1 rfl ?_
  refine wpS_put rfl rfl rfl (yx_add rfl rfl) ?_
  refine wpS_quick 1 rfl ?_
  refine wpS_nil ?_
  refine QH_more ?_
  refine wpC_seq_k (fun K hK198 => ?_)
  refine wpC_seq_k (fun K hK199 => ?_)
  refine wpC_region ?_
  refine wpS_quick 1 rfl ?_
  refine wpS_put rfl rfl rfl (yv_lss rfl rfl) ?_
  refine wpS_nil ?_
  refine QH_seq_k hK199 ?_
  refine wpC_cond_t rfl rfl ?_
  refine wpC_skip ?_
  refine QH_seq_k hK198 ?_
  refine wpC_seq_k (fun K hK200 => ?_)
  refine wpC_block ?_
  refine wpC_seq_k (fun K hK201 => ?_)
  refine wpC_region ?_
  refine wpS_put rfl rfl rfl (yv_load_boxA ag_50 rfl (RW.here _) hS hs10 trivial sg0_6) ?_
  obtain ⟨r202, hm203, H⟩ := bind_some H
  refine wpS_call rfl rfl rfl rfl (by kernel_rfl) rfl (c_ref11_Own x0 A0_ c0_ _ (SlI.of_rd s0_.k (hS.rd0 s0_.rd) (hS.blk0 s0_.blk)) hm203) ?_
  rintro e w ⟨A204, c205, rfl, k206, hN⟩; refine ⟨_, rfl, ?_⟩; have hB := hN.pure; have hS := hS.join hN; clear hN
  refine wpS_alloc rfl rfl zc_50 hS (fun b208 w hS hB => ?_)
  refine wpS_store rfl rfl rfl CellsOf.agg hS ps0 st0_6 (by kernel_rfl) rfl (fun w hS hB => ?_)
  refine wpS_nil ?_
  refine QH_seq_k hK201 ?_
  refine wpC_seq_k (fun K hK210 => ?_)
  refine wpC_region ?_
  refine wpS_put rfl rfl rfl (yv_fieldAddr fo_50_4 rfl) ?_
  refine wpS_put rfl rfl rfl (yv_load_box sc_48 rfl (RW.here _) hS hs0 trivial sg5_1) ?_
  refine wpS_quick 1 rfl ?_
  obtain ⟨e211, hi213, H⟩ := bind_some H
  obtain ⟨j212, hi213a, hi213b, hi213c⟩ := idx_some hi213
  refine wpS_put rfl rfl rfl (yx_idx el_48 rfl rfl hi213a hi213c (Rd.el (hS.row_rd hs1) he_enSg hi213b)) ?_
  refine wpS_quick 1 rfl ?_
  refine wpS_nil ?_
  refine QH_seq_k hK210 ?_
  refine wpC_seq_k (fun K hK214 => ?_)
  refine wpC_seq_k (fun K hK215 => ?_)
  refine wpC_region ?_
  refine wpS_quick 1 rfl ?_
  refine wpS_nil ?_
  refine QH_seq_k hK215 ?_
  refine wpC_block ?_
  refine wpC_seq_k (fun K hK216 => ?_)
  refine wpC_region ?_
  refine wpS_put rfl rfl rfl (yv_eql rfl rfl) ?_
  refine wpS_quick 1 rfl ?_
  refine wpS_nil ?_
  refine QH_seq_k hK216 ?_
  refine wpC_cond_f rfl rfl ?_
  refine wpC_seq_k (fun K hK217 => ?_)
  refine wpC_region ?_
  refine wpS_put rfl rfl rfl (yv_eql rfl rfl) ?_
  refine wpS_quick 1 rfl ?_
  refine wpS_nil ?_
  refine QH_seq_k hK217 ?_
  refine wpC_cond_f rfl rfl ?_
  refine wpC_seq_k (fun K hK218 => ?_)
  refine wpC_region ?_
  refine wpS_put rfl rfl rfl (yv_eql rfl rfl) ?_
  refine wpS_quick 1 rfl ?_
  refine wpS_nil ?_
  refine QH_seq_k hK218 ?_
  refine wpC_cond_f rfl rfl ?_
  refine wpC_seq_k (fun K hK219 => ?_)
  refine wpC_region ?_
  refine wpS_put rfl rfl rfl (yv_eql rfl rfl) ?_
  refine wpS_quick 1 rfl ?_
  refine wpS_nil ?_
  refine QH_seq_k hK219 ?_
  refine wpC_cond_t rfl rfl ?_
  refine wpC_region ?_
  refine wpS_quick 2 rfl ?_
  refine wpS_put rfl rfl rfl (yx_add rfl rfl) ?_
  refine wpS_put rfl rfl rfl (yx_nilCheck rfl (Rd.el (hS.row_rd hs1) he_enSg hi213b)) ?_
  refine wpS_put rfl rfl rfl (yx_fieldAddr fo_66_3 rfl (Rd.el (hS.row_rd hs1) he_enSg hi213b)) ?_
  refine wpX_storeR (a' := (⟨e211.seq, e211.fmt, e211.first, (IntKind.wrap .i64 (4 + x2))⟩ : Sg)) (zs := (setI r202.segs (Int.tmod (IntKind.wrap .i64 ((Int.tmod x1 (x0.segs.length : Int)) + (x0.segs.length : Int))) (x0.segs.length : Int)) (⟨e211.seq, e211.fmt, e211.first, (IntKind.wrap .i64 (4 + x2))⟩ : Sg))) he_enSg rfl rfl rfl CellsOf.int hS ps1 (Rd.el (hS.row_rd hs1) he_enSg hi213b) hi213a hi213b rfl st3_1 (by kernel_rfl) rfl (fun w hS => ?_)
  have hi220b := setI_at (a := (⟨e211.seq, e211.fmt, e211.first, (IntKind.wrap .i64 (4 + x2))⟩ : Sg)) hi213a hi213b
  have hi220a := hi213a
  refine wpS_nil ?_
  refine QH_block_normal ?_
  refine QH_seq_k hK214 ?_
  refine wpC_seq_k (fun K hK221 => ?_)
  refine wpC_region ?_
  refine wpS_put rfl rfl rfl (yv_load_boxA ag_50 rfl (RW.here _) hS hs0 trivial sg0_6) ?_
  obtain ⟨r222, hm223, H⟩ := bind_some H
  refine wpS_call rfl rfl rfl rfl (by kernel_rfl) (by (repeat rw [(setI_len rfl)]); rfl) (c_manifest_Check (⟨r202.next, r202.term, r202.vote, r202.snap, (setI r202.segs (Int.tmod (IntKind.wrap .i64 ((Int.tmod x1 (x0.segs.length : Int)) + (x0.segs.length : Int))) (x0.segs.length : Int)) (⟨e211.seq, e211.fmt, e211.first, (IntKind.wrap .i64 (4 + x2))⟩ : Sg))⟩ : Mf) A204 c205 _ (SlI.of_rd (k_set k206) (hS.row_rd hs1) (hS.row_blk hs1)) hm223) ?_
  rintro e w ⟨rfl, hN⟩; refine ⟨_, rfl, ?_⟩; have hB := hN.pure; have hS := hS.join hN; clear hN
  refine wpS_put rfl rfl rfl (yv_neq rfl rfl) ?_
  refine wpS_quick 1 rfl ?_
  refine wpS_case 156 rfl (fun hb => ?_) (fun hb => ?_)
  · replace H := cond_t H hb
    refine wpS_quick 4 rfl ?_
    refine wpS_nil ?_
    refine QH_seq_k hK221 ?_
    refine wpC_cond_t rfl rfl ?_
    refine wpC_seq_k (fun K hK225 => ?_)
    refine wpC_region ?_
    refine wpS_quick 1 rfl ?_
    refine wpS_nil ?_
    refine QH_seq_k hK225 ?_
    refine wpC_ret ?_
    refine QH_block_ret ?_
    refine QH_then_ret ?_
    refine QH_then_ret ?_
    refine QH_block_ret ?_
    refine QH_then_ret ?_
    refine QH_ret rfl (RV.tmp rfl RV.nil) rfl ?_
    obtain rfl := Option.some.inj H
    replace hS := hS.cut 0
    exact ⟨rfl, hS⟩
  replace H := cond_f H hb
  refine wpS_put rfl rfl rfl (yv_load_boxA ag_50 rfl (RW.here _) hS hs0 trivial sg0_6) ?_
  refine wpS_put rfl rfl rfl (yv_load_boxA ag_50 rfl (RW.here _) hS hs12 trivial sg0_6) ?_
  obtain ⟨r227, hm228, H⟩ := bind_some H
  refine wpS_call rfl rfl rfl rfl (by kernel_rfl) (by (repeat rw [(setI_len rfl)]); rfl) (c_manifest_Same (⟨r202.next, r202.term, r202.vote, r202.snap, (setI r202.segs (Int.tmod (IntKind.wrap .i64 ((Int.tmod x1 (x0.segs.length : Int)) + (x0.segs.length : Int))) (x0.segs.length : Int)) (⟨e211.seq, e211.fmt, e211.first, (IntKind.wrap .i64 (4 + x2))⟩ : Sg))⟩ : Mf) x0 A204 c205 A0_ c0_ _ (SlI.of_rd (k_set k206) (hS.row_rd hs1) (hS.row_blk hs1)) (SlI.of_rd s0_.k (hS.rd0 s0_.rd) (hS.blk0 s0_.blk)) hm228) ?_
  rintro e w ⟨rfl, hN⟩; refine ⟨_, rfl, ?_⟩; have hB := hN.pure; have hS := hS.join hN; clear hN
  refine wpS_quick 1 rfl ?_
  refine wpS_nil ?_
  refine QH_seq_k hK221 ?_
  refine wpC_cond rfl (fun hb => ?_) (fun hb => ?_)
  · replace H := cond_t H hb
    refine wpC_seq_k (fun K hK230 => ?_)
    refine wpC_region ?_
    refine wpS_quick 1 rfl ?_
    refine wpS_nil ?_
    refine QH_seq_k hK230 ?_
    refine wpC_ret ?_
    refine QH_block_ret ?_
    refine QH_then_ret ?_
    refine QH_then_ret ?_
    refine QH_block_ret ?_
    refine QH_then_ret ?_
    refine QH_ret rfl (RV.tmp rfl RV.nil) rfl ?_
    obtain rfl := Option.some.inj H
    replace hS := hS.cut 0
    exact ⟨rfl, hS⟩
  replace H := cond_f H hb
  refine wpC_skip ?_
  refine QH_block_normal ?_
  refine QH_seq_k hK200 ?_
  refine wpC_region ?_
  refine wpS_quick 1 rfl ?_
  refine wpS_put rfl rfl rfl (yx_add rfl rfl) ?_
  refine wpS_quick 1 rfl ?_
  refine wpS_nil ?_
  refine QH_more ?_
  refine wpC_seq_k (fun K hK232 => ?_)
  refine wpC_seq_k (fun K hK233 => ?_)
  refine wpC_region ?_
  refine wpS_quick 1 rfl ?_
  refine wpS_put rfl rfl rfl (yv_lss rfl rfl) ?_
  refine wpS_nil ?_
  refine QH_seq_k hK233 ?_
  refine wpC_cond_t rfl rfl ?_
  refine wpC_skip ?_
  refine QH_seq_k hK232 ?_
  refine wpC_seq_k (fun K hK234 => ?_)
  refine wpC_block ?_
  refine wpC_seq_k (fun K hK235 => ?_)
  refine wpC_region ?_
  refine wpS_put rfl rfl rfl (yv_load_boxA ag_50 rfl (RW.here _) hS hs12 trivial sg0_6) ?_
  obtain ⟨r236, hm237, H⟩ := bind_some H
  refine wpS_call rfl rfl rfl rfl (by kernel_rfl) rfl (c_ref11_Own x0 A0_ c0_ _ (SlI.of_rd s0_.k (hS.rd0 s0_.rd) (hS.blk0 s0_.blk)) hm237) ?_
  rintro e w ⟨A238, c239, rfl, k240, hN⟩; refine ⟨_, rfl, ?_⟩; have hB := hN.pure; have hS := hS.join hN; clear hN
  refine wpS_alloc rfl rfl zc_50 hS (fun b242 w hS hB => ?_)
  refine wpS_store rfl rfl rfl CellsOf.agg hS ps0 st0_6 (by kernel_rfl) rfl (fun w hS hB => ?_)
  refine wpS_nil ?_
  refine QH_seq_k hK235 ?_
  refine wpC_seq_k (fun K hK244 => ?_)
  refine wpC_region ?_
  refine wpS_put rfl rfl rfl (yv_fieldAddr fo_50_4 rfl) ?_
  refine wpS_put rfl rfl rfl (yv_load_box sc_48 rfl (RW.here _) hS hs0 trivial sg5_1) ?_
  refine wpS_quick 1 rfl ?_
  obtain ⟨e245, hi247, H⟩ := bind_some H
  obtain ⟨j246, hi247a, hi247b, hi247c⟩ := idx_some hi247
  refine wpS_put rfl rfl rfl (yx_idx el_48 rfl rfl hi247a hi247c (Rd.el (hS.row_rd hs1) he_enSg hi247b)) ?_
  refine wpS_quick 1 rfl ?_
  refine wpS_nil ?_
  refine QH_seq_k hK244 ?_
  refine wpC_seq_k (fun K hK248 => ?_)
  refine wpC_seq_k (fun K hK249 => ?_)
  refine wpC_region ?_
  refine wpS_quick 1 rfl ?_
  refine wpS_nil ?_
  refine QH_seq_k hK249 ?_
  refine wpC_block ?_
  refine wpC_seq_k (fun K hK250 => ?_)
  refine wpC_region ?_
  refine wpS_put rfl rfl rfl (yv_eql rfl rfl) ?_
  refine wpS_quick 1 rfl ?_
  refine wpS_nil ?_
  refine QH_seq_k hK250 ?_
  refine wpC_cond_f rfl rfl ?_
  refine wpC_seq_k (fun K hK251 => ?_)
  refine wpC_region ?_
  refine wpS_put rfl rfl rfl (yv_eql rfl rfl) ?_
  refine wpS_quick 1 rfl ?_
  refine wpS_nil ?_
  refine QH_seq_k hK251 ?_
  refine wpC_cond_f rfl rfl ?_
  refine wpC_seq_k (fun K hK252 => ?_)
  refine wpC_region ?_
  refine wpS_put rfl rfl rfl (yv_eql rfl rfl) ?_
  refine wpS_quick 1 rfl ?_
  refine wpS_nil ?_
  refine QH_seq_k hK252 ?_
  refine wpC_cond_f rfl rfl ?_
  refine wpC_seq_k (fun K hK253 => ?_)
  refine wpC_region ?_
  refine wpS_put rfl rfl rfl (yv_eql rfl rfl) ?_
  refine wpS_quick 1 rfl ?_
  refine wpS_nil ?_
  refine QH_seq_k hK253 ?_
  refine wpC_cond_f rfl rfl ?_
  refine wpC_seq_k (fun K hK254 => ?_)
  refine wpC_region ?_
  refine wpS_put rfl rfl rfl (yv_eql rfl rfl) ?_
  refine wpS_quick 1 rfl ?_
  refine wpS_nil ?_
  refine QH_seq_k hK254 ?_
  refine wpC_cond_t rfl rfl ?_
  refine wpC_region ?_
  refine wpS_quick 2 rfl ?_
  refine wpS_put rfl rfl rfl (yx_sub rfl rfl) ?_
  refine wpS_put rfl rfl rfl (yx_nilCheck rfl (Rd.el (hS.row_rd hs1) he_enSg hi247b)) ?_
  refine wpS_put rfl rfl rfl (yx_fieldAddr fo_66_3 rfl (Rd.el (hS.row_rd hs1) he_enSg hi247b)) ?_
  refine wpX_storeR (a' := (⟨e245.seq, e245.fmt, e245.first, (IntKind.wrap .i64 ((-1) - x2))⟩ : Sg)) (zs := (setI r236.segs (Int.tmod (IntKind.wrap .i64 ((Int.tmod x1 (x0.segs.length : Int)) + (x0.segs.length : Int))) (x0.segs.length : Int)) (⟨e245.seq, e245.fmt, e245.first, (IntKind.wrap .i64 ((-1) - x2))⟩ : Sg))) he_enSg rfl rfl rfl CellsOf.int hS ps1 (Rd.el (hS.row_rd hs1) he_enSg hi247b) hi247a hi247b rfl st3_1 (by kernel_rfl) rfl (fun w hS => ?_)
  have hi255b := setI_at (a := (⟨e245.seq, e245.fmt, e245.first, (IntKind.wrap .i64 ((-1) - x2))⟩ : Sg)) hi247a hi247b
  have hi255a := hi247a
  refine wpS_nil ?_
  refine QH_block_normal ?_
  refine QH_seq_k hK248 ?_
  refine wpC_seq_k (fun K hK256 => ?_)
  refine wpC_region ?_
  refine wpS_put rfl rfl rfl (yv_load_boxA ag_50 rfl (RW.here _) hS hs0 trivial sg0_6) ?_
  obtain ⟨r257, hm258, H⟩ := bind_some H
  refine wpS_call rfl rfl rfl rfl (by kernel_rfl) (by (repeat rw [(setI_len rfl)]); rfl) (c_manifest_Check (⟨r236.next, r236.term, r236.vote, r236.snap, (setI r236.segs (Int.tmod (IntKind.wrap .i64 ((Int.tmod x1 (x0.segs.length : Int)) + (x0.segs.length : Int))) (x0.segs.length : Int)) (⟨e245.seq, e245.fmt, e245.first, (IntKind.wrap .i64 ((-1) - x2))⟩ : Sg))⟩ : Mf) A238 c239 _ (SlI.of_rd (k_set k240) (hS.row_rd hs1) (hS.row_blk hs1)) hm258) ?_
  rintro e w ⟨rfl, hN⟩; refine ⟨_, rfl, ?_⟩; have hB := hN.pure; have hS := hS.join hN; clear hN
  refine wpS_put rfl rfl rfl (yv_neq rfl rfl) ?_
  refine wpS_quick 1 rfl ?_
  refine wpS_case 156 rfl (fun hb => ?_) (fun hb => ?_)
  · replace H := cond_t H hb
    refine wpS_quick 4 rfl ?_
    refine wpS_nil ?_
    refine QH_seq_k hK256 ?_
    refine wpC_cond_t rfl rfl ?_
    refine wpC_seq_k (fun K hK260 => ?_)
    refine wpC_region ?_
    refine wpS_quick 1 rfl ?_
    refine wpS_nil ?_
    refine QH_seq_k hK260 ?_
    refine wpC_ret ?_
    refine QH_block_ret ?_
    refine QH_then_ret ?_
    refine QH_then_ret ?_
    refine QH_block_ret ?_
    refine QH_then_ret ?_
    refine QH_ret rfl (RV.tmp rfl RV.nil) rfl ?_
    obtain rfl := Option.some.inj H
    replace hS := hS.cut 0
    exact ⟨rfl, hS⟩
  replace H := cond_f H hb
  refine wpS_put rfl rfl rfl (yv_load_boxA ag_50 rfl (RW.here _) hS hs0 trivial sg0_6) ?_
  refine wpS_put rfl rfl rfl (yv_load_boxA ag_50 rfl (RW.here _) hS hs14 trivial sg0_6) ?_
  obtain ⟨r262, hm263, H⟩ := bind_some H
  refine wpS_call rfl rfl rfl rfl (by kernel_rfl) (by (repeat rw [(setI_len rfl)]); rfl) (c_manifest_Same (⟨r236.next, r236.term, r236.vote, r236.snap, (setI r236.segs (Int.tmod (IntKind.wrap .i64 ((Int.tmod x1 (x0.segs.length : Int)) + (x0.segs.length : Int))) (x0.segs.length : Int)) (⟨e245.seq, e245.fmt, e245.first, (IntKind.wrap .i64 ((-1) - x2))⟩ : Sg))⟩ : Mf) x0 A238 c239 A0_ c0_ _ (SlI.of_rd (k_set k240) (hS.row_rd hs1) (hS.row_blk hs1)) (SlI.of_rd s0_.k (hS.rd0 s0_.rd) (hS.blk0 s0_.blk)) hm263) ?_
  rintro e w ⟨rfl, hN⟩; refine ⟨_, rfl, ?_⟩; have hB := hN.pure; have hS := hS.join hN; clear hN
  refine wpS_quick 1 rfl ?_
  refine wpS_nil ?_
  refine QH_seq_k hK256 ?_
  refine wpC_cond rfl (fun hb => ?_) (fun hb => ?_)
  · replace H := cond_t H hb
    refine wpC_seq_k (fun K hK265 => ?_)
    refine wpC_region ?_
    refine wpS_quick 1 rfl ?_
    refine wpS_nil ?_
    refine QH_seq_k hK265 ?_
    refine wpC_ret ?_
    refine QH_block_ret ?_
    refine QH_then_ret ?_
    refine QH_then_ret ?_
    refine QH_block_ret ?_
    refine QH_then_ret ?_
    refine QH_ret rfl (RV.tmp rfl RV.nil) rfl ?_
    obtain rfl := Option.some.inj H
    replace hS := hS.cut 0
    exact ⟨rfl, hS⟩
  replace H := cond_f H hb
  refine wpC_skip ?_
  refine QH_block_normal ?_
  refine QH_seq_k hK234 ?_
  refine wpC_region ?_
  refine wpS_quick 1 rfl ?_
  refine wpS_put rfl rfl rfl (yx_add rfl rfl) ?_
  refine wpS_quick 1 rfl ?_
  refine wpS_nil ?_
  refine QH_more ?_
  refine wpC_seq_k (fun K hK267 => ?_)
  refine wpC_seq_k (fun K hK268 => ?_)
  refine wpC_region ?_
  refine wpS_quick 1 rfl ?_
  refine wpS_put rfl rfl rfl (yv_lss rfl rfl) ?_
  refine wpS_nil ?_
  refine QH_seq_k hK268 ?_
  refine wpC_cond_t rfl rfl ?_
  refine wpC_skip ?_
  refine QH_seq_k hK267 ?_
  refine wpC_seq_k (fun K hK269 => ?_)
  refine wpC_block ?_
  refine wpC_seq_k (fun K hK270 => ?_)
  refine wpC_region ?_
  refine wpS_put rfl rfl rfl (yv_load_boxA ag_50 rfl (RW.here _) hS hs14 trivial sg0_6) ?_
  obtain ⟨r271, hm272, H⟩ := bind_some H
  refine wpS_call rfl rfl rfl rfl (by kernel_rfl) rfl (c_ref11_Own x0 A0_ c0_ _ (SlI.of_rd s0_.k (hS.rd0 s0_.rd) (hS.blk0 s0_.blk)) hm272) ?_
  rintro e w ⟨A273, c274, rfl, k275, hN⟩; refine ⟨_, rfl, ?_⟩; have hB := hN.pure; have hS := hS.join hN; clear hN
  refine wpS_alloc rfl rfl zc_50 hS (fun b277 w hS hB => ?_)
  refine wpS_store rfl rfl rfl CellsOf.agg hS ps0 st0_6 (by kernel_rfl) rfl (fun w hS hB => ?_)
  refine wpS_nil ?_
  refine QH_seq_k hK270 ?_
  refine wpC_seq_k (fun K hK279 => ?_)
  refine wpC_region ?_
  refine wpS_put rfl rfl rfl (yv_fieldAddr fo_50_4 rfl) ?_
  refine wpS_put rfl rfl rfl (yv_load_box sc_48 rfl (RW.here _) hS hs0 trivial sg5_1) ?_
  refine wpS_quick 1 rfl ?_
  obtain ⟨e280, hi282, H⟩ := bind_some H
  obtain ⟨j281, hi282a, hi282b, hi282c⟩ := idx_some hi282
  refine wpS_put rfl rfl rfl (yx_idx el_48 rfl rfl hi282a hi282c (Rd.el (hS.row_rd hs1) he_enSg hi282b)) ?_
  refine wpS_quick 1 rfl ?_
  refine wpS_nil ?_
  refine QH_seq_k hK279 ?_
  refine wpC_seq_k (fun K hK283 => ?_)
  refine wpC_seq_k (fun K hK284 => ?_)
  refine wpC_region ?_
  refine wpS_quick 1 rfl ?_
  refine wpS_nil ?_
  refine QH_seq_k hK284 ?_
  refine wpC_block ?_
  refine wpC_seq_k (fun K hK285 => ?_)
  refine wpC_region ?_
  refine wpS_put rfl rfl rfl (yv_eql rfl rfl) ?_
  refine wpS_quick 1 rfl ?_
  refine wpS_nil ?_
  refine QH_seq_k hK285 ?_
  refine wpC_cond_f rfl rfl ?_
  refine wpC_seq_k (fun K hK286 => ?_)
  refine wpC_region ?_
  refine wpS_put rfl rfl rfl (yv_eql rfl rfl) ?_
  refine wpS_quick 1 rfl ?_
  refine wpS_nil ?_
  refine QH_seq_k hK286 ?_
  refine wpC_cond_f rfl rfl ?_
  refine wpC_seq_k (fun K hK287 => ?_)
  refine wpC_region ?_
  refine wpS_put rfl rfl rfl (yv_eql rfl rfl) ?_
  refine wpS_quick 1 rfl ?_
  refine wpS_nil ?_
  refine QH_seq_k hK287 ?_
  refine wpC_cond_f rfl rfl ?_
  refine wpC_seq_k (fun K hK288 => ?_)
  refine wpC_region ?_
  refine wpS_put rfl rfl rfl (yv_eql rfl rfl) ?_
  refine wpS_quick 1 rfl ?_
  refine wpS_nil ?_
  refine QH_seq_k hK288 ?_
  refine wpC_cond_f rfl rfl ?_
  refine wpC_seq_k (fun K hK289 => ?_)
  refine wpC_region ?_
  refine wpS_put rfl rfl rfl (yv_eql rfl rfl) ?_
  refine wpS_quick 1 rfl ?_
  refine wpS_nil ?_
  refine QH_seq_k hK289 ?_
  refine wpC_cond_f rfl rfl ?_
  refine wpC_seq_k (fun K hK290 => ?_)
  refine wpC_region ?_
  refine wpS_put rfl rfl rfl (yv_eql rfl rfl) ?_
  refine wpS_quick 1 rfl ?_
  refine wpS_nil ?_
  refine QH_seq_k hK290 ?_
  refine wpC_cond_t rfl rfl ?_
  refine wpC_draw 11 [8, 10] (fun i b => (i = 8 → False) ∧ (i = 10 → b ≠ b277)) ⟨by kernel_rfl, by kernel_rfl⟩ hS (fun w hS hB => ?_)
  refine wpR_batch [true, true, true, true, true, true, true] (by decide +kernel) (by repeat (first | exact PF.body | exact PF.round | apply PF.then | apply PF.inBlock | apply PF.jump)) ?_
  refine LtK.put rfl rfl rfl (yv_fieldAddr fo_50_4 rfl) ?_
  refine LtK.put rfl rfl rfl (yv_load_box sc_48 rfl (RW.below _) hS hs0 trivial sg5_1) ?_
  refine LtK.put rfl rfl rfl (yv_fieldAddr fo_50_4 rfl) ?_
  refine LtK.put rfl rfl rfl (yv_load_box sc_48 rfl (RW.below _) hS hs0 trivial sg5_1) ?_
  refine LtK.put rfl rfl rfl (yv_move rfl) ?_
  obtain ⟨e291, hi293, H⟩ := bind_some H
  obtain ⟨j292, hi293a, hi293b, hi293c⟩ := idx_some hi293
  refine LtK.put rfl rfl rfl (yx_idx el_48 rfl rfl hi293a hi293c (Rd.el (hS.row_rd hs1) he_enSg hi293b)) ?_
  refine LtK.put rfl rfl rfl (yx_ldA0 ag_66 rfl (RW.below _) (Rd.el (hS.row_rd hs1) he_enSg hi293b) sg0_4) ?_
  refine LtK.nil ?_
  refine wpR_call [false, false, false, false, false, false, false, true] 7 ⟨by decide, by kernel_rfl, by kernel_rfl⟩ rfl rfl ?_
  try dsimp only [pickL]
  refine wpS_sliceM (ps := [(0, .tmp 149)]) [.int .i64 e291.seq, .int .i64 e291.fmt, .int .i64 e291.first, .int .i64 e291.count] el_48 zc_66 rfl rfl rfl rfl rfl (by kernel_rfl) hS (fun b294 w hS hB => ?_)
  refine wpS_nil ?_
  refine QH_step hB ?_
  refine wpR_seal [false, false, false, false, false, false, false, false, true] 8 ⟨by decide, by kernel_rfl, by kernel_rfl⟩ rfl rfl ?_
  try dsimp only [pickL]
  obtain ⟨l296, hf297, H⟩ := bind_some H
  refine wpX_append2 (ys := ([e291] : List Sg)) he_enSg oc_enSg em_48 (by decide) rfl rfl rfl rfl hS (fun _ => ps2) (hS.box_rd hs0) hf297 (fun A298 c299 w k300 hS hB => ?_)
  refine wpS_nil ?_
  refine QH_stepG (hB.sub (fun _ _ h => by simp at h)) ?_
  refine wpR_batch [false, false, false, false, false, false, false, false, false, true] (by decide +kernel) (by repeat (first | exact PF.body | exact PF.round | apply PF.then | apply PF.inBlock | apply PF.jump)) ?_
  refine LtK.put rfl rfl rfl (yv_fieldAddr fo_50_4 rfl) ?_
  refine LtK.nil ?_
  refine wpR_seal [false, false, false, false, false, false, false, false, false, false, true] 10 ⟨by decide, by kernel_rfl, by kernel_rfl⟩ rfl rfl ?_
  try dsimp only [pickL]
  refine wpS_store rfl rfl rfl CellsOf.slice hS ps1 st5_1 (by kernel_rfl) rfl (fun w hS hB => ?_)
  refine wpS_nil ?_
  refine QH_stepG (hB.sub (fun _ _ h => by simpa using h)) ?_
  refine wpR_end (by kernel_rfl) ?_
  refine QH_block_normal ?_
  refine QH_seq_k hK283 ?_
  refine wpC_seq_k (fun K hK301 => ?_)
  refine wpC_region ?_
  refine wpS_put rfl rfl rfl (yv_load_boxA ag_50 rfl (RW.here _) hS hs1 trivial sg0_6) ?_
  obtain ⟨r302, hm303, H⟩ := bind_some H
  refine wpS_call rfl rfl rfl rfl (by kernel_rfl) rfl (c_manifest_Check (⟨r271.next, r271.term, r271.vote, r271.snap, l296⟩ : Mf) A298 c299 _ (SlI.of_rd k300 (hS.row_rd hs2) (hS.row_blk hs2)) hm303) ?_
  rintro e w ⟨rfl, hN⟩; refine ⟨_, rfl, ?_⟩; have hB := hN.pure; have hS := hS.join hN; clear hN
  refine wpS_put rfl rfl rfl (yv_neq rfl rfl) ?_
  refine wpS_quick 1 rfl ?_
  refine wpS_case 156 rfl (fun hb => ?_) (fun hb => ?_)
  · replace H := cond_t H hb
    refine wpS_quick 4 rfl ?_
    refine wpS_nil ?_
    refine QH_seq_k hK301 ?_
    refine wpC_cond_t rfl rfl ?_
    refine wpC_seq_k (fun K hK305 => ?_)
    refine wpC_region ?_
    refine wpS_quick 1 rfl ?_
    refine wpS_nil ?_
    refine QH_seq_k hK305 ?_
    refine wpC_ret ?_
    refine QH_block_ret ?_
    refine QH_then_ret ?_
    refine QH_then_ret ?_
    refine QH_block_ret ?_
    refine QH_then_ret ?_
    refine QH_ret rfl (RV.tmp rfl RV.nil) rfl ?_
    obtain rfl := Option.some.inj H
    replace hS := hS.cut 0
    exact ⟨rfl, hS⟩
  replace H := cond_f H hb
  refine wpS_put rfl rfl rfl (yv_load_boxA ag_50 rfl (RW.here _) hS hs1 trivial sg0_6) ?_
  refine wpS_put rfl rfl rfl (yv_load_boxA ag_50 rfl (RW.here _) hS hs17 trivial sg0_6) ?_
  obtain ⟨r307, hm308, H⟩ := bind_some H
  refine wpS_call rfl rfl rfl rfl (by kernel_rfl) rfl (c_manifest_Same (⟨r271.next, r271.term, r271.vote, r271.snap, l296⟩ : Mf) x0 A298 c299 A0_ c0_ _ (SlI.of_rd k300 (hS.row_rd hs2) (hS.row_blk hs2)) (SlI.of_rd s0_.k (hS.rd0 s0_.rd) (hS.blk0 s0_.blk)) hm308) ?_
  rintro e w ⟨rfl, hN⟩; refine ⟨_, rfl, ?_⟩; have hB := hN.pure; have hS := hS.join hN; clear hN
  refine wpS_quick 1 rfl ?_
  refine wpS_nil ?_
  refine QH_seq_k hK301 ?_
  refine wpC_cond rfl (fun hb => ?_) (fun hb => ?_)
  · replace H := cond_t H hb
    refine wpC_seq_k (fun K hK310 => ?_)
    refine wpC_region ?_
    refine wpS_quick 1 rfl ?_
    refine wpS_nil ?_
    refine QH_seq_k hK310 ?_
    refine wpC_ret ?_
    refine QH_block_ret ?_
    refine QH_then_ret ?_
    refine QH_then_ret ?_
    refine QH_block_ret ?_
    refine QH_then_ret ?_
    refine QH_ret rfl (RV.tmp rfl RV.nil) rfl ?_
    obtain rfl := Option.some.inj H
    replace hS := hS.cut 0
    exact ⟨rfl, hS⟩
  replace H := cond_f H hb
  refine wpC_skip ?_
  refine QH_block_normal ?_
  refine QH_seq_k hK269 ?_
  refine wpC_region ?_
  refine wpS_quick 1 rfl ?_
  refine wpS_put rfl rfl rfl (yx_add rfl rfl) ?_
  refine wpS_quick 1 rfl ?_
  refine wpS_nil ?_
  refine QH_more ?_
  refine wpC_seq_k (fun K hK312 => ?_)
  refine wpC_seq_k (fun K hK313 => ?_)
  refine wpC_region ?_
  refine wpS_quick 1 rfl ?_
  refine wpS_put rfl rfl rfl (yv_lss rfl rfl) ?_
  refine wpS_nil ?_
  refine QH_seq_k hK313 ?_
  refine wpC_cond_f rfl rfl ?_
  refine wpC_exit ?_
  refine QH_then_exit ?_
  refine QH_then_exit ?_
  refine QH_block_hit ?_
  refine QH_seq_k hK100 ?_
  refine wpC_seq_k (fun K hK314 => ?_)
  refine wpC_region ?_
  refine wpS_put rfl rfl rfl (yv_load_boxA ag_50 rfl (RW.here _) hS hs17 trivial sg0_6) ?_
  refine wpS_put rfl rfl rfl (yv_load_boxA ag_50 rfl (RW.here _) hS hs17 trivial sg0_6) ?_
  obtain ⟨r315, hm316, H⟩ := bind_some H
  refine wpS_call rfl rfl rfl rfl (by kernel_rfl) rfl (c_manifest_Same x0 x0 A0_ c0_ A0_ c0_ _ (SlI.of_rd s0_.k (hS.rd0 s0_.rd) (hS.blk0 s0_.blk)) (SlI.of_rd s0_.k (hS.rd0 s0_.rd) (hS.blk0 s0_.blk)) hm316) ?_
  rintro e w ⟨rfl, hN⟩; refine ⟨_, rfl, ?_⟩; have hB := hN.pure; have hS := hS.join hN; clear hN
  refine wpS_quick 1 rfl ?_
  refine wpS_case 164 rfl (fun hb => ?_) (fun hb => ?_)
  rotate_left
  · replace H := cond_f H hb
    refine wpS_quick 3 rfl ?_
    refine wpS_nil ?_
    refine QH_seq_k hK314 ?_
    refine wpC_ret ?_
    refine QH_ret rfl (RV.tmp rfl RV.nil) rfl ?_
    obtain rfl := Option.some.inj H
    replace hS := hS.cut 0
    exact ⟨rfl, hS⟩
  replace H := cond_t H hb
  obtain ⟨r318, hm319, H⟩ := bind_some H
  refine wpS_call rfl rfl rfl rfl (by kernel_rfl) rfl (c_law11_wakes _ (SlI.of_rd hT_.k (hS.rd0 hT_.rd) (hS.blk0 hT_.blk)) hm319) ?_
  rintro e w ⟨rfl, hN⟩; refine ⟨_, rfl, ?_⟩; have hB := hN.pure; have hS := hS.join hN; clear hN
  refine wpS_quick 2 rfl ?_
  refine wpS_nil ?_
  refine QH_seq_k hK314 ?_
  refine wpC_ret ?_
  refine QH_ret rfl (RV.tmp rfl RV.nil) rfl ?_
  obtain rfl := Option.some.inj H
  replace hS := hS.cut 0
  exact ⟨rfl, hS⟩
end Go.Proofs.YtofheinbbefbcaaDoor
